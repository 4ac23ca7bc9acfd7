/- What program and reference answer on links. No condition. -/
import Derived.Test.YtgodbldchaonpaaGreatQ
namespace Go.Proofs.YtgodbldchaonpaaGreat
open Go.RowKit
set_option linter.unusedVariables false
set_option maxRecDepth 100000
theorem box2 (w : World) (c0 c1 : Value) (t : TypeId) : ∃ W, W = w.alloc (.cells #[c0, c1] t) ∧ Bel w W ∧ w.heap.size < W.heap.size ∧ W.cell? ⟨w.heap.size, 0, none⟩ = some c0 ∧ W.cell? ⟨w.heap.size, 1, none⟩ = some c1 :=
  ⟨_, rfl, (Bel.refl w).alloc _, by simp, box_cell _ _ _ _ _ rfl, box_cell _ _ _ _ _ rfl⟩
/-- A row that can be read: a new one, seen from outside. -/
def MkR {α : Type} (enc : α → List Value) (sz : Nat) (xs : List α) (w : World) (e : Ending) (w' : World) : Prop := ∃ A c, e = .returned (.slice A xs.length c) ∧ xs.length ≤ c ∧ RdF enc sz w' A xs ∧ Bel w w'
theorem Mk.rd {α : Type} {enc : α → List Value} {ty : TypeId} {sz : Nat} (he : EncOk enc sz) {xs : List α} (hl : xs.length ≤ 17592186044416) {w w' : World} {e : Ending} (h : Mk enc ty sz xs w e w') : MkR enc sz xs w e w' := by
  obtain ⟨v, rfl, hown, hb⟩ := h
  obtain ⟨A, c, rfl, hc, hr⟩ := own_rd he hown hl
  exact ⟨A, c, rfl, hc, hr, hb⟩
set_option maxHeartbeats 2000000 in
theorem LinkOk_any (A G : Option Addr) (m got : List Int) (ac : Int) (c d : Nat) (w : World) (hc : m.length ≤ c) (ha : RdI w A m) (hg : RdI w G got) :
   Calls Tryz.prog 109 #[.slice A m.length c, .agg #[.int .i64 ac, .slice G got.length d]] w (Bl (.bool (linkOk m ac got)) w) := by
  have hlen := hg.len
  have HA := Hd.mk ha
  have HG := Hd.mk hg
  clear ha hg
  have hin := within_any ac 0 got.length
  cases hi : inB ac 0 got.length with
  | true =>
    rw [hi] at hin
    have hL : linkOk m ac got = isPre got (sentOf m) := by unfold linkOk; rw [hi]; rfl
    rw [hL]
    clear hL hi
    go_enter Tryz.func109, Tryz.ntmps109
    go_wp2
    obtain ⟨W, hW, hbW, hlt, d0, d1⟩ := box2 w (.int .i64 ac) (.slice G got.length d) 65
    rw [← hW]
    clear hW
    go_region_held3 (fun W' => W'.cell? ⟨w.heap.size, 0, none⟩ = some (.int .i64 ac) ∧ W'.cell? ⟨w.heap.size, 1, none⟩ = some (.slice G got.length d) ∧ Bel W W')
      (refine ⟨?_, ?_, ?_⟩ <;> first | assumption | exact (Bel.refl _).drew | exact hb.cell d0 | exact hb.cell d1 | exact hb2.cell (hb.cell d0) | exact hb2.cell (hb.cell d1) | exact Bel.trans ((Bel.refl _).drew) hb | exact Bel.trans (Bel.trans ((Bel.refl _).drew) hb) hb2)
      (first | (go_at_call 92; refine (hin _).mono ?_; rintro e w' ⟨rfl, rfl⟩) | (go_at_call 144; refine ((MemSent_any A m c _ hc (HA.out.bel (by repeat (first | exact Bel.refl _ | assumption | apply Bel.alloc | apply Bel.drewN | apply Bel.drew | (refine Bel.trans ?_ (by assumption)))))).mono fun _ _ h => h.rd encI_ok (by have := sent_len m; omega)).mono ?_; rintro e w' ⟨A', c', rfl, hcc, hrd, hb⟩; replace hrd := Hd.mk hrd) | (go_at_call 143; refine (IsPrefixOf_any G A' got (sentOf m) d c' _ hcc (HG.out.bel (by repeat (first | exact Bel.refl _ | assumption | apply Bel.alloc | apply Bel.drewN | apply Bel.drew | (refine Bel.trans ?_ (by assumption))))) hrd.out).mono ?_; rintro e w'' ⟨rfl, hb2⟩))
    all_goals go_wp2
    all_goals (go_ret; exact ⟨rfl, (by repeat (first | exact Bel.refl _ | assumption | apply Bel.alloc | apply Bel.drewN | apply Bel.drew | (refine Bel.trans ?_ (by assumption))))⟩)
  | false =>
    rw [hi] at hin
    have hL : linkOk m ac got = false := by unfold linkOk; rw [hi]; rfl
    rw [hL]
    clear hL hi
    go_enter Tryz.func109, Tryz.ntmps109
    go_wp2
    go_quiet ((go_at_call 92; exact Calls.quiet_of_same ((hin _).mono fun _ _ h => ⟨h.1, h.2.symm⟩)))
    all_goals go_wp2
    all_goals (go_ret; exact ⟨rfl, (by repeat (first | exact Bel.refl _ | assumption | apply Bel.alloc | apply Bel.drewN | apply Bel.drew | (refine Bel.trans ?_ (by assumption))))⟩)
set_option maxHeartbeats 2000000 in
theorem sLinkOk_any (A G : Option Addr) (m got : List Int) (ac : Int) (c d : Nat) (w : World) (hc : m.length ≤ c) (ha : RdI w A m) (hg : RdI w G got) :
   Calls Tryz.prog 101 #[.slice A m.length c, .agg #[.int .i64 ac, .slice G got.length d]] w (Bl (.bool (linkOk m ac got)) w) := by
  have hlen := hg.len
  have HA := Hd.mk ha
  have HG := Hd.mk hg
  clear ha hg
  have hin := l01In_any ac 0 got.length
  cases hi : inB ac 0 got.length with
  | true =>
    rw [hi] at hin
    have hL : linkOk m ac got = isPre got (sentOf m) := by unfold linkOk; rw [hi]; rfl
    rw [hL]
    clear hL hi
    go_enter Tryz.func101, Tryz.ntmps101
    go_wp2
    obtain ⟨W, hW, hbW, hlt, d0, d1⟩ := box2 w (.int .i64 ac) (.slice G got.length d) 65
    rw [← hW]
    clear hW
    go_region_held3 (fun W' => W'.cell? ⟨w.heap.size, 0, none⟩ = some (.int .i64 ac) ∧ W'.cell? ⟨w.heap.size, 1, none⟩ = some (.slice G got.length d) ∧ Bel W W')
      (refine ⟨?_, ?_, ?_⟩ <;> first | assumption | exact (Bel.refl _).drew | exact hb.cell d0 | exact hb.cell d1 | exact hb2.cell (hb.cell d0) | exact hb2.cell (hb.cell d1) | exact Bel.trans ((Bel.refl _).drew) hb | exact Bel.trans (Bel.trans ((Bel.refl _).drew) hb) hb2)
      (first | (go_at_call 71; refine (hin _).mono ?_; rintro e w' ⟨rfl, rfl⟩) | (go_at_call 140; refine ((sMemSent_any A m c _ hc (HA.out.bel (by repeat (first | exact Bel.refl _ | assumption | apply Bel.alloc | apply Bel.drewN | apply Bel.drew | (refine Bel.trans ?_ (by assumption)))))).mono fun _ _ h => h.rd encI_ok (by have := sent_len m; omega)).mono ?_; rintro e w' ⟨A', c', rfl, hcc, hrd, hb⟩; replace hrd := Hd.mk hrd) | (go_at_call 139; refine (sIsPrefixOf_any G A' got (sentOf m) d c' _ (HG.out.bel (by repeat (first | exact Bel.refl _ | assumption | apply Bel.alloc | apply Bel.drewN | apply Bel.drew | (refine Bel.trans ?_ (by assumption))))) hrd.out).mono ?_; rintro e w'' ⟨rfl, hb2⟩))
    all_goals go_wp2
    all_goals (go_ret; exact ⟨rfl, (by repeat (first | exact Bel.refl _ | assumption | apply Bel.alloc | apply Bel.drewN | apply Bel.drew | (refine Bel.trans ?_ (by assumption))))⟩)
  | false =>
    rw [hi] at hin
    have hL : linkOk m ac got = false := by unfold linkOk; rw [hi]; rfl
    rw [hL]
    clear hL hi
    go_enter Tryz.func101, Tryz.ntmps101
    go_wp2
    go_quiet ((go_at_call 71; exact Calls.quiet_of_same ((hin _).mono fun _ _ h => ⟨h.1, h.2.symm⟩)))
    all_goals go_wp2
    all_goals (go_ret; exact ⟨rfl, (by repeat (first | exact Bel.refl _ | assumption | apply Bel.alloc | apply Bel.drewN | apply Bel.drew | (refine Bel.trans ?_ (by assumption))))⟩)
end Go.Proofs.YtgodbldchaonpaaGreat

/- New memories; copies of tasks and programs. No condition. -/
import Derived.Test.YtgodbldchaonpaaBX
import Derived.Test.YtgodbldchaonpaaAZ
import Derived.Test.YtgodbldchaonpaaU
import Derived.Deep.AppendLies
namespace Go.Proofs.Ytgodbldchaonpaa
open Go.RowKit
set_option linter.unusedVariables false
set_option maxRecDepth 100000
def varsOk (xs : List Int) : Bool := decide (xs.length = 8) && xs.all vOk
set_option maxHeartbeats 1000000 in
theorem VarsOk_any (A : Option Addr) (xs : List Int) (c : Nat) (w : World) (ha : RdI w A xs) : Calls Try.prog 59 #[.slice A xs.length c] w (Bl (.bool (varsOk xs)) w) := by
  have HA := Hd.mk ha
  clear ha
  go_enter Try.func59, Try.ntmps59
  go_wp2_with (go_at_call 33; refine (areValues_any _ _ _ _ (HA.out.bel (by repeat (first | exact Bel.refl _ | assumption | apply Bel.alloc | apply Bel.drewN | apply Bel.drew | (refine Bel.trans ?_ (by assumption)))))).mono ?_; rintro e w' ⟨rfl, hb⟩; obtain ⟨hc, hf⟩ := hb.rd)
  all_goals (go_ret; refine ⟨retB ?_, (by repeat (first | exact Bel.refl _ | assumption | apply Bel.alloc | apply Bel.drewN | apply Bel.drew | (refine Bel.trans ?_ (by assumption))))⟩; unfold varsOk; first | (simp_all; done) | grind)
theorem vars_end {xs : List Int} {k : Nat} (h : (xs.take k).all vOk = true) (hk : xs.length ≤ k) : varsOk xs = decide (xs.length = 8) := by
  unfold varsOk; rw [all_of_take h hk, Bool.and_true]
theorem vars_no {xs : List Int} {k : Nat} (hk : k < xs.length) (h : vOk xs[k] = false) : varsOk xs = false := by
  unfold varsOk; rw [all_false hk h, Bool.and_false]
set_option maxHeartbeats 1000000 in
theorem sVarsOk_any (A : Option Addr) (xs : List Int) (c : Nat) (w : World) (ha : RdI w A xs) : Calls Try.prog 53 #[.slice A xs.length c] w (Bl (.bool (varsOk xs)) w) := by
  have hlen := ha.len
  have HA := Hd.mk ha
  clear ha
  go_enter Try.func53, Try.ntmps53
  go_wp2
  go_loopw [3] (fun i wr => ∃ k : Nat, k ≤ xs.length ∧ i = .int .i64 k ∧ Hd ((xs.take k).all vOk = true) ∧ Bel w wr) (fun i _ => xs.length - (intOf i).toNat)
  case atStart => exact ⟨0, Nat.zero_le _, rfl, ⟨by simp⟩, Bel.refl _⟩
  case round =>
    obtain ⟨k, hk, rfl, HT, HBL⟩ := hrel
    by_cases hlt : k < xs.length
    · obtain ⟨b, off, rfl, c0⟩ := (HA.out.bel HBL).atI k hlt
      have hcall := sIsValue_any xs[k]
      cases hst : vOk xs[k] with
      | true =>
        rw [hst] at hcall
        replace hst := Hd.mk hst
        go_wp2_with (go_at_call 57; refine (hcall _).mono ?_; rintro e w' ⟨rfl, rfl⟩)
        go_roundw
        case rel => exact ⟨k + 1, by omega, by go_num, ⟨all_take_succ HT.out hlt hst.out⟩, (by repeat (first | exact Bel.refl _ | assumption | apply Bel.alloc | apply Bel.drewN | apply Bel.drew | (refine Bel.trans ?_ (by assumption))))⟩
        case measure => simp [intOf]; omega
      | false =>
        rw [hst] at hcall
        replace hst := Hd.mk hst
        go_wp2_with (go_at_call 57; refine (hcall _).mono ?_; rintro e w' ⟨rfl, rfl⟩)
        go_ret
        exact ⟨retB (vars_no hlt hst.out).symm, (by repeat (first | exact Bel.refl _ | assumption | apply Bel.alloc | apply Bel.drewN | apply Bel.drew | (refine Bel.trans ?_ (by assumption))))⟩
    · have e := Hd.mk (vars_end HT.out (by omega))
      go_wp2
      go_ret
      exact ⟨retB (by rw [e.out]; first | (rw [decide_eq_decide]; omega) | (simp_all; done) | grind), (by repeat (first | exact Bel.refl _ | assumption | apply Bel.alloc | apply Bel.drewN | apply Bel.drew | (refine Bel.trans ?_ (by assumption))))⟩
def memNew (xs : List Int) : List Int := xs ++ List.replicate 41 0
theorem memNew_flat (xs : List Int) : (memNew xs).flatMap encI = xs.flatMap encI ++ List.replicate 41 (.int .i64 0) := by
  unfold memNew; rw [List.flatMap_append]; rfl
theorem memNew_len (xs : List Int) : (memNew xs).length = xs.length + 41 := by simp [memNew]
/-- A new row beside a bool. -/
def MkP (xs : List Int) (b : Bool) (w : World) (e : Ending) (w' : World) : Prop := ∃ v, e = .returned (.tuple #[v, .bool b]) ∧ w'.ownsRow w.heap.size 3 1 v xs.length (xs.flatMap encI) ∧ Bel w w'
def memNewR (xs : List Int) : List Int := if varsOk xs = true then memNew xs else []
theorem varsOk_len {xs : List Int} (h : varsOk xs = true) : xs.length = 8 := by
  unfold varsOk at h; simp at h; exact h.1
set_option maxHeartbeats 1000000 in
theorem MemNew_any (A : Option Addr) (xs : List Int) (c : Nat) (w : World) (ha : RdI w A xs) : Calls Try.prog 30 #[.slice A xs.length c] w (MkP (memNewR xs) (varsOk xs) w) := by
  have hv := fun W h => VarsOk_any A xs c W h
  have HA := Hd.mk ha
  clear ha
  cases h : varsOk xs with
  | false =>
    have e : memNewR xs = [] := by unfold memNewR; rw [h]; rfl
    rw [e]
    rw [h] at hv
    clear h e
    go_enter Try.func30, Try.ntmps30
    go_wp2_with (go_at_call 59; refine (hv _ HA.out).mono ?_; rintro e w' ⟨rfl, hb⟩; obtain ⟨hc, hf⟩ := hb.rd)
    go_ret2
    exact ⟨_, rfl, own_nil _ _ _ _, (by repeat (first | exact Bel.refl _ | assumption | apply Bel.alloc | apply Bel.drewN | apply Bel.drew | (refine Bel.trans ?_ (by assumption))))⟩
  | true =>
    have e : memNewR xs = memNew xs := by unfold memNewR; rw [h]; rfl
    have hl := Hd.mk (varsOk_len h)
    rw [e]
    rw [h] at hv
    clear h e
    go_enter Try.func30, Try.ntmps30
    go_wp2_with (first
      | (go_at_call 59; refine (hv _ HA.out).mono ?_; rintro e w1 ⟨rfl, hb1⟩)
      | (go_at_call 35; refine (CloneI_any A xs c _ (HA.out.bel hb1)).mono ?_; rintro e w2 ⟨v, rfl, hown, hb2⟩; replace hown := Hd.mk hown)
      | (at_builtin; refine app_zeros w1.heap.size rfl _ _ 25 3 3 rfl Try.underlying25 Try.underlying3 infoI _ xs.length 41 (xs.flatMap encI) (by decide) rfl rfl hown.out hb2.size (by rw [hl.out]; decide) ?_; intro v1 w3 hown3 hg3; replace hown3 := Hd.mk hown3; replace hg3 := Hd.mk hg3))
    go_ret2
    refine ⟨v1, rfl, ?_, (hb1.trans (Bel.of_grown hb2 hg3.out (fun k hk => (hown.out.lt k hk).1)))⟩
    rw [memNew_flat, memNew_len]
    exact own_raise hown3.out (fun k hk => by have h1 := (hown3.out.lt k hk).1; have h2 := hb1.size; omega)
set_option maxHeartbeats 1000000 in
theorem sMemNew_any (A : Option Addr) (xs : List Int) (c : Nat) (w : World) (ha : RdI w A xs) : Calls Try.prog 24 #[.slice A xs.length c] w (MkP (memNewR xs) (varsOk xs) w) := by
  have hv := fun W h => sVarsOk_any A xs c W h
  have HA := Hd.mk ha
  clear ha
  cases h : varsOk xs with
  | false =>
    have e : memNewR xs = [] := by unfold memNewR; rw [h]; rfl
    rw [e]
    rw [h] at hv
    clear h e
    go_enter Try.func24, Try.ntmps24
    go_wp2_with (go_at_call 53; refine (hv _ HA.out).mono ?_; rintro e w1 ⟨rfl, hb1⟩)
    go_ret2
    exact ⟨_, rfl, own_lit0 _ _ _ _ hb1.size, hb1.alloc _⟩
  | true =>
    have e : memNewR xs = memNew xs := by unfold memNewR; rw [h]; rfl
    have hl := Hd.mk (varsOk_len h)
    rw [e]
    rw [h] at hv
    clear h e
    go_enter Try.func24, Try.ntmps24
    go_wp2_with (first
      | (go_at_call 53; refine (hv _ HA.out).mono ?_; rintro e w1 ⟨rfl, hb1⟩)
      | (at_builtin; refine app_row encI 1 encI_ok (by decide) w1.heap.size rfl _ _ 25 3 (.int .i64 0) 8 rfl Try.underlying25 infoI rfl (by decide) _ [] xs _ _ rfl rfl (own_lit0 w1 w1.heap.size _ _ (Nat.le_refl _)) ((HA.out.bel hb1).bel ((Bel.refl _).alloc _)) (by simp) (by rw [hl.out]; decide) ?_; intro v1 w2 hown hg2 hat; replace hown := Hd.mk hown; have hb2 := Hd.mk (Bel.of_grown ((Bel.refl w1).alloc _) hg2 (by intro k hk; cases hk; exact Nat.le_refl _)); clear hat)
      | (at_builtin; refine app_zeros w1.heap.size rfl _ _ 25 3 3 rfl Try.underlying25 Try.underlying3 infoI _ xs.length 41 (xs.flatMap encI) (by decide) rfl rfl hown.out hb2.out.size (by rw [hl.out]; decide) ?_; intro v1 w3 hown3 hg3; replace hown3 := Hd.mk hown3; replace hg3 := Hd.mk hg3))
    go_ret2
    refine ⟨v1, rfl, ?_, (hb1.trans (Bel.of_grown hb2.out hg3.out (fun k hk => (hown.out.lt k hk).1)))⟩
    rw [memNew_flat, memNew_len]
    exact own_raise hown3.out (fun k hk => by have h1 := (hown3.out.lt k hk).1; have h2 := hb1.size; omega)
end Go.Proofs.Ytgodbldchaonpaa

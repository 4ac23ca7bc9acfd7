/- What program and reference answer on rules. No condition. -/
import Derived.Test.YtgodbldchaonpaaGreatRW
namespace Go.Proofs.YtgodbldchaonpaaGreat
open Go.RowKit
set_option linter.unusedVariables false
set_option linter.unusedSimpArgs false
set_option maxRecDepth 100000
def rulesOk (es : List Ex) : Bool := decide (es.length = 8) && es.all exOk
theorem RulesOk1_any (e : Ex) (w : World) : Calls Tryz.prog 85 #[.agg #[.int .i64 e.op, .int .i64 e.a, .int .i64 e.b]] w (Bl (.bool (!exOk e)) w) := by
  go_enter Tryz.func85, Tryz.ntmps85
  go_wp2_with (go_at_call 86; refine (ExprOk_any e _).mono ?_; rintro e w' ⟨rfl, hb⟩; obtain ⟨hc, hf⟩ := hb.rd)
  all_goals (go_ret; refine ⟨rfl, ?_⟩; repeat (first | exact Bel.refl _ | assumption | apply Bel.alloc | apply Bel.drewN | apply Bel.drew | (refine Bel.trans ?_ (by assumption))))
set_option maxHeartbeats 1000000 in
theorem IndexFuncX_any (A : Option Addr) (xs : List Ex) (c : Nat) (w : World) (ha : RdX w A xs) : Calls Tryz.prog 130 #[.slice A xs.length c, .func (.func 85) #[] #[]] w (Idx (!xs.all exOk) w) := by
  have hlen := RdF.len ha
  have HA := Hd.mk ha
  clear ha
  go_enter Tryz.func130, Tryz.ntmps130
  go_wp2
  go_loopw [8] (fun i wr => ∃ k : Nat, k ≤ xs.length ∧ i = .int .i64 k ∧ Hd ((xs.take k).all exOk = true) ∧ Bel w wr) (fun i _ => xs.length - (intOf i).toNat)
  case atStart => exact ⟨0, Nat.zero_le _, rfl, ⟨by simp⟩, Bel.refl _⟩
  case round =>
    obtain ⟨k, hk, rfl, HT, HBL⟩ := hrel
    by_cases hlt : k < xs.length
    · obtain ⟨b, off, rfl, c0, c1, c2⟩ := (HA.out.bel HBL).atX k hlt
      have hcall := RulesOk1_any xs[k]
      cases hst : exOk xs[k] with
      | true =>
        rw [hst] at hcall
        replace hst := Hd.mk hst
        go_wp2_with (go_at_call 85; refine (hcall _).mono ?_; rintro e w' ⟨rfl, hb⟩; obtain ⟨hc, hf⟩ := hb.rd)
        go_roundw
        case rel => exact ⟨k + 1, by omega, by go_num, ⟨all_take_succ HT.out hlt hst.out⟩, (by repeat (first | exact Bel.refl _ | assumption | apply Bel.alloc | apply Bel.drewN | apply Bel.drew | (refine Bel.trans ?_ (by assumption))))⟩
        case measure => simp [intOf]; omega
      | false =>
        rw [hst] at hcall
        replace hst := Hd.mk hst
        go_wp2_with (go_at_call 85; refine (hcall _).mono ?_; rintro e w' ⟨rfl, hb⟩; obtain ⟨hc, hf⟩ := hb.rd)
        go_ret
        refine ⟨k, ?_, rfl, (by repeat (first | exact Bel.refl _ | assumption | apply Bel.alloc | apply Bel.drewN | apply Bel.drew | (refine Bel.trans ?_ (by assumption))))⟩
        rw [all_false hlt hst.out]; simp
    · have e := Hd.mk (all_of_take HT.out (by omega))
      go_wp2
      go_ret
      refine ⟨-1, ?_, rfl, (by repeat (first | exact Bel.refl _ | assumption | apply Bel.alloc | apply Bel.drewN | apply Bel.drew | (refine Bel.trans ?_ (by assumption))))⟩
      rw [e.out]; rfl
theorem ContainsFuncX_any (A : Option Addr) (xs : List Ex) (c : Nat) (w : World) (ha : RdX w A xs) : Calls Tryz.prog 84 #[.slice A xs.length c, .func (.func 85) #[] #[]] w (Bl (.bool (!xs.all exOk)) w) := by
  go_enter Tryz.func84, Tryz.ntmps84
  go_wp2_with (go_at_call 130; refine (IndexFuncX_any _ _ _ _ ha).mono ?_; rintro e w' ⟨r, hr, rfl, hb⟩; replace hr := Hd.mk hr)
  go_ret
  exact ⟨retB (by rw [← hr.out]), hb⟩
set_option maxHeartbeats 1000000 in
theorem RulesOk_any (A : Option Addr) (es : List Ex) (c : Nat) (w : World) (ha : RdX w A es) : Calls Tryz.prog 41 #[.agg #[.slice A es.length c]] w (Bl (.bool (rulesOk es)) w) := by
  have HA := Hd.mk ha
  clear ha
  go_enter Tryz.func41, Tryz.ntmps41
  go_wp2_with (go_at_call 84; refine (ContainsFuncX_any _ _ _ _ (HA.out.bel (by repeat (first | exact Bel.refl _ | assumption | apply Bel.alloc | apply Bel.drewN | apply Bel.drew | (refine Bel.trans ?_ (by assumption)))))).mono ?_; rintro e w' ⟨rfl, hb⟩; obtain ⟨hc, hf⟩ := hb.rd)
  all_goals (go_ret; refine ⟨retB ?_, ?_⟩; rotate_left; (repeat (first | exact Bel.refl _ | assumption | apply Bel.alloc | apply Bel.drewN | apply Bel.drew | (refine Bel.trans ?_ (by assumption)))); unfold rulesOk; first | (simp_all; done) | grind)
theorem rules_end {xs : List Ex} {k : Nat} (h : (xs.take k).all exOk = true) (hk : xs.length ≤ k) : rulesOk xs = decide (xs.length = 8) := by
  unfold rulesOk; rw [all_of_take h hk, Bool.and_true]
theorem rules_no {xs : List Ex} {k : Nat} (hk : k < xs.length) (h : exOk xs[k] = false) : rulesOk xs = false := by
  unfold rulesOk; rw [all_false hk h, Bool.and_false]
set_option maxHeartbeats 2000000 in
theorem sRulesOk_any (A : Option Addr) (es : List Ex) (c : Nat) (w : World) (ha : RdX w A es) : Calls Tryz.prog 32 #[.agg #[.slice A es.length c]] w (Bl (.bool (rulesOk es)) w) := by
  have hlen := RdF.len ha
  have HA := Hd.mk ha
  clear ha
  go_enter Tryz.func32, Tryz.ntmps32
  go_wp2
  obtain ⟨W, hW, hbW, hsW, d0⟩ : ∃ W, W = w.alloc (.cells #[.slice A es.length c] 40) ∧ Bel w W ∧ W.heap.size = w.heap.size + 1 ∧ W.cell? ⟨w.heap.size, 0, none⟩ = some (.slice A es.length c) := ⟨_, rfl, (Bel.refl w).alloc _, by simp, box_cell _ _ _ _ _ rfl⟩
  rw [← hW]
  clear hW
  have hbs : w.heap.size < W.heap.size := by omega
  go_loopw [3] (fun i wr => ∃ k : Nat, k ≤ es.length ∧ i = .int .i64 k ∧ Hd ((es.take k).all exOk = true) ∧ Bel W wr) (fun i _ => es.length - (intOf i).toNat)
  case atStart => exact ⟨0, Nat.zero_le _, rfl, ⟨by simp⟩, Bel.refl _⟩
  case round =>
    obtain ⟨k, hk, rfl, HT, HBL⟩ := hrel
    have e0 := HBL.cell d0
    have hz0 : w.heap.size < wr.heap.size := World.block_lt_of_cell? _ _ e0
    by_cases hlt : k < es.length
    · obtain ⟨b, off, rfl, c0, c1, c2⟩ := (HA.out.bel (hbW.trans HBL)).atX k hlt
      have hbz : b < wr.heap.size := World.block_lt_of_cell? _ _ c0
      have hcall := sExprOk_any es[k]
      cases hst : exOk es[k] with
      | true =>
        rw [hst] at hcall
        replace hst := Hd.mk hst
        go_wp2_with (go_at_call 73; refine (hcall _).mono ?_; rintro e w' ⟨rfl, hb⟩; obtain ⟨hc, hf⟩ := hb.rd)
        go_roundw
        case rel => exact ⟨k + 1, by omega, by go_num, ⟨all_take_succ HT.out hlt hst.out⟩, (by repeat (first | exact Bel.refl _ | assumption | apply Bel.alloc | apply Bel.drewN | apply Bel.drew | (refine Bel.trans ?_ (by assumption))))⟩
        case measure => simp [intOf]; omega
      | false =>
        rw [hst] at hcall
        replace hst := Hd.mk hst
        go_wp2_with (go_at_call 73; refine (hcall _).mono ?_; rintro e w' ⟨rfl, hb⟩; obtain ⟨hc, hf⟩ := hb.rd)
        go_ret
        exact ⟨retB (rules_no hlt hst.out).symm, (by repeat (first | exact Bel.refl _ | assumption | apply Bel.alloc | apply Bel.drewN | apply Bel.drew | (refine Bel.trans ?_ (by assumption))))⟩
    · have e := Hd.mk (rules_end HT.out (by omega))
      go_wp2
      go_ret
      exact ⟨retB (by rw [e.out]; first | (rw [decide_eq_decide]; omega) | (simp_all; done) | grind), (by repeat (first | exact Bel.refl _ | assumption | apply Bel.alloc | apply Bel.drewN | apply Bel.drew | (refine Bel.trans ?_ (by assumption))))⟩
end Go.Proofs.YtgodbldchaonpaaGreat

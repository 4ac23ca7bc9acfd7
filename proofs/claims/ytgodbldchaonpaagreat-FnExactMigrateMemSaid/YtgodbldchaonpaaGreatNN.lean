/- New memories; copies of tasks and programs. No condition. -/
import Derived.Test.YtgodbldchaonpaaGreatBX
import Derived.Test.YtgodbldchaonpaaGreatAZ
import Derived.Test.YtgodbldchaonpaaGreatU
import Derived.Deep.AppendLies
namespace Go.Proofs.YtgodbldchaonpaaGreat
open Go.RowKit
set_option linter.unusedVariables false
set_option maxRecDepth 100000
def varsOk (xs : List Int) : Bool := decide (xs.length = 8) && xs.all vOk
set_option maxHeartbeats 1000000 in
theorem VarsOk_any (A : Option Addr) (xs : List Int) (c : Nat) (w : World) (ha : RdI w A xs) : Calls Tryz.prog 89 #[.slice A xs.length c] w (Bl (.bool (varsOk xs)) w) := by
  have HA := Hd.mk ha
  clear ha
  go_enter Tryz.func89, Tryz.ntmps89
  go_wp2_with (go_at_call 81; refine (areValues_any _ _ _ _ (HA.out.bel (by repeat (first | exact Bel.refl _ | assumption | apply Bel.alloc | apply Bel.drewN | apply Bel.drew | (refine Bel.trans ?_ (by assumption)))))).mono ?_; rintro e w' ⟨rfl, hb⟩; obtain ⟨hc, hf⟩ := hb.rd)
  all_goals (go_ret; refine ⟨retB ?_, (by repeat (first | exact Bel.refl _ | assumption | apply Bel.alloc | apply Bel.drewN | apply Bel.drew | (refine Bel.trans ?_ (by assumption))))⟩; unfold varsOk; first | (simp_all; done) | grind)
theorem vars_end {xs : List Int} {k : Nat} (h : (xs.take k).all vOk = true) (hk : xs.length ≤ k) : varsOk xs = decide (xs.length = 8) := by
  unfold varsOk; rw [all_of_take h hk, Bool.and_true]
theorem vars_no {xs : List Int} {k : Nat} (hk : k < xs.length) (h : vOk xs[k] = false) : varsOk xs = false := by
  unfold varsOk; rw [all_false hk h, Bool.and_false]
set_option maxHeartbeats 1000000 in
theorem sVarsOk_any (A : Option Addr) (xs : List Int) (c : Nat) (w : World) (ha : RdI w A xs) : Calls Tryz.prog 76 #[.slice A xs.length c] w (Bl (.bool (varsOk xs)) w) := by
  have hlen := ha.len
  have HA := Hd.mk ha
  clear ha
  go_enter Tryz.func76, Tryz.ntmps76
  go_wp2
  go_loopw [3] (fun i wr => ∃ k : Nat, k ≤ xs.length ∧ i = .int .i64 k ∧ Hd ((xs.take k).all vOk = true) ∧ Bel w wr) (fun i _ => xs.length - (intOf i).toNat)
  case atStart => exact ⟨0, Nat.zero_le _, rfl, ⟨by simp⟩, Bel.refl _⟩
  case round =>
    obtain ⟨k, hk, rfl, HT, HBL⟩ := hrel
    by_cases hlt : k < xs.length
    · obtain ⟨b, off, rfl, c0⟩ := (HA.out.bel HBL).atI k hlt
      have hcall := sIsValue_any xs[k]
      cases hst : vOk xs[k] with
      | true =>
        rw [hst] at hcall
        replace hst := Hd.mk hst
        go_wp2_with (go_at_call 72; refine (hcall _).mono ?_; rintro e w' ⟨rfl, rfl⟩)
        go_roundw
        case rel => exact ⟨k + 1, by omega, by go_num, ⟨all_take_succ HT.out hlt hst.out⟩, (by repeat (first | exact Bel.refl _ | assumption | apply Bel.alloc | apply Bel.drewN | apply Bel.drew | (refine Bel.trans ?_ (by assumption))))⟩
        case measure => simp [intOf]; omega
      | false =>
        rw [hst] at hcall
        replace hst := Hd.mk hst
        go_wp2_with (go_at_call 72; refine (hcall _).mono ?_; rintro e w' ⟨rfl, rfl⟩)
        go_ret
        exact ⟨retB (vars_no hlt hst.out).symm, (by repeat (first | exact Bel.refl _ | assumption | apply Bel.alloc | apply Bel.drewN | apply Bel.drew | (refine Bel.trans ?_ (by assumption))))⟩
    · have e := Hd.mk (vars_end HT.out (by omega))
      go_wp2
      go_ret
      exact ⟨retB (by rw [e.out]; first | (rw [decide_eq_decide]; omega) | (simp_all; done) | grind), (by repeat (first | exact Bel.refl _ | assumption | apply Bel.alloc | apply Bel.drewN | apply Bel.drew | (refine Bel.trans ?_ (by assumption))))⟩
def memNew (xs : List Int) : List Int := xs ++ List.replicate 41 0
theorem memNew_flat (xs : List Int) : (memNew xs).flatMap encI = xs.flatMap encI ++ List.replicate 41 (.int .i64 0) := by
  unfold memNew; rw [List.flatMap_append]; rfl
theorem memNew_len (xs : List Int) : (memNew xs).length = xs.length + 41 := by simp [memNew]
/-- A new row beside a bool. -/
def MkP (xs : List Int) (b : Bool) (w : World) (e : Ending) (w' : World) : Prop := ∃ v, e = .returned (.tuple #[v, .bool b]) ∧ w'.ownsRow w.heap.size 3 1 v xs.length (xs.flatMap encI) ∧ Bel w w'
def memNewR (xs : List Int) : List Int := if varsOk xs = true then memNew xs else []
theorem varsOk_len {xs : List Int} (h : varsOk xs = true) : xs.length = 8 := by
  unfold varsOk at h; simp at h; exact h.1

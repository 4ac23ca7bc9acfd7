/- The laws' own marks on statements. No condition. -/
import Derived.Test.YtgodbldchaonpaaGreatM
namespace Go.Proofs.YtgodbldchaonpaaGreat
open Go.RowKit
set_option linter.unusedVariables false
set_option maxRecDepth 100000
def mkS (k : Int) : St := ⟨k, k + 1, k + 2, k + 3, k + 4, k + 5⟩
def mkSs (k : Int) (n : Nat) : List St := (List.range n).map (fun (i : Nat) => mkS (k + 6 * (i : Int)))
theorem mkSs_len (k : Int) (n : Nat) : (mkSs k n).length = n := by simp [mkSs]
theorem mkSs_get (k : Int) (n i : Nat) (h : i < (mkSs k n).length) : (mkSs k n)[i] = mkS (k + 6 * (i : Int)) := by simp [mkSs]
set_option maxHeartbeats 4000000 in
theorem markStmtS_any (lo : Nat) (A : Option Addr) (n : Nat) (cs : List Value) (c : Nat) (k : Int) (w : World) (ho : w.ownsRow lo 154 6 (.slice A n c) n cs) (h0 : 0 ≤ k) (hk : k + 6 * n ≤ 4611686018427387904) (hl : n ≤ 1099511627776) :
    Calls Tryz.prog 95 #[.slice A n c, .int .i64 k] w (Mrk (.slice A n c) k (6 * n) (fun w' => w'.ownsRow lo 154 6 (.slice A n c) n ((mkSs k n).flatMap encS)) (fun b => (Value.slice A n c).ownBlock = some b) w) := by
  have HO0 := Hd.mk ho
  clear ho
  go_enter Tryz.func95, Tryz.ntmps95
  go_wp2
  go_loopw [1, 5] (fun x i wr => ∃ j : Nat, j ≤ n ∧ i = .int .i64 j ∧ x = .int .i64 (k + 6 * j) ∧ Chg (fun b => (Value.slice A n c).ownBlock = some b) w wr ∧ Hd (∃ cells, wr.ownsRow lo 154 6 (.slice A n c) n cells ∧ Filled encS 6 (mkSs k n) cells j)) (fun _ i _ => n - (intOf i).toNat)
  case atStart => exact ⟨0, Nat.zero_le _, rfl, by simp, Chg.refl _ _, ⟨_, HO0.out, filled_zero _ _ _ _⟩⟩
  case round =>
    obtain ⟨j, hj, rfl, rfl, HC, ⟨cells, hown, hfil⟩⟩ := hrel
    have HO := Hd.mk hown
    have HF := Hd.mk hfil
    clear hown hfil
    by_cases hlt : j < n
    · obtain ⟨g, rfl⟩ := own_some HO.out (by omega)
      obtain ⟨v0, v1, v2, v3, v4, v5, q0, q1, q2, q3, q4, q5, z0, z1, z2, z3, z4, z5⟩ := own_six HO.out j hlt
      go_wp2
      go_roundw
      case rel =>
        have hl : cells.length = n * 6 := HO.out.1
        refine ⟨j + 1, by omega, by go_num, by go_num, (((((HC.set _ rfl).set _ rfl).set _ rfl).set _ rfl).set _ rfl).set _ rfl, ⟨_, (((((((HO.out.stored (j * 6) _).1.stored (j * 6 + 1) _).1.stored (j * 6 + 2) _).1.stored (j * 6 + 3) _).1.stored (j * 6 + 4) _).1.stored (j * 6 + 5) _).1), filled_succ HF.out (by rw [mkSs_len]; exact hlt) ?_ ?_⟩⟩
        · intro i hi
          have hi6 : i = 0 ∨ i = 1 ∨ i = 2 ∨ i = 3 ∨ i = 4 ∨ i = 5 := by omega
          rcases hi6 with rfl | rfl | rfl | rfl | rfl | rfl <;> simp [encS, List.getElem?_set, hl, mkSs_get, mkS] <;> omega
        · intro p hp
          simp only [List.getElem?_set, List.length_set]
          repeat (rw [if_neg (by omega)])
      case measure => simp [intOf]; omega
    · have e : j = n := by omega
      have hfin := Hd.mk (filled_all encS_ok (by decide) (xs := mkSs k n) (by rw [mkSs_len]; exact e ▸ HF.out) (by rw [mkSs_len]; exact HO.out.1))
      go_wp2
      go_ret
      exact ⟨retI (by rw [e]; simp), (by show World.ownsRow _ _ _ _ _ _ _; rw [← hfin.out]; exact HO.out), HC⟩
end Go.Proofs.YtgodbldchaonpaaGreat

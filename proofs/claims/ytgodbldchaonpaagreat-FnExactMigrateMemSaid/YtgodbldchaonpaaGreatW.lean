/- The laws' own copies: rows made anew. No condition. -/
import Derived.Test.YtgodbldchaonpaaGreatV
namespace Go.Proofs.YtgodbldchaonpaaGreat
open Go.RowKit
set_option linter.unusedVariables false
set_option maxRecDepth 100000
set_option maxHeartbeats 2000000 in
theorem toIntS_any (A : Option Addr) (xs : List Int) (c : Nat) (w : World) (ha : RdI w A xs) : Calls Tryz.prog 9 #[.slice A xs.length c] w (Mk encI 3 1 xs w) := by
  have hlen := ha.len
  have HA := Hd.mk ha
  clear ha
  have hmk := make_run (P := Tryz.prog) 25 3 (.int .i64 0) 1 8 Tryz.underlying25 infoI xs.length (by omega) (by omega)
  go_enter Tryz.func9, Tryz.ntmps9
  go_wp2
  have hb0 : Bel w (w.alloc (.cells (madeCells #[.int .i64 0] xs.length) 3)) := (Bel.refl w).alloc _
  have ho0 : Hd ((w.alloc (.cells (madeCells #[.int .i64 0] xs.length) 3)).ownsRow w.heap.size 3 1 (.slice (some ⟨w.heap.size, 0, none⟩) xs.length xs.length) xs.length (madeCells #[.int .i64 0] xs.length).toList) :=
    ⟨by have := own_made w w.heap.size 3 #[.int .i64 0] 1 xs.length (Nat.le_refl _) (by omega); rwa [Nat.mul_one] at this⟩
  clear hmk
  go_loopw [4] (fun i wr => ∃ k : Nat, k ≤ xs.length ∧ i = .int .i64 k ∧ Bel w wr ∧ Hd (∃ cells, wr.ownsRow w.heap.size 3 1 (.slice (some ⟨w.heap.size, 0, none⟩) xs.length xs.length) xs.length cells ∧ Filled encI 1 xs cells k)) (fun i _ => xs.length - (intOf i).toNat)
  case atStart => exact ⟨0, Nat.zero_le _, rfl, hb0, ⟨_, ho0.out, filled_zero _ _ _ _⟩⟩
  case round =>
    obtain ⟨k, hk, rfl, HBL, ⟨cells, hown, hfil⟩⟩ := hrel
    have HO := Hd.mk hown
    have HF := Hd.mk hfil
    clear hown hfil hb0 ho0
    by_cases hlt : k < xs.length
    · obtain ⟨b, off, rfl, c0⟩ := (HA.out.bel HBL).atI k hlt
      have hcell := HO.out.cellAt k (by omega)
      have hfz := HO.out.frozenAt k
      have hcl : k < cells.length := by rw [HO.out.1]; omega
      rw [List.getElem?_eq_getElem hcl] at hcell
      go_wp2
      go_roundw
      case rel =>
        refine ⟨k + 1, by omega, by go_num, (by first | exact stored_bel _ HBL (Nat.le_refl _) | repeat (first | (with_reducible exact Bel.refl _) | (with_reducible assumption) | (with_reducible apply Bel.alloc) | (with_reducible apply Bel.drewN) | (with_reducible apply Bel.drew) | (with_reducible refine Bel.set ?_ (by simp <;> omega) _) | (refine Bel.trans ?_ (by with_reducible assumption)))), ⟨_, (HO.out.stored k _).1, filled_succ HF.out hlt ?_ ?_⟩⟩
        · intro i hi
          obtain rfl : i = 0 := by omega
          simp [encI, List.getElem?_set, hcl]
        · intro p hp
          rw [List.getElem?_set, if_neg (by omega)]
      case measure => simp [intOf]; omega
    · have e : k = xs.length := by omega
      subst e
      have hfin := Hd.mk (filled_all encI_ok (by decide) HF.out HO.out.1)
      go_wp2
      go_ret
      exact ⟨_, rfl, by rw [← hfin.out]; exact HO.out, HBL⟩
theorem infoS : (Tryz.prog.info? 154).map (fun i => (i.zero, i.size, i.bytes)) = some (some (.agg #[.int .i64 0, .int .i64 0, .int .i64 0, .int .i64 0, .int .i64 0, .int .i64 0]), 6, 48) := by kernel_rfl
set_option maxHeartbeats 1000000 in
theorem toExpr_any (e : Ex) (w : World) : Calls Tryz.prog 79 #[.agg #[.int .i64 e.op, .int .i64 e.a, .int .i64 e.b]] w (Bl (.agg #[.int .i64 e.op, .int .i64 e.a, .int .i64 e.b]) w) := by
  go_enter Tryz.func79, Tryz.ntmps79
  go_wp2
  refine bodyPost_ret (v := .agg #[.int .i64 e.op, .int .i64 e.a, .int .i64 e.b]) (by simp [results, Tryz.results79, go_sem]) rfl ⟨rfl, ?_⟩
  repeat (first | (with_reducible exact Bel.refl _) | (with_reducible assumption) | (with_reducible apply Bel.alloc) | (with_reducible apply Bel.drewN) | (with_reducible apply Bel.drew) | (with_reducible refine Bel.set ?_ (by simp <;> omega) _) | (refine Bel.trans ?_ (by with_reducible assumption)))
set_option maxHeartbeats 1000000 in
theorem toStmt_any (s : St) (w : World) : Calls Tryz.prog 149 #[.agg #[.int .i64 s.kind, .int .i64 s.var, .int .i64 s.n, .int .i64 s.op, .int .i64 s.a, .int .i64 s.b]] w (Bl (.agg #[.int .i64 s.kind, .int .i64 s.var, .int .i64 s.n, .int .i64 s.op, .int .i64 s.a, .int .i64 s.b]) w) := by
  go_enter Tryz.func149, Tryz.ntmps149
  go_wp2
  refine bodyPost_ret (v := .agg #[.int .i64 s.op, .int .i64 s.a, .int .i64 s.b]) (by simp [results, Tryz.results79, go_sem]) rfl ?_
  go_wp2
  refine bodyPost_ret (v := .agg #[.int .i64 s.kind, .int .i64 s.var, .int .i64 s.n, .int .i64 s.op, .int .i64 s.a, .int .i64 s.b]) (by simp [results, Tryz.results149, go_sem]) rfl ⟨rfl, ?_⟩
  repeat (first | (with_reducible exact Bel.refl _) | (with_reducible assumption) | (with_reducible apply Bel.alloc) | (with_reducible apply Bel.drewN) | (with_reducible apply Bel.drew) | (with_reducible refine Bel.set ?_ (by simp <;> omega) _) | (refine Bel.trans ?_ (by with_reducible assumption)))
set_option maxHeartbeats 4000000 in
theorem toStmtS_any (A : Option Addr) (xs : List St) (c : Nat) (w : World) (ha : RdS w A xs) (hsz : xs.length ≤ 1099511627776) : Calls Tryz.prog 124 #[.slice A xs.length c] w (Mk encS 154 6 xs w) := by
  have hlen := ha.len
  have HA := Hd.mk ha
  clear ha
  have hmk := make_run (P := Tryz.prog) 119 154 (.agg #[.int .i64 0, .int .i64 0, .int .i64 0, .int .i64 0, .int .i64 0, .int .i64 0]) 6 48 Tryz.underlying119 infoS xs.length (by omega) (by omega)
  go_enter Tryz.func124, Tryz.ntmps124
  go_wp2
  clear hmk
  have hb0 : Bel w (w.alloc (.cells (madeCells #[.int .i64 0, .int .i64 0, .int .i64 0, .int .i64 0, .int .i64 0, .int .i64 0] (xs.length * 6)) 154)) := (Bel.refl w).alloc _
  have ho0 := Hd.mk (own_made w w.heap.size 154 #[.int .i64 0, .int .i64 0, .int .i64 0, .int .i64 0, .int .i64 0, .int .i64 0] 6 xs.length (Nat.le_refl _) (by omega))
  go_loopw [4] (fun i wr => ∃ k : Nat, k ≤ xs.length ∧ i = .int .i64 k ∧ Bel w wr ∧ Hd (∃ cells, wr.ownsRow w.heap.size 154 6 (.slice (some ⟨w.heap.size, 0, none⟩) xs.length xs.length) xs.length cells ∧ Filled encS 6 xs cells k)) (fun i _ => xs.length - (intOf i).toNat)
  case atStart => exact ⟨0, Nat.zero_le _, rfl, hb0, ⟨_, ho0.out, filled_zero _ _ _ _⟩⟩
  case round =>
    obtain ⟨k, hk, rfl, HBL, ⟨cells, hown, hfil⟩⟩ := hrel
    have HO := Hd.mk hown
    have HF := Hd.mk hfil
    clear hown hfil hb0 ho0
    by_cases hlt : k < xs.length
    · obtain ⟨b, off, rfl, c0, c1, c2, c3, c4, c5⟩ := (HA.out.bel HBL).atS k hlt
      go_wp2_with (go_at_call 149; refine (toStmt_any xs[k] _).mono ?_; rintro e w' ⟨rfl, hb⟩; have HO2 := Hd.mk (own_bel HO.out hb); obtain ⟨v0, v1, v2, v3, v4, v5, q0, q1, q2, q3, q4, q5, z0, z1, z2, z3, z4, z5⟩ := own_six HO2.out k hlt)
      go_roundw
      case rel =>
        have hl : cells.length = xs.length * 6 := HO.out.1
        have hl6 : k * 6 + 5 < cells.length := by omega
        have hbl := HBL.trans hb
        refine ⟨k + 1, by omega, by go_num, ?_, ⟨_, (((((((HO2.out.stored (k * 6) _).1.stored (k * 6 + 1) _).1.stored (k * 6 + 2) _).1.stored (k * 6 + 3) _).1.stored (k * 6 + 4) _).1.stored (k * 6 + 5) _).1), filled_succ HF.out hlt ?_ ?_⟩⟩
        · repeat (first | exact hbl | refine Bel.set ?_ (Nat.le_refl _) _)
        · intro i hi
          have hi6 : i = 0 ∨ i = 1 ∨ i = 2 ∨ i = 3 ∨ i = 4 ∨ i = 5 := by omega
          rcases hi6 with rfl | rfl | rfl | rfl | rfl | rfl <;> simp [encS, List.getElem?_set, hl] <;> omega
        · intro p hp
          simp only [List.getElem?_set, List.length_set]
          repeat (rw [if_neg (by omega)])
      case measure => simp [intOf]; omega
    · have e : k = xs.length := by omega
      subst e
      have hfin := Hd.mk (filled_all encS_ok (by decide) HF.out HO.out.1)
      go_wp2
      go_ret
      exact ⟨_, rfl, by rw [← hfin.out]; exact HO.out, HBL⟩
end Go.Proofs.YtgodbldchaonpaaGreat

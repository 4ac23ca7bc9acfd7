/- What the reference answers on a statement: as the program's StmtOk. No condition. -/
import Derived.Test.YtgodbldchaonpaaGreatD
namespace Go.Proofs.YtgodbldchaonpaaGreat
open Go.RowKit
set_option linter.unusedVariables false
set_option linter.unusedSimpArgs false
set_option maxRecDepth 100000
theorem stOk1 (v n o a b : Int) : stOk ⟨1, v, n, o, a, b⟩ = (inB v 0 7 && (exOk ⟨o, a, b⟩ && decide (n = 0))) := by
  simp [stOk, stNum, hasVar, hasEx, St.ex, inB]
theorem stOk2 (v n o a b : Int) : stOk ⟨2, v, n, o, a, b⟩ = (inB v 0 7 && (decide (o = 0 ∧ a = 0 ∧ b = 0) && inB n 0 3)) := by
  simp [stOk, stNum, hasVar, hasEx, St.ex, inB]
theorem stOk3 (v n o a b : Int) : stOk ⟨3, v, n, o, a, b⟩ = (decide (v = 0) && (exOk ⟨o, a, b⟩ && decide (n = 0))) := by
  simp [stOk, stNum, hasVar, hasEx, St.ex, inB]
theorem stOk4 (v n o a b : Int) : stOk ⟨4, v, n, o, a, b⟩ = (decide (v = 0) && (exOk ⟨o, a, b⟩ && decide (n = 0))) := by
  simp [stOk, stNum, hasVar, hasEx, St.ex, inB]
theorem stOk5 (v n o a b : Int) : stOk ⟨5, v, n, o, a, b⟩ = (decide (v = 0) && (decide (o = 0 ∧ a = 0 ∧ b = 0) && inB n 1 5)) := by
  simp [stOk, stNum, hasVar, hasEx, St.ex, inB]
theorem stOk6 (k v n o a b : Int) (k1 : ¬ k = 1) (k2 : ¬ k = 2) (k3 : ¬ k = 3) (k4 : ¬ k = 4) (k5 : ¬ k = 5) : stOk ⟨k, v, n, o, a, b⟩ = (decide (k = 6) && (decide (v = 0) && (decide (o = 0 ∧ a = 0 ∧ b = 0) && decide (n = 0)))) := by
  have : inB k 1 6 = decide (k = 6) := by unfold inB; congr 1; ext; omega
  simp [stOk, stNum, hasVar, hasEx, St.ex, k1, k2, k3, k4, k5, this]
theorem plain6 (k v n o a b : Int) (k1 : ¬ k = 1) (k2 : ¬ k = 2) (k3 : ¬ k = 3) (k4 : ¬ k = 4) (k5 : ¬ k = 5) : plain ⟨k, v, n, o, a, b⟩ = ⟨k, 0, 0, 0, 0, 0⟩ := by simp [plain, k1, k2, k3, k4, k5]
set_option maxHeartbeats 4000000 in
theorem sStmtOk_1 (v n o a b : Int) (w : World) : Calls Tryz.prog 147 #[.agg #[.int .i64 1, .int .i64 v, .int .i64 n, .int .i64 o, .int .i64 a, .int .i64 b]] w (Bl (.bool (stOk ⟨1, v, n, o, a, b⟩)) w) := by
  have hcall := l04Plain_any ⟨1, v, n, o, a, b⟩
  simp only [plain, if_true, if_false, Int.reduceEq, or_true, true_or, or_self] at hcall
  rw [stOk1]
  by_cases hn : n = 0
  · subst hn
    go_enter Tryz.func147, Tryz.ntmps147
    go_wp2
    obtain ⟨W, hW, hbW, hsW, d0, d1, d2, d3, d4, d5⟩ := box6 w (.int .i64 1) (.int .i64 v) (.int .i64 0) (.int .i64 o) (.int .i64 a) (.int .i64 b) 154
    rw [← hW]
    clear hW
    have hlt : w.heap.size < W.heap.size := by omega
    go_region_held3 (fun W' => W'.cell? ⟨w.heap.size, 0, none⟩ = some (.int .i64 1) ∧ W'.cell? ⟨w.heap.size, 1, none⟩ = some (.int .i64 v) ∧ W'.cell? ⟨w.heap.size, 2, none⟩ = some (.int .i64 0) ∧ W'.cell? ⟨w.heap.size, 3, none⟩ = some (.int .i64 o) ∧ W'.cell? ⟨w.heap.size, 4, none⟩ = some (.int .i64 a) ∧ W'.cell? ⟨w.heap.size, 5, none⟩ = some (.int .i64 b)) (first | exact ⟨d0, d1, d2, d3, d4, d5⟩ | exact ⟨hb.cell d0, hb.cell d1, hb.cell d2, hb.cell d3, hb.cell d4, hb.cell d5⟩) (first | (go_at_call 157; refine (hcall _).mono ?_; rintro e w' ⟨rfl, hb⟩; obtain ⟨hc, hf⟩ := hb.rd))
    all_goals go_wp2_with (first | (go_at_call 71; refine (l01In_any _ _ _ _).mono ?_; rintro e w' ⟨rfl, rfl⟩) | (go_at_call 73; refine (sExprOk_any ⟨_, _, _⟩ _).mono ?_; rintro e w' ⟨rfl, hb⟩; obtain ⟨hc, hf⟩ := hb.rd))
    all_goals (go_ret; refine ⟨retB ?_, ?_⟩; rotate_left; (repeat (first | exact Bel.refl _ | assumption | apply Bel.alloc | apply Bel.drewN | apply Bel.drew | (refine Bel.trans ?_ (by assumption)))); first | (simp_all; done) | grind)
  · have en1 : (n == 0) = false := by simpa using hn
    have en2 : (n != 0) = true := by simpa using hn
    have en3 : decide (n = 0) = false := by simpa using hn
    go_enter Tryz.func147, Tryz.ntmps147
    go_wp2
    obtain ⟨W, hW, hbW, hsW, d0, d1, d2, d3, d4, d5⟩ := box6 w (.int .i64 1) (.int .i64 v) (.int .i64 n) (.int .i64 o) (.int .i64 a) (.int .i64 b) 154
    rw [← hW]
    clear hW
    have hlt : w.heap.size < W.heap.size := by omega
    go_region_held3 (fun W' => W'.cell? ⟨w.heap.size, 0, none⟩ = some (.int .i64 1) ∧ W'.cell? ⟨w.heap.size, 1, none⟩ = some (.int .i64 v) ∧ W'.cell? ⟨w.heap.size, 2, none⟩ = some (.int .i64 n) ∧ W'.cell? ⟨w.heap.size, 3, none⟩ = some (.int .i64 o) ∧ W'.cell? ⟨w.heap.size, 4, none⟩ = some (.int .i64 a) ∧ W'.cell? ⟨w.heap.size, 5, none⟩ = some (.int .i64 b)) (first | exact ⟨d0, d1, d2, d3, d4, d5⟩ | exact ⟨hb.cell d0, hb.cell d1, hb.cell d2, hb.cell d3, hb.cell d4, hb.cell d5⟩) (first | (go_at_call 157; refine (hcall _).mono ?_; rintro e w' ⟨rfl, hb⟩; obtain ⟨hc, hf⟩ := hb.rd))
    all_goals go_wp2_with (first | (go_at_call 71; refine (l01In_any _ _ _ _).mono ?_; rintro e w' ⟨rfl, rfl⟩) | (go_at_call 73; refine (sExprOk_any ⟨_, _, _⟩ _).mono ?_; rintro e w' ⟨rfl, hb⟩; obtain ⟨hc, hf⟩ := hb.rd))
    all_goals (go_ret; refine ⟨retB ?_, ?_⟩; rotate_left; (repeat (first | exact Bel.refl _ | assumption | apply Bel.alloc | apply Bel.drewN | apply Bel.drew | (refine Bel.trans ?_ (by assumption)))); first | (simp_all; done) | grind)
set_option maxHeartbeats 4000000 in
theorem sStmtOk_2 (v n o a b : Int) (w : World) : Calls Tryz.prog 147 #[.agg #[.int .i64 2, .int .i64 v, .int .i64 n, .int .i64 o, .int .i64 a, .int .i64 b]] w (Bl (.bool (stOk ⟨2, v, n, o, a, b⟩)) w) := by
  have hcall := l04Plain_any ⟨2, v, n, o, a, b⟩
  simp only [plain, if_true, if_false, Int.reduceEq, or_true, true_or, or_self] at hcall
  rw [stOk2]
  by_cases ho : o = 0
  · subst ho
    by_cases ha : a = 0
    · subst ha
      by_cases hb : b = 0
      · subst hb
        go_enter Tryz.func147, Tryz.ntmps147
        go_wp2
        obtain ⟨W, hW, hbW, hsW, d0, d1, d2, d3, d4, d5⟩ := box6 w (.int .i64 2) (.int .i64 v) (.int .i64 n) (.int .i64 0) (.int .i64 0) (.int .i64 0) 154
        rw [← hW]
        clear hW
        have hlt : w.heap.size < W.heap.size := by omega
        go_region_held3 (fun W' => W'.cell? ⟨w.heap.size, 0, none⟩ = some (.int .i64 2) ∧ W'.cell? ⟨w.heap.size, 1, none⟩ = some (.int .i64 v) ∧ W'.cell? ⟨w.heap.size, 2, none⟩ = some (.int .i64 n) ∧ W'.cell? ⟨w.heap.size, 3, none⟩ = some (.int .i64 0) ∧ W'.cell? ⟨w.heap.size, 4, none⟩ = some (.int .i64 0) ∧ W'.cell? ⟨w.heap.size, 5, none⟩ = some (.int .i64 0)) (first | exact ⟨d0, d1, d2, d3, d4, d5⟩ | exact ⟨hb.cell d0, hb.cell d1, hb.cell d2, hb.cell d3, hb.cell d4, hb.cell d5⟩) (first | (go_at_call 157; refine (hcall _).mono ?_; rintro e w' ⟨rfl, hb⟩; obtain ⟨hc, hf⟩ := hb.rd))
        all_goals go_wp2_with (first | (go_at_call 71; refine (l01In_any _ _ _ _).mono ?_; rintro e w' ⟨rfl, rfl⟩) | (go_at_call 73; refine (sExprOk_any ⟨_, _, _⟩ _).mono ?_; rintro e w' ⟨rfl, hb⟩; obtain ⟨hc, hf⟩ := hb.rd))
        all_goals (go_ret; refine ⟨retB ?_, ?_⟩; rotate_left; (repeat (first | exact Bel.refl _ | assumption | apply Bel.alloc | apply Bel.drewN | apply Bel.drew | (refine Bel.trans ?_ (by assumption)))); first | (simp_all; done) | grind)
      · have eb1 : (b == 0) = false := by simpa using hb
        have eb2 : (b != 0) = true := by simpa using hb
        have eb3 : decide (b = 0) = false := by simpa using hb
        go_enter Tryz.func147, Tryz.ntmps147
        go_wp2
        obtain ⟨W, hW, hbW, hsW, d0, d1, d2, d3, d4, d5⟩ := box6 w (.int .i64 2) (.int .i64 v) (.int .i64 n) (.int .i64 0) (.int .i64 0) (.int .i64 b) 154
        rw [← hW]
        clear hW
        have hlt : w.heap.size < W.heap.size := by omega
        go_region_held3 (fun W' => W'.cell? ⟨w.heap.size, 0, none⟩ = some (.int .i64 2) ∧ W'.cell? ⟨w.heap.size, 1, none⟩ = some (.int .i64 v) ∧ W'.cell? ⟨w.heap.size, 2, none⟩ = some (.int .i64 n) ∧ W'.cell? ⟨w.heap.size, 3, none⟩ = some (.int .i64 0) ∧ W'.cell? ⟨w.heap.size, 4, none⟩ = some (.int .i64 0) ∧ W'.cell? ⟨w.heap.size, 5, none⟩ = some (.int .i64 b)) (first | exact ⟨d0, d1, d2, d3, d4, d5⟩ | exact ⟨hb.cell d0, hb.cell d1, hb.cell d2, hb.cell d3, hb.cell d4, hb.cell d5⟩) (first | (go_at_call 157; refine (hcall _).mono ?_; rintro e w' ⟨rfl, hb⟩; obtain ⟨hc, hf⟩ := hb.rd))
        all_goals go_wp2_with (first | (go_at_call 71; refine (l01In_any _ _ _ _).mono ?_; rintro e w' ⟨rfl, rfl⟩) | (go_at_call 73; refine (sExprOk_any ⟨_, _, _⟩ _).mono ?_; rintro e w' ⟨rfl, hb⟩; obtain ⟨hc, hf⟩ := hb.rd))
        all_goals (go_ret; refine ⟨retB ?_, ?_⟩; rotate_left; (repeat (first | exact Bel.refl _ | assumption | apply Bel.alloc | apply Bel.drewN | apply Bel.drew | (refine Bel.trans ?_ (by assumption)))); first | (simp_all; done) | grind)
    · have ea1 : (a == 0) = false := by simpa using ha
      have ea2 : (a != 0) = true := by simpa using ha
      have ea3 : decide (a = 0) = false := by simpa using ha
      go_enter Tryz.func147, Tryz.ntmps147
      go_wp2
      obtain ⟨W, hW, hbW, hsW, d0, d1, d2, d3, d4, d5⟩ := box6 w (.int .i64 2) (.int .i64 v) (.int .i64 n) (.int .i64 0) (.int .i64 a) (.int .i64 b) 154
      rw [← hW]
      clear hW
      have hlt : w.heap.size < W.heap.size := by omega
      go_region_held3 (fun W' => W'.cell? ⟨w.heap.size, 0, none⟩ = some (.int .i64 2) ∧ W'.cell? ⟨w.heap.size, 1, none⟩ = some (.int .i64 v) ∧ W'.cell? ⟨w.heap.size, 2, none⟩ = some (.int .i64 n) ∧ W'.cell? ⟨w.heap.size, 3, none⟩ = some (.int .i64 0) ∧ W'.cell? ⟨w.heap.size, 4, none⟩ = some (.int .i64 a) ∧ W'.cell? ⟨w.heap.size, 5, none⟩ = some (.int .i64 b)) (first | exact ⟨d0, d1, d2, d3, d4, d5⟩ | exact ⟨hb.cell d0, hb.cell d1, hb.cell d2, hb.cell d3, hb.cell d4, hb.cell d5⟩) (first | (go_at_call 157; refine (hcall _).mono ?_; rintro e w' ⟨rfl, hb⟩; obtain ⟨hc, hf⟩ := hb.rd))
      all_goals go_wp2_with (first | (go_at_call 71; refine (l01In_any _ _ _ _).mono ?_; rintro e w' ⟨rfl, rfl⟩) | (go_at_call 73; refine (sExprOk_any ⟨_, _, _⟩ _).mono ?_; rintro e w' ⟨rfl, hb⟩; obtain ⟨hc, hf⟩ := hb.rd))
      all_goals (go_ret; refine ⟨retB ?_, ?_⟩; rotate_left; (repeat (first | exact Bel.refl _ | assumption | apply Bel.alloc | apply Bel.drewN | apply Bel.drew | (refine Bel.trans ?_ (by assumption)))); first | (simp_all; done) | grind)
  · have eo1 : (o == 0) = false := by simpa using ho
    have eo2 : (o != 0) = true := by simpa using ho
    have eo3 : decide (o = 0) = false := by simpa using ho
    go_enter Tryz.func147, Tryz.ntmps147
    go_wp2
    obtain ⟨W, hW, hbW, hsW, d0, d1, d2, d3, d4, d5⟩ := box6 w (.int .i64 2) (.int .i64 v) (.int .i64 n) (.int .i64 o) (.int .i64 a) (.int .i64 b) 154
    rw [← hW]
    clear hW
    have hlt : w.heap.size < W.heap.size := by omega
    go_region_held3 (fun W' => W'.cell? ⟨w.heap.size, 0, none⟩ = some (.int .i64 2) ∧ W'.cell? ⟨w.heap.size, 1, none⟩ = some (.int .i64 v) ∧ W'.cell? ⟨w.heap.size, 2, none⟩ = some (.int .i64 n) ∧ W'.cell? ⟨w.heap.size, 3, none⟩ = some (.int .i64 o) ∧ W'.cell? ⟨w.heap.size, 4, none⟩ = some (.int .i64 a) ∧ W'.cell? ⟨w.heap.size, 5, none⟩ = some (.int .i64 b)) (first | exact ⟨d0, d1, d2, d3, d4, d5⟩ | exact ⟨hb.cell d0, hb.cell d1, hb.cell d2, hb.cell d3, hb.cell d4, hb.cell d5⟩) (first | (go_at_call 157; refine (hcall _).mono ?_; rintro e w' ⟨rfl, hb⟩; obtain ⟨hc, hf⟩ := hb.rd))
    all_goals go_wp2_with (first | (go_at_call 71; refine (l01In_any _ _ _ _).mono ?_; rintro e w' ⟨rfl, rfl⟩) | (go_at_call 73; refine (sExprOk_any ⟨_, _, _⟩ _).mono ?_; rintro e w' ⟨rfl, hb⟩; obtain ⟨hc, hf⟩ := hb.rd))
    all_goals (go_ret; refine ⟨retB ?_, ?_⟩; rotate_left; (repeat (first | exact Bel.refl _ | assumption | apply Bel.alloc | apply Bel.drewN | apply Bel.drew | (refine Bel.trans ?_ (by assumption)))); first | (simp_all; done) | grind)
set_option maxHeartbeats 4000000 in
theorem sStmtOk_3 (v n o a b : Int) (w : World) : Calls Tryz.prog 147 #[.agg #[.int .i64 3, .int .i64 v, .int .i64 n, .int .i64 o, .int .i64 a, .int .i64 b]] w (Bl (.bool (stOk ⟨3, v, n, o, a, b⟩)) w) := by
  have hcall := l04Plain_any ⟨3, v, n, o, a, b⟩
  simp only [plain, if_true, if_false, Int.reduceEq, or_true, true_or, or_self] at hcall
  rw [stOk3]
  by_cases hv : v = 0
  · subst hv
    by_cases hn : n = 0
    · subst hn
      go_enter Tryz.func147, Tryz.ntmps147
      go_wp2
      obtain ⟨W, hW, hbW, hsW, d0, d1, d2, d3, d4, d5⟩ := box6 w (.int .i64 3) (.int .i64 0) (.int .i64 0) (.int .i64 o) (.int .i64 a) (.int .i64 b) 154
      rw [← hW]
      clear hW
      have hlt : w.heap.size < W.heap.size := by omega
      go_region_held3 (fun W' => W'.cell? ⟨w.heap.size, 0, none⟩ = some (.int .i64 3) ∧ W'.cell? ⟨w.heap.size, 1, none⟩ = some (.int .i64 0) ∧ W'.cell? ⟨w.heap.size, 2, none⟩ = some (.int .i64 0) ∧ W'.cell? ⟨w.heap.size, 3, none⟩ = some (.int .i64 o) ∧ W'.cell? ⟨w.heap.size, 4, none⟩ = some (.int .i64 a) ∧ W'.cell? ⟨w.heap.size, 5, none⟩ = some (.int .i64 b)) (first | exact ⟨d0, d1, d2, d3, d4, d5⟩ | exact ⟨hb.cell d0, hb.cell d1, hb.cell d2, hb.cell d3, hb.cell d4, hb.cell d5⟩) (first | (go_at_call 157; refine (hcall _).mono ?_; rintro e w' ⟨rfl, hb⟩; obtain ⟨hc, hf⟩ := hb.rd))
      all_goals go_wp2_with (first | (go_at_call 71; refine (l01In_any _ _ _ _).mono ?_; rintro e w' ⟨rfl, rfl⟩) | (go_at_call 73; refine (sExprOk_any ⟨_, _, _⟩ _).mono ?_; rintro e w' ⟨rfl, hb⟩; obtain ⟨hc, hf⟩ := hb.rd))
      all_goals (go_ret; refine ⟨retB ?_, ?_⟩; rotate_left; (repeat (first | exact Bel.refl _ | assumption | apply Bel.alloc | apply Bel.drewN | apply Bel.drew | (refine Bel.trans ?_ (by assumption)))); first | (simp_all; done) | grind)
    · have en1 : (n == 0) = false := by simpa using hn
      have en2 : (n != 0) = true := by simpa using hn
      have en3 : decide (n = 0) = false := by simpa using hn
      go_enter Tryz.func147, Tryz.ntmps147
      go_wp2
      obtain ⟨W, hW, hbW, hsW, d0, d1, d2, d3, d4, d5⟩ := box6 w (.int .i64 3) (.int .i64 0) (.int .i64 n) (.int .i64 o) (.int .i64 a) (.int .i64 b) 154
      rw [← hW]
      clear hW
      have hlt : w.heap.size < W.heap.size := by omega
      go_region_held3 (fun W' => W'.cell? ⟨w.heap.size, 0, none⟩ = some (.int .i64 3) ∧ W'.cell? ⟨w.heap.size, 1, none⟩ = some (.int .i64 0) ∧ W'.cell? ⟨w.heap.size, 2, none⟩ = some (.int .i64 n) ∧ W'.cell? ⟨w.heap.size, 3, none⟩ = some (.int .i64 o) ∧ W'.cell? ⟨w.heap.size, 4, none⟩ = some (.int .i64 a) ∧ W'.cell? ⟨w.heap.size, 5, none⟩ = some (.int .i64 b)) (first | exact ⟨d0, d1, d2, d3, d4, d5⟩ | exact ⟨hb.cell d0, hb.cell d1, hb.cell d2, hb.cell d3, hb.cell d4, hb.cell d5⟩) (first | (go_at_call 157; refine (hcall _).mono ?_; rintro e w' ⟨rfl, hb⟩; obtain ⟨hc, hf⟩ := hb.rd))
      all_goals go_wp2_with (first | (go_at_call 71; refine (l01In_any _ _ _ _).mono ?_; rintro e w' ⟨rfl, rfl⟩) | (go_at_call 73; refine (sExprOk_any ⟨_, _, _⟩ _).mono ?_; rintro e w' ⟨rfl, hb⟩; obtain ⟨hc, hf⟩ := hb.rd))
      all_goals (go_ret; refine ⟨retB ?_, ?_⟩; rotate_left; (repeat (first | exact Bel.refl _ | assumption | apply Bel.alloc | apply Bel.drewN | apply Bel.drew | (refine Bel.trans ?_ (by assumption)))); first | (simp_all; done) | grind)
  · have ev1 : (v == 0) = false := by simpa using hv
    have ev2 : (v != 0) = true := by simpa using hv
    have ev3 : decide (v = 0) = false := by simpa using hv
    go_enter Tryz.func147, Tryz.ntmps147
    go_wp2
    obtain ⟨W, hW, hbW, hsW, d0, d1, d2, d3, d4, d5⟩ := box6 w (.int .i64 3) (.int .i64 v) (.int .i64 n) (.int .i64 o) (.int .i64 a) (.int .i64 b) 154
    rw [← hW]
    clear hW
    have hlt : w.heap.size < W.heap.size := by omega
    go_region_held3 (fun W' => W'.cell? ⟨w.heap.size, 0, none⟩ = some (.int .i64 3) ∧ W'.cell? ⟨w.heap.size, 1, none⟩ = some (.int .i64 v) ∧ W'.cell? ⟨w.heap.size, 2, none⟩ = some (.int .i64 n) ∧ W'.cell? ⟨w.heap.size, 3, none⟩ = some (.int .i64 o) ∧ W'.cell? ⟨w.heap.size, 4, none⟩ = some (.int .i64 a) ∧ W'.cell? ⟨w.heap.size, 5, none⟩ = some (.int .i64 b)) (first | exact ⟨d0, d1, d2, d3, d4, d5⟩ | exact ⟨hb.cell d0, hb.cell d1, hb.cell d2, hb.cell d3, hb.cell d4, hb.cell d5⟩) (first | (go_at_call 157; refine (hcall _).mono ?_; rintro e w' ⟨rfl, hb⟩; obtain ⟨hc, hf⟩ := hb.rd))
    all_goals go_wp2_with (first | (go_at_call 71; refine (l01In_any _ _ _ _).mono ?_; rintro e w' ⟨rfl, rfl⟩) | (go_at_call 73; refine (sExprOk_any ⟨_, _, _⟩ _).mono ?_; rintro e w' ⟨rfl, hb⟩; obtain ⟨hc, hf⟩ := hb.rd))
    all_goals (go_ret; refine ⟨retB ?_, ?_⟩; rotate_left; (repeat (first | exact Bel.refl _ | assumption | apply Bel.alloc | apply Bel.drewN | apply Bel.drew | (refine Bel.trans ?_ (by assumption)))); first | (simp_all; done) | grind)
set_option maxHeartbeats 4000000 in
theorem sStmtOk_4 (v n o a b : Int) (w : World) : Calls Tryz.prog 147 #[.agg #[.int .i64 4, .int .i64 v, .int .i64 n, .int .i64 o, .int .i64 a, .int .i64 b]] w (Bl (.bool (stOk ⟨4, v, n, o, a, b⟩)) w) := by
  have hcall := l04Plain_any ⟨4, v, n, o, a, b⟩
  simp only [plain, if_true, if_false, Int.reduceEq, or_true, true_or, or_self] at hcall
  rw [stOk4]
  by_cases hv : v = 0
  · subst hv
    by_cases hn : n = 0
    · subst hn
      go_enter Tryz.func147, Tryz.ntmps147
      go_wp2
      obtain ⟨W, hW, hbW, hsW, d0, d1, d2, d3, d4, d5⟩ := box6 w (.int .i64 4) (.int .i64 0) (.int .i64 0) (.int .i64 o) (.int .i64 a) (.int .i64 b) 154
      rw [← hW]
      clear hW
      have hlt : w.heap.size < W.heap.size := by omega
      go_region_held3 (fun W' => W'.cell? ⟨w.heap.size, 0, none⟩ = some (.int .i64 4) ∧ W'.cell? ⟨w.heap.size, 1, none⟩ = some (.int .i64 0) ∧ W'.cell? ⟨w.heap.size, 2, none⟩ = some (.int .i64 0) ∧ W'.cell? ⟨w.heap.size, 3, none⟩ = some (.int .i64 o) ∧ W'.cell? ⟨w.heap.size, 4, none⟩ = some (.int .i64 a) ∧ W'.cell? ⟨w.heap.size, 5, none⟩ = some (.int .i64 b)) (first | exact ⟨d0, d1, d2, d3, d4, d5⟩ | exact ⟨hb.cell d0, hb.cell d1, hb.cell d2, hb.cell d3, hb.cell d4, hb.cell d5⟩) (first | (go_at_call 157; refine (hcall _).mono ?_; rintro e w' ⟨rfl, hb⟩; obtain ⟨hc, hf⟩ := hb.rd))
      all_goals go_wp2_with (first | (go_at_call 71; refine (l01In_any _ _ _ _).mono ?_; rintro e w' ⟨rfl, rfl⟩) | (go_at_call 73; refine (sExprOk_any ⟨_, _, _⟩ _).mono ?_; rintro e w' ⟨rfl, hb⟩; obtain ⟨hc, hf⟩ := hb.rd))
      all_goals (go_ret; refine ⟨retB ?_, ?_⟩; rotate_left; (repeat (first | exact Bel.refl _ | assumption | apply Bel.alloc | apply Bel.drewN | apply Bel.drew | (refine Bel.trans ?_ (by assumption)))); first | (simp_all; done) | grind)
    · have en1 : (n == 0) = false := by simpa using hn
      have en2 : (n != 0) = true := by simpa using hn
      have en3 : decide (n = 0) = false := by simpa using hn
      go_enter Tryz.func147, Tryz.ntmps147
      go_wp2
      obtain ⟨W, hW, hbW, hsW, d0, d1, d2, d3, d4, d5⟩ := box6 w (.int .i64 4) (.int .i64 0) (.int .i64 n) (.int .i64 o) (.int .i64 a) (.int .i64 b) 154
      rw [← hW]
      clear hW
      have hlt : w.heap.size < W.heap.size := by omega
      go_region_held3 (fun W' => W'.cell? ⟨w.heap.size, 0, none⟩ = some (.int .i64 4) ∧ W'.cell? ⟨w.heap.size, 1, none⟩ = some (.int .i64 0) ∧ W'.cell? ⟨w.heap.size, 2, none⟩ = some (.int .i64 n) ∧ W'.cell? ⟨w.heap.size, 3, none⟩ = some (.int .i64 o) ∧ W'.cell? ⟨w.heap.size, 4, none⟩ = some (.int .i64 a) ∧ W'.cell? ⟨w.heap.size, 5, none⟩ = some (.int .i64 b)) (first | exact ⟨d0, d1, d2, d3, d4, d5⟩ | exact ⟨hb.cell d0, hb.cell d1, hb.cell d2, hb.cell d3, hb.cell d4, hb.cell d5⟩) (first | (go_at_call 157; refine (hcall _).mono ?_; rintro e w' ⟨rfl, hb⟩; obtain ⟨hc, hf⟩ := hb.rd))
      all_goals go_wp2_with (first | (go_at_call 71; refine (l01In_any _ _ _ _).mono ?_; rintro e w' ⟨rfl, rfl⟩) | (go_at_call 73; refine (sExprOk_any ⟨_, _, _⟩ _).mono ?_; rintro e w' ⟨rfl, hb⟩; obtain ⟨hc, hf⟩ := hb.rd))
      all_goals (go_ret; refine ⟨retB ?_, ?_⟩; rotate_left; (repeat (first | exact Bel.refl _ | assumption | apply Bel.alloc | apply Bel.drewN | apply Bel.drew | (refine Bel.trans ?_ (by assumption)))); first | (simp_all; done) | grind)
  · have ev1 : (v == 0) = false := by simpa using hv
    have ev2 : (v != 0) = true := by simpa using hv
    have ev3 : decide (v = 0) = false := by simpa using hv
    go_enter Tryz.func147, Tryz.ntmps147
    go_wp2
    obtain ⟨W, hW, hbW, hsW, d0, d1, d2, d3, d4, d5⟩ := box6 w (.int .i64 4) (.int .i64 v) (.int .i64 n) (.int .i64 o) (.int .i64 a) (.int .i64 b) 154
    rw [← hW]
    clear hW
    have hlt : w.heap.size < W.heap.size := by omega
    go_region_held3 (fun W' => W'.cell? ⟨w.heap.size, 0, none⟩ = some (.int .i64 4) ∧ W'.cell? ⟨w.heap.size, 1, none⟩ = some (.int .i64 v) ∧ W'.cell? ⟨w.heap.size, 2, none⟩ = some (.int .i64 n) ∧ W'.cell? ⟨w.heap.size, 3, none⟩ = some (.int .i64 o) ∧ W'.cell? ⟨w.heap.size, 4, none⟩ = some (.int .i64 a) ∧ W'.cell? ⟨w.heap.size, 5, none⟩ = some (.int .i64 b)) (first | exact ⟨d0, d1, d2, d3, d4, d5⟩ | exact ⟨hb.cell d0, hb.cell d1, hb.cell d2, hb.cell d3, hb.cell d4, hb.cell d5⟩) (first | (go_at_call 157; refine (hcall _).mono ?_; rintro e w' ⟨rfl, hb⟩; obtain ⟨hc, hf⟩ := hb.rd))
    all_goals go_wp2_with (first | (go_at_call 71; refine (l01In_any _ _ _ _).mono ?_; rintro e w' ⟨rfl, rfl⟩) | (go_at_call 73; refine (sExprOk_any ⟨_, _, _⟩ _).mono ?_; rintro e w' ⟨rfl, hb⟩; obtain ⟨hc, hf⟩ := hb.rd))
    all_goals (go_ret; refine ⟨retB ?_, ?_⟩; rotate_left; (repeat (first | exact Bel.refl _ | assumption | apply Bel.alloc | apply Bel.drewN | apply Bel.drew | (refine Bel.trans ?_ (by assumption)))); first | (simp_all; done) | grind)
set_option maxHeartbeats 4000000 in
theorem sStmtOk_5 (v n o a b : Int) (w : World) : Calls Tryz.prog 147 #[.agg #[.int .i64 5, .int .i64 v, .int .i64 n, .int .i64 o, .int .i64 a, .int .i64 b]] w (Bl (.bool (stOk ⟨5, v, n, o, a, b⟩)) w) := by
  have hcall := l04Plain_any ⟨5, v, n, o, a, b⟩
  simp only [plain, if_true, if_false, Int.reduceEq, or_true, true_or, or_self] at hcall
  rw [stOk5]
  by_cases hv : v = 0
  · subst hv
    by_cases ho : o = 0
    · subst ho
      by_cases ha : a = 0
      · subst ha
        by_cases hb : b = 0
        · subst hb
          go_enter Tryz.func147, Tryz.ntmps147
          go_wp2
          obtain ⟨W, hW, hbW, hsW, d0, d1, d2, d3, d4, d5⟩ := box6 w (.int .i64 5) (.int .i64 0) (.int .i64 n) (.int .i64 0) (.int .i64 0) (.int .i64 0) 154
          rw [← hW]
          clear hW
          have hlt : w.heap.size < W.heap.size := by omega
          go_region_held3 (fun W' => W'.cell? ⟨w.heap.size, 0, none⟩ = some (.int .i64 5) ∧ W'.cell? ⟨w.heap.size, 1, none⟩ = some (.int .i64 0) ∧ W'.cell? ⟨w.heap.size, 2, none⟩ = some (.int .i64 n) ∧ W'.cell? ⟨w.heap.size, 3, none⟩ = some (.int .i64 0) ∧ W'.cell? ⟨w.heap.size, 4, none⟩ = some (.int .i64 0) ∧ W'.cell? ⟨w.heap.size, 5, none⟩ = some (.int .i64 0)) (first | exact ⟨d0, d1, d2, d3, d4, d5⟩ | exact ⟨hb.cell d0, hb.cell d1, hb.cell d2, hb.cell d3, hb.cell d4, hb.cell d5⟩) (first | (go_at_call 157; refine (hcall _).mono ?_; rintro e w' ⟨rfl, hb⟩; obtain ⟨hc, hf⟩ := hb.rd))
          all_goals go_wp2_with (first | (go_at_call 71; refine (l01In_any _ _ _ _).mono ?_; rintro e w' ⟨rfl, rfl⟩) | (go_at_call 73; refine (sExprOk_any ⟨_, _, _⟩ _).mono ?_; rintro e w' ⟨rfl, hb⟩; obtain ⟨hc, hf⟩ := hb.rd))
          all_goals (go_ret; refine ⟨retB ?_, ?_⟩; rotate_left; (repeat (first | exact Bel.refl _ | assumption | apply Bel.alloc | apply Bel.drewN | apply Bel.drew | (refine Bel.trans ?_ (by assumption)))); first | (simp_all; done) | grind)
        · have eb1 : (b == 0) = false := by simpa using hb
          have eb2 : (b != 0) = true := by simpa using hb
          have eb3 : decide (b = 0) = false := by simpa using hb
          go_enter Tryz.func147, Tryz.ntmps147
          go_wp2
          obtain ⟨W, hW, hbW, hsW, d0, d1, d2, d3, d4, d5⟩ := box6 w (.int .i64 5) (.int .i64 0) (.int .i64 n) (.int .i64 0) (.int .i64 0) (.int .i64 b) 154
          rw [← hW]
          clear hW
          have hlt : w.heap.size < W.heap.size := by omega
          go_region_held3 (fun W' => W'.cell? ⟨w.heap.size, 0, none⟩ = some (.int .i64 5) ∧ W'.cell? ⟨w.heap.size, 1, none⟩ = some (.int .i64 0) ∧ W'.cell? ⟨w.heap.size, 2, none⟩ = some (.int .i64 n) ∧ W'.cell? ⟨w.heap.size, 3, none⟩ = some (.int .i64 0) ∧ W'.cell? ⟨w.heap.size, 4, none⟩ = some (.int .i64 0) ∧ W'.cell? ⟨w.heap.size, 5, none⟩ = some (.int .i64 b)) (first | exact ⟨d0, d1, d2, d3, d4, d5⟩ | exact ⟨hb.cell d0, hb.cell d1, hb.cell d2, hb.cell d3, hb.cell d4, hb.cell d5⟩) (first | (go_at_call 157; refine (hcall _).mono ?_; rintro e w' ⟨rfl, hb⟩; obtain ⟨hc, hf⟩ := hb.rd))
          all_goals go_wp2_with (first | (go_at_call 71; refine (l01In_any _ _ _ _).mono ?_; rintro e w' ⟨rfl, rfl⟩) | (go_at_call 73; refine (sExprOk_any ⟨_, _, _⟩ _).mono ?_; rintro e w' ⟨rfl, hb⟩; obtain ⟨hc, hf⟩ := hb.rd))
          all_goals (go_ret; refine ⟨retB ?_, ?_⟩; rotate_left; (repeat (first | exact Bel.refl _ | assumption | apply Bel.alloc | apply Bel.drewN | apply Bel.drew | (refine Bel.trans ?_ (by assumption)))); first | (simp_all; done) | grind)
      · have ea1 : (a == 0) = false := by simpa using ha
        have ea2 : (a != 0) = true := by simpa using ha
        have ea3 : decide (a = 0) = false := by simpa using ha
        go_enter Tryz.func147, Tryz.ntmps147
        go_wp2
        obtain ⟨W, hW, hbW, hsW, d0, d1, d2, d3, d4, d5⟩ := box6 w (.int .i64 5) (.int .i64 0) (.int .i64 n) (.int .i64 0) (.int .i64 a) (.int .i64 b) 154
        rw [← hW]
        clear hW
        have hlt : w.heap.size < W.heap.size := by omega
        go_region_held3 (fun W' => W'.cell? ⟨w.heap.size, 0, none⟩ = some (.int .i64 5) ∧ W'.cell? ⟨w.heap.size, 1, none⟩ = some (.int .i64 0) ∧ W'.cell? ⟨w.heap.size, 2, none⟩ = some (.int .i64 n) ∧ W'.cell? ⟨w.heap.size, 3, none⟩ = some (.int .i64 0) ∧ W'.cell? ⟨w.heap.size, 4, none⟩ = some (.int .i64 a) ∧ W'.cell? ⟨w.heap.size, 5, none⟩ = some (.int .i64 b)) (first | exact ⟨d0, d1, d2, d3, d4, d5⟩ | exact ⟨hb.cell d0, hb.cell d1, hb.cell d2, hb.cell d3, hb.cell d4, hb.cell d5⟩) (first | (go_at_call 157; refine (hcall _).mono ?_; rintro e w' ⟨rfl, hb⟩; obtain ⟨hc, hf⟩ := hb.rd))
        all_goals go_wp2_with (first | (go_at_call 71; refine (l01In_any _ _ _ _).mono ?_; rintro e w' ⟨rfl, rfl⟩) | (go_at_call 73; refine (sExprOk_any ⟨_, _, _⟩ _).mono ?_; rintro e w' ⟨rfl, hb⟩; obtain ⟨hc, hf⟩ := hb.rd))
        all_goals (go_ret; refine ⟨retB ?_, ?_⟩; rotate_left; (repeat (first | exact Bel.refl _ | assumption | apply Bel.alloc | apply Bel.drewN | apply Bel.drew | (refine Bel.trans ?_ (by assumption)))); first | (simp_all; done) | grind)
    · have eo1 : (o == 0) = false := by simpa using ho
      have eo2 : (o != 0) = true := by simpa using ho
      have eo3 : decide (o = 0) = false := by simpa using ho
      go_enter Tryz.func147, Tryz.ntmps147
      go_wp2
      obtain ⟨W, hW, hbW, hsW, d0, d1, d2, d3, d4, d5⟩ := box6 w (.int .i64 5) (.int .i64 0) (.int .i64 n) (.int .i64 o) (.int .i64 a) (.int .i64 b) 154
      rw [← hW]
      clear hW
      have hlt : w.heap.size < W.heap.size := by omega
      go_region_held3 (fun W' => W'.cell? ⟨w.heap.size, 0, none⟩ = some (.int .i64 5) ∧ W'.cell? ⟨w.heap.size, 1, none⟩ = some (.int .i64 0) ∧ W'.cell? ⟨w.heap.size, 2, none⟩ = some (.int .i64 n) ∧ W'.cell? ⟨w.heap.size, 3, none⟩ = some (.int .i64 o) ∧ W'.cell? ⟨w.heap.size, 4, none⟩ = some (.int .i64 a) ∧ W'.cell? ⟨w.heap.size, 5, none⟩ = some (.int .i64 b)) (first | exact ⟨d0, d1, d2, d3, d4, d5⟩ | exact ⟨hb.cell d0, hb.cell d1, hb.cell d2, hb.cell d3, hb.cell d4, hb.cell d5⟩) (first | (go_at_call 157; refine (hcall _).mono ?_; rintro e w' ⟨rfl, hb⟩; obtain ⟨hc, hf⟩ := hb.rd))
      all_goals go_wp2_with (first | (go_at_call 71; refine (l01In_any _ _ _ _).mono ?_; rintro e w' ⟨rfl, rfl⟩) | (go_at_call 73; refine (sExprOk_any ⟨_, _, _⟩ _).mono ?_; rintro e w' ⟨rfl, hb⟩; obtain ⟨hc, hf⟩ := hb.rd))
      all_goals (go_ret; refine ⟨retB ?_, ?_⟩; rotate_left; (repeat (first | exact Bel.refl _ | assumption | apply Bel.alloc | apply Bel.drewN | apply Bel.drew | (refine Bel.trans ?_ (by assumption)))); first | (simp_all; done) | grind)
  · have ev1 : (v == 0) = false := by simpa using hv
    have ev2 : (v != 0) = true := by simpa using hv
    have ev3 : decide (v = 0) = false := by simpa using hv
    go_enter Tryz.func147, Tryz.ntmps147
    go_wp2
    obtain ⟨W, hW, hbW, hsW, d0, d1, d2, d3, d4, d5⟩ := box6 w (.int .i64 5) (.int .i64 v) (.int .i64 n) (.int .i64 o) (.int .i64 a) (.int .i64 b) 154
    rw [← hW]
    clear hW
    have hlt : w.heap.size < W.heap.size := by omega
    go_region_held3 (fun W' => W'.cell? ⟨w.heap.size, 0, none⟩ = some (.int .i64 5) ∧ W'.cell? ⟨w.heap.size, 1, none⟩ = some (.int .i64 v) ∧ W'.cell? ⟨w.heap.size, 2, none⟩ = some (.int .i64 n) ∧ W'.cell? ⟨w.heap.size, 3, none⟩ = some (.int .i64 o) ∧ W'.cell? ⟨w.heap.size, 4, none⟩ = some (.int .i64 a) ∧ W'.cell? ⟨w.heap.size, 5, none⟩ = some (.int .i64 b)) (first | exact ⟨d0, d1, d2, d3, d4, d5⟩ | exact ⟨hb.cell d0, hb.cell d1, hb.cell d2, hb.cell d3, hb.cell d4, hb.cell d5⟩) (first | (go_at_call 157; refine (hcall _).mono ?_; rintro e w' ⟨rfl, hb⟩; obtain ⟨hc, hf⟩ := hb.rd))
    all_goals go_wp2_with (first | (go_at_call 71; refine (l01In_any _ _ _ _).mono ?_; rintro e w' ⟨rfl, rfl⟩) | (go_at_call 73; refine (sExprOk_any ⟨_, _, _⟩ _).mono ?_; rintro e w' ⟨rfl, hb⟩; obtain ⟨hc, hf⟩ := hb.rd))
    all_goals (go_ret; refine ⟨retB ?_, ?_⟩; rotate_left; (repeat (first | exact Bel.refl _ | assumption | apply Bel.alloc | apply Bel.drewN | apply Bel.drew | (refine Bel.trans ?_ (by assumption)))); first | (simp_all; done) | grind)
set_option maxHeartbeats 4000000 in
theorem sStmtOk_6 (k v n o a b : Int) (w : World) (k1 : ¬ k = 1) (k2 : ¬ k = 2) (k3 : ¬ k = 3) (k4 : ¬ k = 4) (k5 : ¬ k = 5) : Calls Tryz.prog 147 #[.agg #[.int .i64 k, .int .i64 v, .int .i64 n, .int .i64 o, .int .i64 a, .int .i64 b]] w (Bl (.bool (stOk ⟨k, v, n, o, a, b⟩)) w) := by
  have hcall := l04Plain_any ⟨k, v, n, o, a, b⟩
  rw [plain6 k v n o a b k1 k2 k3 k4 k5] at hcall
  rw [stOk6 k v n o a b k1 k2 k3 k4 k5]
  have k1' : (k == 1) = false := by simpa using k1
  have k2' : (k == 2) = false := by simpa using k2
  have k3' : (k == 3) = false := by simpa using k3
  have k4' : (k == 4) = false := by simpa using k4
  have k5' : (k == 5) = false := by simpa using k5
  clear k1 k2 k3 k4 k5
  by_cases hv : v = 0
  · subst hv
    by_cases hn : n = 0
    · subst hn
      by_cases ho : o = 0
      · subst ho
        by_cases ha : a = 0
        · subst ha
          by_cases hb : b = 0
          · subst hb
            go_enter Tryz.func147, Tryz.ntmps147
            go_wp2
            obtain ⟨W, hW, hbW, hsW, d0, d1, d2, d3, d4, d5⟩ := box6 w (.int .i64 k) (.int .i64 0) (.int .i64 0) (.int .i64 0) (.int .i64 0) (.int .i64 0) 154
            rw [← hW]
            clear hW
            have hlt : w.heap.size < W.heap.size := by omega
            go_region_held3 (fun W' => W'.cell? ⟨w.heap.size, 0, none⟩ = some (.int .i64 k) ∧ W'.cell? ⟨w.heap.size, 1, none⟩ = some (.int .i64 0) ∧ W'.cell? ⟨w.heap.size, 2, none⟩ = some (.int .i64 0) ∧ W'.cell? ⟨w.heap.size, 3, none⟩ = some (.int .i64 0) ∧ W'.cell? ⟨w.heap.size, 4, none⟩ = some (.int .i64 0) ∧ W'.cell? ⟨w.heap.size, 5, none⟩ = some (.int .i64 0)) (first | exact ⟨d0, d1, d2, d3, d4, d5⟩ | exact ⟨hb.cell d0, hb.cell d1, hb.cell d2, hb.cell d3, hb.cell d4, hb.cell d5⟩) (first | (go_at_call 157; refine (hcall _).mono ?_; rintro e w' ⟨rfl, hb⟩; obtain ⟨hc, hf⟩ := hb.rd))
            all_goals go_wp2_with (first | (go_at_call 71; refine (l01In_any _ _ _ _).mono ?_; rintro e w' ⟨rfl, rfl⟩) | (go_at_call 73; refine (sExprOk_any ⟨_, _, _⟩ _).mono ?_; rintro e w' ⟨rfl, hb⟩; obtain ⟨hc, hf⟩ := hb.rd))
            all_goals (go_ret; refine ⟨retB ?_, ?_⟩; rotate_left; (repeat (first | exact Bel.refl _ | assumption | apply Bel.alloc | apply Bel.drewN | apply Bel.drew | (refine Bel.trans ?_ (by assumption)))); first | (simp_all; done) | grind)
          · have eb1 : (b == 0) = false := by simpa using hb
            have eb2 : (b != 0) = true := by simpa using hb
            have eb3 : decide (b = 0) = false := by simpa using hb
            go_enter Tryz.func147, Tryz.ntmps147
            go_wp2
            obtain ⟨W, hW, hbW, hsW, d0, d1, d2, d3, d4, d5⟩ := box6 w (.int .i64 k) (.int .i64 0) (.int .i64 0) (.int .i64 0) (.int .i64 0) (.int .i64 b) 154
            rw [← hW]
            clear hW
            have hlt : w.heap.size < W.heap.size := by omega
            go_region_held3 (fun W' => W'.cell? ⟨w.heap.size, 0, none⟩ = some (.int .i64 k) ∧ W'.cell? ⟨w.heap.size, 1, none⟩ = some (.int .i64 0) ∧ W'.cell? ⟨w.heap.size, 2, none⟩ = some (.int .i64 0) ∧ W'.cell? ⟨w.heap.size, 3, none⟩ = some (.int .i64 0) ∧ W'.cell? ⟨w.heap.size, 4, none⟩ = some (.int .i64 0) ∧ W'.cell? ⟨w.heap.size, 5, none⟩ = some (.int .i64 b)) (first | exact ⟨d0, d1, d2, d3, d4, d5⟩ | exact ⟨hb.cell d0, hb.cell d1, hb.cell d2, hb.cell d3, hb.cell d4, hb.cell d5⟩) (first | (go_at_call 157; refine (hcall _).mono ?_; rintro e w' ⟨rfl, hb⟩; obtain ⟨hc, hf⟩ := hb.rd))
            all_goals go_wp2_with (first | (go_at_call 71; refine (l01In_any _ _ _ _).mono ?_; rintro e w' ⟨rfl, rfl⟩) | (go_at_call 73; refine (sExprOk_any ⟨_, _, _⟩ _).mono ?_; rintro e w' ⟨rfl, hb⟩; obtain ⟨hc, hf⟩ := hb.rd))
            all_goals (go_ret; refine ⟨retB ?_, ?_⟩; rotate_left; (repeat (first | exact Bel.refl _ | assumption | apply Bel.alloc | apply Bel.drewN | apply Bel.drew | (refine Bel.trans ?_ (by assumption)))); first | (simp_all; done) | grind)
        · have ea1 : (a == 0) = false := by simpa using ha
          have ea2 : (a != 0) = true := by simpa using ha
          have ea3 : decide (a = 0) = false := by simpa using ha
          go_enter Tryz.func147, Tryz.ntmps147
          go_wp2
          obtain ⟨W, hW, hbW, hsW, d0, d1, d2, d3, d4, d5⟩ := box6 w (.int .i64 k) (.int .i64 0) (.int .i64 0) (.int .i64 0) (.int .i64 a) (.int .i64 b) 154
          rw [← hW]
          clear hW
          have hlt : w.heap.size < W.heap.size := by omega
          go_region_held3 (fun W' => W'.cell? ⟨w.heap.size, 0, none⟩ = some (.int .i64 k) ∧ W'.cell? ⟨w.heap.size, 1, none⟩ = some (.int .i64 0) ∧ W'.cell? ⟨w.heap.size, 2, none⟩ = some (.int .i64 0) ∧ W'.cell? ⟨w.heap.size, 3, none⟩ = some (.int .i64 0) ∧ W'.cell? ⟨w.heap.size, 4, none⟩ = some (.int .i64 a) ∧ W'.cell? ⟨w.heap.size, 5, none⟩ = some (.int .i64 b)) (first | exact ⟨d0, d1, d2, d3, d4, d5⟩ | exact ⟨hb.cell d0, hb.cell d1, hb.cell d2, hb.cell d3, hb.cell d4, hb.cell d5⟩) (first | (go_at_call 157; refine (hcall _).mono ?_; rintro e w' ⟨rfl, hb⟩; obtain ⟨hc, hf⟩ := hb.rd))
          all_goals go_wp2_with (first | (go_at_call 71; refine (l01In_any _ _ _ _).mono ?_; rintro e w' ⟨rfl, rfl⟩) | (go_at_call 73; refine (sExprOk_any ⟨_, _, _⟩ _).mono ?_; rintro e w' ⟨rfl, hb⟩; obtain ⟨hc, hf⟩ := hb.rd))
          all_goals (go_ret; refine ⟨retB ?_, ?_⟩; rotate_left; (repeat (first | exact Bel.refl _ | assumption | apply Bel.alloc | apply Bel.drewN | apply Bel.drew | (refine Bel.trans ?_ (by assumption)))); first | (simp_all; done) | grind)
      · have eo1 : (o == 0) = false := by simpa using ho
        have eo2 : (o != 0) = true := by simpa using ho
        have eo3 : decide (o = 0) = false := by simpa using ho
        go_enter Tryz.func147, Tryz.ntmps147
        go_wp2
        obtain ⟨W, hW, hbW, hsW, d0, d1, d2, d3, d4, d5⟩ := box6 w (.int .i64 k) (.int .i64 0) (.int .i64 0) (.int .i64 o) (.int .i64 a) (.int .i64 b) 154
        rw [← hW]
        clear hW
        have hlt : w.heap.size < W.heap.size := by omega
        go_region_held3 (fun W' => W'.cell? ⟨w.heap.size, 0, none⟩ = some (.int .i64 k) ∧ W'.cell? ⟨w.heap.size, 1, none⟩ = some (.int .i64 0) ∧ W'.cell? ⟨w.heap.size, 2, none⟩ = some (.int .i64 0) ∧ W'.cell? ⟨w.heap.size, 3, none⟩ = some (.int .i64 o) ∧ W'.cell? ⟨w.heap.size, 4, none⟩ = some (.int .i64 a) ∧ W'.cell? ⟨w.heap.size, 5, none⟩ = some (.int .i64 b)) (first | exact ⟨d0, d1, d2, d3, d4, d5⟩ | exact ⟨hb.cell d0, hb.cell d1, hb.cell d2, hb.cell d3, hb.cell d4, hb.cell d5⟩) (first | (go_at_call 157; refine (hcall _).mono ?_; rintro e w' ⟨rfl, hb⟩; obtain ⟨hc, hf⟩ := hb.rd))
        all_goals go_wp2_with (first | (go_at_call 71; refine (l01In_any _ _ _ _).mono ?_; rintro e w' ⟨rfl, rfl⟩) | (go_at_call 73; refine (sExprOk_any ⟨_, _, _⟩ _).mono ?_; rintro e w' ⟨rfl, hb⟩; obtain ⟨hc, hf⟩ := hb.rd))
        all_goals (go_ret; refine ⟨retB ?_, ?_⟩; rotate_left; (repeat (first | exact Bel.refl _ | assumption | apply Bel.alloc | apply Bel.drewN | apply Bel.drew | (refine Bel.trans ?_ (by assumption)))); first | (simp_all; done) | grind)
    · have en1 : (n == 0) = false := by simpa using hn
      have en2 : (n != 0) = true := by simpa using hn
      have en3 : decide (n = 0) = false := by simpa using hn
      go_enter Tryz.func147, Tryz.ntmps147
      go_wp2
      obtain ⟨W, hW, hbW, hsW, d0, d1, d2, d3, d4, d5⟩ := box6 w (.int .i64 k) (.int .i64 0) (.int .i64 n) (.int .i64 o) (.int .i64 a) (.int .i64 b) 154
      rw [← hW]
      clear hW
      have hlt : w.heap.size < W.heap.size := by omega
      go_region_held3 (fun W' => W'.cell? ⟨w.heap.size, 0, none⟩ = some (.int .i64 k) ∧ W'.cell? ⟨w.heap.size, 1, none⟩ = some (.int .i64 0) ∧ W'.cell? ⟨w.heap.size, 2, none⟩ = some (.int .i64 n) ∧ W'.cell? ⟨w.heap.size, 3, none⟩ = some (.int .i64 o) ∧ W'.cell? ⟨w.heap.size, 4, none⟩ = some (.int .i64 a) ∧ W'.cell? ⟨w.heap.size, 5, none⟩ = some (.int .i64 b)) (first | exact ⟨d0, d1, d2, d3, d4, d5⟩ | exact ⟨hb.cell d0, hb.cell d1, hb.cell d2, hb.cell d3, hb.cell d4, hb.cell d5⟩) (first | (go_at_call 157; refine (hcall _).mono ?_; rintro e w' ⟨rfl, hb⟩; obtain ⟨hc, hf⟩ := hb.rd))
      all_goals go_wp2_with (first | (go_at_call 71; refine (l01In_any _ _ _ _).mono ?_; rintro e w' ⟨rfl, rfl⟩) | (go_at_call 73; refine (sExprOk_any ⟨_, _, _⟩ _).mono ?_; rintro e w' ⟨rfl, hb⟩; obtain ⟨hc, hf⟩ := hb.rd))
      all_goals (go_ret; refine ⟨retB ?_, ?_⟩; rotate_left; (repeat (first | exact Bel.refl _ | assumption | apply Bel.alloc | apply Bel.drewN | apply Bel.drew | (refine Bel.trans ?_ (by assumption)))); first | (simp_all; done) | grind)
  · have ev1 : (v == 0) = false := by simpa using hv
    have ev2 : (v != 0) = true := by simpa using hv
    have ev3 : decide (v = 0) = false := by simpa using hv
    go_enter Tryz.func147, Tryz.ntmps147
    go_wp2
    obtain ⟨W, hW, hbW, hsW, d0, d1, d2, d3, d4, d5⟩ := box6 w (.int .i64 k) (.int .i64 v) (.int .i64 n) (.int .i64 o) (.int .i64 a) (.int .i64 b) 154
    rw [← hW]
    clear hW
    have hlt : w.heap.size < W.heap.size := by omega
    go_region_held3 (fun W' => W'.cell? ⟨w.heap.size, 0, none⟩ = some (.int .i64 k) ∧ W'.cell? ⟨w.heap.size, 1, none⟩ = some (.int .i64 v) ∧ W'.cell? ⟨w.heap.size, 2, none⟩ = some (.int .i64 n) ∧ W'.cell? ⟨w.heap.size, 3, none⟩ = some (.int .i64 o) ∧ W'.cell? ⟨w.heap.size, 4, none⟩ = some (.int .i64 a) ∧ W'.cell? ⟨w.heap.size, 5, none⟩ = some (.int .i64 b)) (first | exact ⟨d0, d1, d2, d3, d4, d5⟩ | exact ⟨hb.cell d0, hb.cell d1, hb.cell d2, hb.cell d3, hb.cell d4, hb.cell d5⟩) (first | (go_at_call 157; refine (hcall _).mono ?_; rintro e w' ⟨rfl, hb⟩; obtain ⟨hc, hf⟩ := hb.rd))
    all_goals go_wp2_with (first | (go_at_call 71; refine (l01In_any _ _ _ _).mono ?_; rintro e w' ⟨rfl, rfl⟩) | (go_at_call 73; refine (sExprOk_any ⟨_, _, _⟩ _).mono ?_; rintro e w' ⟨rfl, hb⟩; obtain ⟨hc, hf⟩ := hb.rd))
    all_goals (go_ret; refine ⟨retB ?_, ?_⟩; rotate_left; (repeat (first | exact Bel.refl _ | assumption | apply Bel.alloc | apply Bel.drewN | apply Bel.drew | (refine Bel.trans ?_ (by assumption)))); first | (simp_all; done) | grind)
theorem sStmtOk_any (s : St) (w : World) : Calls Tryz.prog 147 #[.agg #[.int .i64 s.kind, .int .i64 s.var, .int .i64 s.n, .int .i64 s.op, .int .i64 s.a, .int .i64 s.b]] w (Bl (.bool (stOk s)) w) := by
  rcases s with ⟨k, v, n, o, a, b⟩
  by_cases k1 : k = 1
  · subst k1; exact sStmtOk_1 v n o a b w
  by_cases k2 : k = 2
  · subst k2; exact sStmtOk_2 v n o a b w
  by_cases k3 : k = 3
  · subst k3; exact sStmtOk_3 v n o a b w
  by_cases k4 : k = 4
  · subst k4; exact sStmtOk_4 v n o a b w
  by_cases k5 : k = 5
  · subst k5; exact sStmtOk_5 v n o a b w
  · exact sStmtOk_6 k v n o a b w k1 k2 k3 k4 k5
end Go.Proofs.YtgodbldchaonpaaGreat

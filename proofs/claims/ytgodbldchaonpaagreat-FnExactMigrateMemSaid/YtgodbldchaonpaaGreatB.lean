/- What the small functions of program and reference answer: numbers, expressions, statements, stores, spans, control words. No condition. -/
import Derived.Test.YtgodbldchaonpaaGreatA
namespace Go.Proofs.YtgodbldchaonpaaGreat
open Go.RowKit
set_option linter.unusedVariables false
def inB (a lo hi : Int) : Bool := decide (lo ≤ a ∧ a ≤ hi)
def vOk (n : Int) : Bool := inB n (-1000000) 1000000
def opOk (n : Int) : Bool := inB n (-8) 999
def exOk (e : Ex) : Bool := inB e.op 1 7 && (opOk e.a && opOk e.b)
def hasVar (k : Int) : Bool := decide (k = 1 ∨ k = 2)
def hasEx (k : Int) : Bool := decide (k = 1 ∨ k = 3 ∨ k = 4)
def opens (k : Int) : Bool := decide (k = 4 ∨ k = 5)
def St.ex (s : St) : Ex := ⟨s.op, s.a, s.b⟩
def stNum (k n : Int) : Bool := if k = 2 then inB n 0 3 else if k = 5 then inB n 1 5 else decide (n = 0)
def stOk (s : St) : Bool := inB s.kind 1 6 && ((if hasVar s.kind then inB s.var 0 7 else decide (s.var = 0)) && ((if hasEx s.kind then exOk s.ex else decide (s.ex = ⟨0, 0, 0⟩)) && stNum s.kind s.n))
structure Sr where
  chg : Int
  cap : Int
  on : Int
  leak : Int
  deriving DecidableEq, Inhabited
def srOk (s : Sr) : Bool := inB s.cap 1 5000 && (inB s.chg 0 s.cap && (inB s.on 1 s.cap && inB s.leak 0 100))
def spOk (l h : Int) : Bool := decide (0 ≤ l ∧ l ≤ h ∧ h ≤ 1000000)
def pack (t c n : Int) : Int := if inB t 0 5 && (inB c 0 8 && inB n 0 24) then t + 8 * (c + 16 * n) else -1
def unpack (x : Int) : Int × Int × Int := if 0 ≤ x ∧ pack (x % 8) (x / 8 % 16) (x / 128) = x then (x % 8, x / 8 % 16, x / 128) else (-1, -1, -1)
theorem pack_le (t c n : Int) : pack t c n ≤ 3205 := by
  unfold pack inB; split
  · simp only [Bool.and_eq_true, decide_eq_true_eq] at *; omega
  · omega
set_option maxHeartbeats 1000000 in
theorem within_any (a b c : Int) (w : World) : Calls Tryz.prog 92 #[.int .i64 a, .int .i64 b, .int .i64 c] w (Sm (.bool (inB a b c)) w) := by
  go_enter Tryz.func92, Tryz.ntmps92
  go_wp2
  all_goals (go_ret; exact ⟨retB (by unfold inB; first | (simp_all; done) | grind), rfl⟩)
set_option maxHeartbeats 1000000 in
theorem l01In_any (a b c : Int) (w : World) : Calls Tryz.prog 71 #[.int .i64 a, .int .i64 b, .int .i64 c] w (Sm (.bool (inB a b c)) w) := by
  go_enter Tryz.func71, Tryz.ntmps71
  go_wp2
  all_goals (go_ret; exact ⟨retB (by unfold inB; first | (simp_all; done) | grind), rfl⟩)
theorem IsValue_any (a : Int) (w : World) : Calls Tryz.prog 83 #[.int .i64 a] w (Sm (.bool (vOk a)) w) := by
  go_enter Tryz.func83, Tryz.ntmps83
  go_wp2_with (go_at_call 92; refine (within_any _ _ _ _).mono ?_; rintro e w' ⟨rfl, rfl⟩)
  all_goals (go_ret; exact ⟨rfl, rfl⟩)
theorem sIsValue_any (a : Int) (w : World) : Calls Tryz.prog 72 #[.int .i64 a] w (Sm (.bool (vOk a)) w) := by
  go_enter Tryz.func72, Tryz.ntmps72
  go_wp2_with (go_at_call 71; refine (l01In_any _ _ _ _).mono ?_; rintro e w' ⟨rfl, rfl⟩)
  all_goals (go_ret; exact ⟨rfl, rfl⟩)
theorem OperandOk_any (a : Int) (w : World) : Calls Tryz.prog 131 #[.int .i64 a] w (Sm (.bool (opOk a)) w) := by
  go_enter Tryz.func131, Tryz.ntmps131
  go_wp2_with (go_at_call 92; refine (within_any _ _ _ _).mono ?_; rintro e w' ⟨rfl, rfl⟩)
  all_goals (go_ret; exact ⟨rfl, rfl⟩)
theorem sOperandOk_any (a : Int) (w : World) : Calls Tryz.prog 118 #[.int .i64 a] w (Sm (.bool (opOk a)) w) := by
  go_enter Tryz.func118, Tryz.ntmps118
  go_wp2_with (go_at_call 71; refine (l01In_any _ _ _ _).mono ?_; rintro e w' ⟨rfl, rfl⟩)
  all_goals (go_ret; exact ⟨rfl, rfl⟩)
theorem isVar_any (a : Int) (w : World) : Calls Tryz.prog 82 #[.int .i64 a] w (Sm (.bool (inB a 0 7)) w) := by
  go_enter Tryz.func82, Tryz.ntmps82
  go_wp2_with (go_at_call 92; refine (within_any _ _ _ _).mono ?_; rintro e w' ⟨rfl, rfl⟩)
  all_goals (go_ret; exact ⟨rfl, rfl⟩)
theorem isSensor_any (a : Int) (w : World) : Calls Tryz.prog 163 #[.int .i64 a] w (Sm (.bool (inB a 0 3)) w) := by
  go_enter Tryz.func163, Tryz.ntmps163
  go_wp2_with (go_at_call 92; refine (within_any _ _ _ _).mono ?_; rintro e w' ⟨rfl, rfl⟩)
  all_goals (go_ret; exact ⟨rfl, rfl⟩)
theorem hasVar_any (a : Int) (w : World) : Calls Tryz.prog 161 #[.int .i64 a] w (Sm (.bool (hasVar a)) w) := by
  go_enter Tryz.func161, Tryz.ntmps161
  go_wp2
  all_goals (go_ret; exact ⟨retB (by unfold hasVar; first | (simp_all; done) | grind), rfl⟩)
theorem hasExpr_any (a : Int) (w : World) : Calls Tryz.prog 162 #[.int .i64 a] w (Sm (.bool (hasEx a)) w) := by
  go_enter Tryz.func162, Tryz.ntmps162
  go_wp2
  all_goals (go_ret; exact ⟨retB (by unfold hasEx; first | (simp_all; done) | grind), rfl⟩)
theorem isOpening_any (a : Int) (w : World) : Calls Tryz.prog 160 #[.int .i64 a] w (Sm (.bool (opens a)) w) := by
  go_enter Tryz.func160, Tryz.ntmps160
  go_wp2
  all_goals (go_ret; exact ⟨retB (by unfold opens; first | (simp_all; done) | grind), rfl⟩)
set_option maxHeartbeats 1000000 in
theorem ExprOk_any (s : Ex) (w : World) : Calls Tryz.prog 86 #[.agg #[.int .i64 s.op, .int .i64 s.a, .int .i64 s.b]] w (Bl (.bool (exOk s)) w) := by
  go_enter Tryz.func86, Tryz.ntmps86
  go_wp2_with (first | (go_at_call 92; refine (within_any _ _ _ _).mono ?_; rintro e w' ⟨rfl, rfl⟩) | (go_at_call 131; refine (OperandOk_any _ _).mono ?_; rintro e w' ⟨rfl, rfl⟩))
  all_goals (go_ret; refine ⟨retB (by unfold exOk; first | (simp_all; done) | grind), ?_⟩; repeat (first | exact Bel.refl _ | assumption | apply Bel.alloc | apply Bel.drewN | apply Bel.drew | (refine Bel.trans ?_ (by assumption))))
set_option maxHeartbeats 1000000 in
theorem sExprOk_any (s : Ex) (w : World) : Calls Tryz.prog 73 #[.agg #[.int .i64 s.op, .int .i64 s.a, .int .i64 s.b]] w (Bl (.bool (exOk s)) w) := by
  go_enter Tryz.func73, Tryz.ntmps73
  go_wp2_with (first | (go_at_call 71; refine (l01In_any _ _ _ _).mono ?_; rintro e w' ⟨rfl, rfl⟩) | (go_at_call 118; refine (sOperandOk_any _ _).mono ?_; rintro e w' ⟨rfl, rfl⟩))
  all_goals (go_ret; refine ⟨retB (by unfold exOk; first | (simp_all; done) | grind), ?_⟩; repeat (first | exact Bel.refl _ | assumption | apply Bel.alloc | apply Bel.drewN | apply Bel.drew | (refine Bel.trans ?_ (by assumption))))
set_option maxHeartbeats 1000000 in
theorem StoreOk_any (s : Sr) (w : World) : Calls Tryz.prog 107 #[.agg #[.int .i64 s.chg, .int .i64 s.cap, .int .i64 s.on, .int .i64 s.leak]] w (Bl (.bool (srOk s)) w) := by
  go_enter Tryz.func107, Tryz.ntmps107
  go_wp2_with (go_at_call 92; refine (within_any _ _ _ _).mono ?_; rintro e w' ⟨rfl, rfl⟩)
  all_goals (go_ret; refine ⟨retB (by unfold srOk; first | (simp_all; done) | grind), ?_⟩; repeat (first | exact Bel.refl _ | assumption | apply Bel.alloc | apply Bel.drewN | apply Bel.drew | (refine Bel.trans ?_ (by assumption))))
set_option maxHeartbeats 1000000 in
theorem sStoreOk_any (s : Sr) (w : World) : Calls Tryz.prog 99 #[.agg #[.int .i64 s.chg, .int .i64 s.cap, .int .i64 s.on, .int .i64 s.leak]] w (Bl (.bool (srOk s)) w) := by
  go_enter Tryz.func99, Tryz.ntmps99
  go_wp2_with (go_at_call 71; refine (l01In_any _ _ _ _).mono ?_; rintro e w' ⟨rfl, rfl⟩)
  all_goals (go_ret; refine ⟨retB (by unfold srOk; first | (simp_all; done) | grind), ?_⟩; repeat (first | exact Bel.refl _ | assumption | apply Bel.alloc | apply Bel.drewN | apply Bel.drew | (refine Bel.trans ?_ (by assumption))))
set_option maxHeartbeats 1000000 in
theorem SpanOk_any (l h : Int) (w : World) : Calls Tryz.prog 108 #[.agg #[.int .i64 l, .int .i64 h]] w (Bl (.bool (spOk l h)) w) := by
  go_enter Tryz.func108, Tryz.ntmps108
  go_wp2
  all_goals (go_ret; refine ⟨retB (by unfold spOk; first | (simp_all; done) | grind), ?_⟩; repeat (first | exact Bel.refl _ | assumption | apply Bel.alloc | apply Bel.drewN | apply Bel.drew | (refine Bel.trans ?_ (by assumption))))
set_option maxHeartbeats 1000000 in
theorem sSpanOk_any (l h : Int) (w : World) : Calls Tryz.prog 100 #[.agg #[.int .i64 l, .int .i64 h]] w (Bl (.bool (spOk l h)) w) := by
  go_enter Tryz.func100, Tryz.ntmps100
  go_wp2
  all_goals (go_ret; refine ⟨retB (by unfold spOk; first | (simp_all; done) | grind), ?_⟩; repeat (first | exact Bel.refl _ | assumption | apply Bel.alloc | apply Bel.drewN | apply Bel.drew | (refine Bel.trans ?_ (by assumption))))
set_option maxHeartbeats 1000000 in
theorem PackControl_any (t c n : Int) (w : World) : Calls Tryz.prog 46 #[.int .i64 t, .int .i64 c, .int .i64 n] w (Sm (.int .i64 (pack t c n)) w) := by
  go_enter Tryz.func46, Tryz.ntmps46
  go_wp2_with (go_at_call 92; refine (within_any _ _ _ _).mono ?_; rintro e w' ⟨rfl, rfl⟩)
  all_goals (go_ret; refine ⟨retI ?_, rfl⟩; unfold pack; first | (simp_all; done) | (simp_all [inB, wrap64]; omega))
set_option maxHeartbeats 1000000 in
theorem sPackControl_any (t c n : Int) (w : World) : Calls Tryz.prog 37 #[.int .i64 t, .int .i64 c, .int .i64 n] w (Sm (.int .i64 (pack t c n)) w) := by
  go_enter Tryz.func37, Tryz.ntmps37
  go_wp2_with (go_at_call 71; refine (l01In_any _ _ _ _).mono ?_; rintro e w' ⟨rfl, rfl⟩)
  all_goals (go_ret; refine ⟨retI ?_, rfl⟩; unfold pack; first | (simp_all; done) | (simp_all [inB, wrap64]; omega))
end Go.Proofs.YtgodbldchaonpaaGreat

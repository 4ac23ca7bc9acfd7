/- What the small functions of program and reference answer: numbers, expressions, statements, stores, spans, control words. No condition. -/
import Derived.Test.YtgodbldchaonpaaA
namespace Go.Proofs.Ytgodbldchaonpaa
open Go.RowKit
set_option linter.unusedVariables false
def inB (a lo hi : Int) : Bool := decide (lo ≤ a ∧ a ≤ hi)
def vOk (n : Int) : Bool := inB n (-1000000) 1000000
def opOk (n : Int) : Bool := inB n (-8) 999
def exOk (e : Ex) : Bool := inB e.op 1 7 && (opOk e.a && opOk e.b)
def hasVar (k : Int) : Bool := decide (k = 1 ∨ k = 2)
def hasEx (k : Int) : Bool := decide (k = 1 ∨ k = 3 ∨ k = 4)
def opens (k : Int) : Bool := decide (k = 4 ∨ k = 5)
def St.ex (s : St) : Ex := ⟨s.op, s.a, s.b⟩
def stNum (k n : Int) : Bool := if k = 2 then inB n 0 3 else if k = 5 then inB n 1 5 else decide (n = 0)
def stOk (s : St) : Bool := inB s.kind 1 6 && ((if hasVar s.kind then inB s.var 0 7 else decide (s.var = 0)) && ((if hasEx s.kind then exOk s.ex else decide (s.ex = ⟨0, 0, 0⟩)) && stNum s.kind s.n))
structure Sr where
  chg : Int
  cap : Int
  on : Int
  leak : Int
  deriving DecidableEq, Inhabited
def srOk (s : Sr) : Bool := inB s.cap 1 5000 && (inB s.chg 0 s.cap && (inB s.on 1 s.cap && inB s.leak 0 100))
def spOk (l h : Int) : Bool := decide (0 ≤ l ∧ l ≤ h ∧ h ≤ 1000000)
def pack (t c n : Int) : Int := if inB t 0 5 && (inB c 0 8 && inB n 0 24) then t + 8 * (c + 16 * n) else -1
def unpack (x : Int) : Int × Int × Int := if 0 ≤ x ∧ pack (x % 8) (x / 8 % 16) (x / 128) = x then (x % 8, x / 8 % 16, x / 128) else (-1, -1, -1)
theorem pack_le (t c n : Int) : pack t c n ≤ 3205 := by
  unfold pack inB; split
  · simp only [Bool.and_eq_true, decide_eq_true_eq] at *; omega
  · omega
set_option maxHeartbeats 1000000 in
theorem within_any (a b c : Int) (w : World) : Calls Try.prog 60 #[.int .i64 a, .int .i64 b, .int .i64 c] w (Sm (.bool (inB a b c)) w) := by
  go_enter Try.func60, Try.ntmps60
  go_wp2
  all_goals (go_ret; exact ⟨retB (by unfold inB; first | (simp_all; done) | grind), rfl⟩)
set_option maxHeartbeats 1000000 in
theorem l01In_any (a b c : Int) (w : World) : Calls Try.prog 56 #[.int .i64 a, .int .i64 b, .int .i64 c] w (Sm (.bool (inB a b c)) w) := by
  go_enter Try.func56, Try.ntmps56
  go_wp2
  all_goals (go_ret; exact ⟨retB (by unfold inB; first | (simp_all; done) | grind), rfl⟩)
theorem IsValue_any (a : Int) (w : World) : Calls Try.prog 66 #[.int .i64 a] w (Sm (.bool (vOk a)) w) := by
  go_enter Try.func66, Try.ntmps66
  go_wp2_with (go_at_call 60; refine (within_any _ _ _ _).mono ?_; rintro e w' ⟨rfl, rfl⟩)
  all_goals (go_ret; exact ⟨rfl, rfl⟩)
theorem sIsValue_any (a : Int) (w : World) : Calls Try.prog 57 #[.int .i64 a] w (Sm (.bool (vOk a)) w) := by
  go_enter Try.func57, Try.ntmps57
  go_wp2_with (go_at_call 56; refine (l01In_any _ _ _ _).mono ?_; rintro e w' ⟨rfl, rfl⟩)
  all_goals (go_ret; exact ⟨rfl, rfl⟩)
theorem OperandOk_any (a : Int) (w : World) : Calls Try.prog 106 #[.int .i64 a] w (Sm (.bool (opOk a)) w) := by
  go_enter Try.func106, Try.ntmps106
  go_wp2_with (go_at_call 60; refine (within_any _ _ _ _).mono ?_; rintro e w' ⟨rfl, rfl⟩)
  all_goals (go_ret; exact ⟨rfl, rfl⟩)
theorem sOperandOk_any (a : Int) (w : World) : Calls Try.prog 86 #[.int .i64 a] w (Sm (.bool (opOk a)) w) := by
  go_enter Try.func86, Try.ntmps86
  go_wp2_with (go_at_call 56; refine (l01In_any _ _ _ _).mono ?_; rintro e w' ⟨rfl, rfl⟩)
  all_goals (go_ret; exact ⟨rfl, rfl⟩)
theorem isVar_any (a : Int) (w : World) : Calls Try.prog 99 #[.int .i64 a] w (Sm (.bool (inB a 0 7)) w) := by
  go_enter Try.func99, Try.ntmps99
  go_wp2_with (go_at_call 60; refine (within_any _ _ _ _).mono ?_; rintro e w' ⟨rfl, rfl⟩)
  all_goals (go_ret; exact ⟨rfl, rfl⟩)
theorem isSensor_any (a : Int) (w : World) : Calls Try.prog 111 #[.int .i64 a] w (Sm (.bool (inB a 0 3)) w) := by
  go_enter Try.func111, Try.ntmps111
  go_wp2_with (go_at_call 60; refine (within_any _ _ _ _).mono ?_; rintro e w' ⟨rfl, rfl⟩)
  all_goals (go_ret; exact ⟨rfl, rfl⟩)
theorem hasVar_any (a : Int) (w : World) : Calls Try.prog 109 #[.int .i64 a] w (Sm (.bool (hasVar a)) w) := by
  go_enter Try.func109, Try.ntmps109
  go_wp2
  all_goals (go_ret; exact ⟨retB (by unfold hasVar; first | (simp_all; done) | grind), rfl⟩)
theorem hasExpr_any (a : Int) (w : World) : Calls Try.prog 110 #[.int .i64 a] w (Sm (.bool (hasEx a)) w) := by
  go_enter Try.func110, Try.ntmps110
  go_wp2
  all_goals (go_ret; exact ⟨retB (by unfold hasEx; first | (simp_all; done) | grind), rfl⟩)
theorem isOpening_any (a : Int) (w : World) : Calls Try.prog 105 #[.int .i64 a] w (Sm (.bool (opens a)) w) := by
  go_enter Try.func105, Try.ntmps105
  go_wp2
  all_goals (go_ret; exact ⟨retB (by unfold opens; first | (simp_all; done) | grind), rfl⟩)
set_option maxHeartbeats 1000000 in
theorem ExprOk_any (s : Ex) (w : World) : Calls Try.prog 91 #[.agg #[.int .i64 s.op, .int .i64 s.a, .int .i64 s.b]] w (Bl (.bool (exOk s)) w) := by
  go_enter Try.func91, Try.ntmps91
  go_wp2_with (first | (go_at_call 60; refine (within_any _ _ _ _).mono ?_; rintro e w' ⟨rfl, rfl⟩) | (go_at_call 106; refine (OperandOk_any _ _).mono ?_; rintro e w' ⟨rfl, rfl⟩))
  all_goals (go_ret; refine ⟨retB (by unfold exOk; first | (simp_all; done) | grind), ?_⟩; repeat (first | exact Bel.refl _ | assumption | apply Bel.alloc | apply Bel.drewN | apply Bel.drew | (refine Bel.trans ?_ (by assumption))))
set_option maxHeartbeats 1000000 in
theorem sExprOk_any (s : Ex) (w : World) : Calls Try.prog 55 #[.agg #[.int .i64 s.op, .int .i64 s.a, .int .i64 s.b]] w (Bl (.bool (exOk s)) w) := by
  go_enter Try.func55, Try.ntmps55
  go_wp2_with (first | (go_at_call 56; refine (l01In_any _ _ _ _).mono ?_; rintro e w' ⟨rfl, rfl⟩) | (go_at_call 86; refine (sOperandOk_any _ _).mono ?_; rintro e w' ⟨rfl, rfl⟩))
  all_goals (go_ret; refine ⟨retB (by unfold exOk; first | (simp_all; done) | grind), ?_⟩; repeat (first | exact Bel.refl _ | assumption | apply Bel.alloc | apply Bel.drewN | apply Bel.drew | (refine Bel.trans ?_ (by assumption))))
set_option maxHeartbeats 1000000 in
theorem StoreOk_any (s : Sr) (w : World) : Calls Try.prog 32 #[.agg #[.int .i64 s.chg, .int .i64 s.cap, .int .i64 s.on, .int .i64 s.leak]] w (Bl (.bool (srOk s)) w) := by
  go_enter Try.func32, Try.ntmps32
  go_wp2_with (go_at_call 60; refine (within_any _ _ _ _).mono ?_; rintro e w' ⟨rfl, rfl⟩)
  all_goals (go_ret; refine ⟨retB (by unfold srOk; first | (simp_all; done) | grind), ?_⟩; repeat (first | exact Bel.refl _ | assumption | apply Bel.alloc | apply Bel.drewN | apply Bel.drew | (refine Bel.trans ?_ (by assumption))))
set_option maxHeartbeats 1000000 in
theorem sStoreOk_any (s : Sr) (w : World) : Calls Try.prog 26 #[.agg #[.int .i64 s.chg, .int .i64 s.cap, .int .i64 s.on, .int .i64 s.leak]] w (Bl (.bool (srOk s)) w) := by
  go_enter Try.func26, Try.ntmps26
  go_wp2_with (go_at_call 56; refine (l01In_any _ _ _ _).mono ?_; rintro e w' ⟨rfl, rfl⟩)
  all_goals (go_ret; refine ⟨retB (by unfold srOk; first | (simp_all; done) | grind), ?_⟩; repeat (first | exact Bel.refl _ | assumption | apply Bel.alloc | apply Bel.drewN | apply Bel.drew | (refine Bel.trans ?_ (by assumption))))
set_option maxHeartbeats 1000000 in
theorem SpanOk_any (l h : Int) (w : World) : Calls Try.prog 81 #[.agg #[.int .i64 l, .int .i64 h]] w (Bl (.bool (spOk l h)) w) := by
  go_enter Try.func81, Try.ntmps81
  go_wp2
  all_goals (go_ret; refine ⟨retB (by unfold spOk; first | (simp_all; done) | grind), ?_⟩; repeat (first | exact Bel.refl _ | assumption | apply Bel.alloc | apply Bel.drewN | apply Bel.drew | (refine Bel.trans ?_ (by assumption))))
set_option maxHeartbeats 1000000 in
theorem sSpanOk_any (l h : Int) (w : World) : Calls Try.prog 76 #[.agg #[.int .i64 l, .int .i64 h]] w (Bl (.bool (spOk l h)) w) := by
  go_enter Try.func76, Try.ntmps76
  go_wp2
  all_goals (go_ret; refine ⟨retB (by unfold spOk; first | (simp_all; done) | grind), ?_⟩; repeat (first | exact Bel.refl _ | assumption | apply Bel.alloc | apply Bel.drewN | apply Bel.drew | (refine Bel.trans ?_ (by assumption))))
set_option maxHeartbeats 1000000 in
theorem PackControl_any (t c n : Int) (w : World) : Calls Try.prog 101 #[.int .i64 t, .int .i64 c, .int .i64 n] w (Sm (.int .i64 (pack t c n)) w) := by
  go_enter Try.func101, Try.ntmps101
  go_wp2_with (go_at_call 60; refine (within_any _ _ _ _).mono ?_; rintro e w' ⟨rfl, rfl⟩)
  all_goals (go_ret; refine ⟨retI ?_, rfl⟩; unfold pack; first | (simp_all; done) | (simp_all [inB, wrap64]; omega))
set_option maxHeartbeats 1000000 in
theorem sPackControl_any (t c n : Int) (w : World) : Calls Try.prog 98 #[.int .i64 t, .int .i64 c, .int .i64 n] w (Sm (.int .i64 (pack t c n)) w) := by
  go_enter Try.func98, Try.ntmps98
  go_wp2_with (go_at_call 56; refine (l01In_any _ _ _ _).mono ?_; rintro e w' ⟨rfl, rfl⟩)
  all_goals (go_ret; refine ⟨retI ?_, rfl⟩; unfold pack; first | (simp_all; done) | (simp_all [inB, wrap64]; omega))
end Go.Proofs.Ytgodbldchaonpaa

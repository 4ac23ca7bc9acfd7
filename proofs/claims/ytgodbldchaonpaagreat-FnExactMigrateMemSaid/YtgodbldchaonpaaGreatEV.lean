/- What program and reference answer on values and expressions. No condition. -/
import Derived.Test.YtgodbldchaonpaaGreatNN
import Derived.Test.YtgodbldchaonpaaGreatSP
import Derived.Test.YtgodbldchaonpaaGreatBX
import Derived.Deep.QuietTactic
import Derived.BigQuiet
namespace Go.Proofs.YtgodbldchaonpaaGreat
open Go.RowKit
set_option linter.unusedVariables false
set_option linter.unusedSimpArgs false
set_option maxRecDepth 100000
theorem max2_int' (k k' : IntKind) (x y : Int) : Builtin.max2 (.int k x) (.int k' y) = pure (.int k (if x < y then y else x)) := by simp only [Builtin.max2, gt_iff_lt]
theorem min2_int' (k k' : IntKind) (x y : Int) : Builtin.min2 (.int k x) (.int k' y) = pure (.int k (if y < x then y else x)) := by simp only [Builtin.min2]
theorem max_two' (ats : Array TypeId) (ty : TypeId) (a b : Value) : Builtin.max_ ats ty #[a, b] = (Builtin.max2 a b >>= fun s => pure s) := by simp only [Builtin.max_, List.foldlM_cons, List.foldlM_nil]
theorem min_two' (ats : Array TypeId) (ty : TypeId) (a b : Value) : Builtin.min_ ats ty #[a, b] = (Builtin.min2 a b >>= fun s => pure s) := by simp only [Builtin.min_, List.foldlM_cons, List.foldlM_nil]
attribute [local go_sem] max2_int' min2_int' max_two' min_two'
def maxI (x y : Int) : Int := if x < y then y else x
def minI (x y : Int) : Int := if y < x then y else x
def clampI (n lo hi : Int) : Int := if hi < lo then lo else minI (maxI n lo) hi
def sat (n : Int) : Int := clampI n (-1000000) 1000000
theorem sat_lo (n : Int) : -1000000 ≤ sat n := by unfold sat clampI minI maxI; split <;> (repeat' split) <;> omega
theorem sat_hi (n : Int) : sat n ≤ 1000000 := by unfold sat clampI minI maxI; split <;> (repeat' split) <;> omega
def addV (a b : Int) : Int := sat (sat a + sat b)
def subV (a b : Int) : Int := sat (sat a - sat b)
def mulV (a b : Int) : Int := sat (sat a * sat b)
theorem mul_bd (x y : Int) (a : -1000000 ≤ x) (b : x ≤ 1000000) (c : -1000000 ≤ y) (d : y ≤ 1000000) : -1000000000000 ≤ x * y ∧ x * y ≤ 1000000000000 := by
  have h1 : 0 ≤ (1000000 - x) * (1000000 + y) := Int.mul_nonneg (by omega) (by omega)
  have h2 : 0 ≤ (1000000 + x) * (1000000 - y) := Int.mul_nonneg (by omega) (by omega)
  have h3 : 0 ≤ (1000000 + x) * (1000000 + y) := Int.mul_nonneg (by omega) (by omega)
  have h4 : 0 ≤ (1000000 - x) * (1000000 - y) := Int.mul_nonneg (by omega) (by omega)
  simp only [Int.sub_mul, Int.add_mul, Int.mul_sub, Int.mul_add] at h1 h2 h3 h4
  omega
def opV (vars : List Int) (n : Int) : Int := if n < 0 then at_ vars (-1 - n).toNat else n
def bitI (b : Bool) : Int := if b = true then 1 else 0
def evalX (vars : List Int) (e : Ex) : Int :=
  if e.op = 1 then addV (opV vars e.a) (opV vars e.b) else if e.op = 2 then subV (opV vars e.a) (opV vars e.b) else if e.op = 3 then mulV (opV vars e.a) (opV vars e.b)
  else if e.op = 4 then minI (opV vars e.a) (opV vars e.b) else if e.op = 5 then maxI (opV vars e.a) (opV vars e.b) else if e.op = 6 then bitI (decide (opV vars e.a < opV vars e.b)) else bitI (decide (opV vars e.a = opV vars e.b))
def evalE (vars : List Int) (e : Ex) : Int := if (varsOk vars && exOk e) = true then evalX vars e else 0
theorem vOk_bd {n : Int} (h : vOk n = true) : -1000000 ≤ n ∧ n ≤ 1000000 := by unfold vOk inB at h; simpa using h
theorem vOk_of {n : Int} (a : -1000000 ≤ n) (b : n ≤ 1000000) : vOk n = true := by unfold vOk inB; simp; omega
theorem opV_bd {vars : List Int} {n : Int} (hv : varsOk vars = true) (hn : opOk n = true) : -1000000 ≤ opV vars n ∧ opV vars n ≤ 1000000 := by
  have hl := varsOk_len hv
  unfold opV
  unfold opOk inB at hn
  simp only [decide_eq_true_eq] at hn
  split
  · have : (-1 - n).toNat < vars.length := by omega
    unfold at_
    rw [List.getD_eq_getElem?_getD, List.getElem?_eq_getElem this]
    unfold varsOk at hv
    simp only [Bool.and_eq_true] at hv
    exact vOk_bd (List.all_eq_true.1 hv.2 _ (List.getElem_mem _))
  · omega
theorem evalX_ok {vars : List Int} {e : Ex} (hv : varsOk vars = true) (he : exOk e = true) : vOk (evalX vars e) = true := by
  unfold exOk at he
  simp only [Bool.and_eq_true] at he
  have ha := opV_bd hv he.2.1
  have hb := opV_bd hv he.2.2
  have s1 := sat_lo (sat (opV vars e.a) + sat (opV vars e.b))
  have s2 := sat_hi (sat (opV vars e.a) + sat (opV vars e.b))
  have s3 := sat_lo (sat (opV vars e.a) - sat (opV vars e.b))
  have s4 := sat_hi (sat (opV vars e.a) - sat (opV vars e.b))
  have s5 := sat_lo (sat (opV vars e.a) * sat (opV vars e.b))
  have s6 := sat_hi (sat (opV vars e.a) * sat (opV vars e.b))
  apply vOk_of <;> (unfold evalX addV subV mulV bitI minI maxI; repeat' split) <;> omega
theorem exOk_op {e : Ex} (he : exOk e = true) : e.op = 1 ∨ e.op = 2 ∨ e.op = 3 ∨ e.op = 4 ∨ e.op = 5 ∨ e.op = 6 ∨ e.op = 7 := by
  unfold exOk inB at he
  simp only [Bool.and_eq_true, decide_eq_true_eq] at he
  omega
set_option maxHeartbeats 1000000 in
theorem Clamp_any (n lo hi : Int) (w : World) : Calls Tryz.prog 132 #[.int .i64 n, .int .i64 lo, .int .i64 hi] w (Sm (.int .i64 (clampI n lo hi)) w) := by
  go_enter Tryz.func132, Tryz.ntmps132
  go_wp2
  all_goals (go_ret; refine ⟨retI ?_, rfl⟩; unfold clampI minI maxI; first | (simp_all; done) | grind)
set_option maxHeartbeats 1000000 in
theorem sClamp_any (n lo hi : Int) (w : World) : Calls Tryz.prog 158 #[.int .i64 n, .int .i64 lo, .int .i64 hi] w (Sm (.int .i64 (clampI n lo hi)) w) := by
  go_enter Tryz.func158, Tryz.ntmps158
  go_wp2
  all_goals (go_ret; refine ⟨retI ?_, rfl⟩; unfold clampI minI maxI; first | grind | (simp_all; done) | (simp_all; omega))
theorem Saturate_any (n : Int) (w : World) : Calls Tryz.prog 153 #[.int .i64 n] w (Sm (.int .i64 (sat n)) w) := by
  go_enter Tryz.func153, Tryz.ntmps153
  go_wp2_with (go_at_call 132; refine (Clamp_any _ _ _ _).mono ?_; rintro e w' ⟨rfl, rfl⟩)
  all_goals (go_ret; exact ⟨rfl, rfl⟩)
theorem sSaturate_any (n : Int) (w : World) : Calls Tryz.prog 148 #[.int .i64 n] w (Sm (.int .i64 (sat n)) w) := by
  go_enter Tryz.func148, Tryz.ntmps148
  go_wp2_with (go_at_call 158; refine (sClamp_any _ _ _ _).mono ?_; rintro e w' ⟨rfl, rfl⟩)
  all_goals (go_ret; exact ⟨rfl, rfl⟩)
theorem AddValues_any (a b : Int) (w : World) : Calls Tryz.prog 134 #[.int .i64 a, .int .i64 b] w (Sm (.int .i64 (addV a b)) w) := by
  have a1 := sat_lo a
  have a2 := sat_hi a
  have b1 := sat_lo b
  have b2 := sat_hi b
  go_enter Tryz.func134, Tryz.ntmps134
  go_wp2_with (go_at_call 153; refine (Saturate_any _ _).mono ?_; rintro e w' ⟨rfl, rfl⟩)
  all_goals (go_ret; exact ⟨rfl, rfl⟩)
theorem SubValues_any (a b : Int) (w : World) : Calls Tryz.prog 135 #[.int .i64 a, .int .i64 b] w (Sm (.int .i64 (subV a b)) w) := by
  have a1 := sat_lo a
  have a2 := sat_hi a
  have b1 := sat_lo b
  have b2 := sat_hi b
  go_enter Tryz.func135, Tryz.ntmps135
  go_wp2_with (go_at_call 153; refine (Saturate_any _ _).mono ?_; rintro e w' ⟨rfl, rfl⟩)
  all_goals (go_ret; exact ⟨rfl, rfl⟩)
theorem MulValues_any (a b : Int) (w : World) : Calls Tryz.prog 136 #[.int .i64 a, .int .i64 b] w (Sm (.int .i64 (mulV a b)) w) := by
  have m1 := (mul_bd _ _ (sat_lo a) (sat_hi a) (sat_lo b) (sat_hi b)).1
  have m2 := (mul_bd _ _ (sat_lo a) (sat_hi a) (sat_lo b) (sat_hi b)).2
  go_enter Tryz.func136, Tryz.ntmps136
  go_wp2_with (go_at_call 153; refine (Saturate_any _ _).mono ?_; rintro e w' ⟨rfl, rfl⟩)
  all_goals (go_ret; exact ⟨rfl, rfl⟩)
theorem sAddValues_any (a b : Int) (w : World) : Calls Tryz.prog 120 #[.int .i64 a, .int .i64 b] w (Sm (.int .i64 (addV a b)) w) := by
  have a1 := sat_lo a
  have a2 := sat_hi a
  have b1 := sat_lo b
  have b2 := sat_hi b
  go_enter Tryz.func120, Tryz.ntmps120
  go_wp2_with (go_at_call 148; refine (sSaturate_any _ _).mono ?_; rintro e w' ⟨rfl, rfl⟩)
  all_goals (go_ret; exact ⟨rfl, rfl⟩)
theorem sSubValues_any (a b : Int) (w : World) : Calls Tryz.prog 121 #[.int .i64 a, .int .i64 b] w (Sm (.int .i64 (subV a b)) w) := by
  have a1 := sat_lo a
  have a2 := sat_hi a
  have b1 := sat_lo b
  have b2 := sat_hi b
  go_enter Tryz.func121, Tryz.ntmps121
  go_wp2_with (go_at_call 148; refine (sSaturate_any _ _).mono ?_; rintro e w' ⟨rfl, rfl⟩)
  all_goals (go_ret; exact ⟨rfl, rfl⟩)
theorem sMulValues_any (a b : Int) (w : World) : Calls Tryz.prog 122 #[.int .i64 a, .int .i64 b] w (Sm (.int .i64 (mulV a b)) w) := by
  have m1 := (mul_bd _ _ (sat_lo a) (sat_hi a) (sat_lo b) (sat_hi b)).1
  have m2 := (mul_bd _ _ (sat_lo a) (sat_hi a) (sat_lo b) (sat_hi b)).2
  go_enter Tryz.func122, Tryz.ntmps122
  go_wp2_with (go_at_call 148; refine (sSaturate_any _ _).mono ?_; rintro e w' ⟨rfl, rfl⟩)
  all_goals (go_ret; exact ⟨rfl, rfl⟩)
set_option maxHeartbeats 1000000 in
theorem operand_any (A : Option Addr) (vars : List Int) (c : Nat) (n : Int) (w : World) (ha : RdI w A vars) (hl : vars.length = 8) (hn : opOk n = true) : Calls Tryz.prog 133 #[.slice A vars.length c, .int .i64 n] w (Sm (.int .i64 (opV vars n)) w) := by
  have hb : -8 ≤ n ∧ n ≤ 999 := by unfold opOk inB at hn; simpa using hn
  have h1 := hb.1
  have h2 := hb.2
  clear hn hb
  rw [hl]
  by_cases h0 : n < 0
  · obtain ⟨b, off, rfl, c0⟩ := ha.atD (-1 - n).toNat (by omega)
    have e : opV vars n = at_ vars (-1 - n).toNat := by unfold opV; rw [if_pos h0]
    rw [e]
    obtain ⟨m, hm⟩ : ∃ m : Nat, -1 - n = m := Int.eq_ofNat_of_zero_le (by omega)
    have e2 : n = -1 - (m : Int) := by omega
    subst e2
    have e3 : (-1 - (-1 - (m : Int))).toNat = m := by omega
    have e4 : -1 - (-1 - (m : Int)) = m := by omega
    rw [e3] at c0 ⊢
    have hm8 : m < 8 := by omega
    clear e hm e3 ha hl
    go_enter Tryz.func133, Tryz.ntmps133
    go_wp2
    go_ret
    exact ⟨rfl, rfl⟩
  · have e : opV vars n = n := by unfold opV; rw [if_neg h0]
    rw [e]
    clear e ha hl
    go_enter Tryz.func133, Tryz.ntmps133
    go_wp2
    go_ret
    exact ⟨rfl, rfl⟩
set_option maxHeartbeats 1000000 in
theorem l03Value_any (A : Option Addr) (vars : List Int) (c : Nat) (n : Int) (w : World) (ha : RdI w A vars) (hl : vars.length = 8) (hn : opOk n = true) : Calls Tryz.prog 119 #[.slice A vars.length c, .int .i64 n] w (Sm (.int .i64 (opV vars n)) w) := by
  have hb : -8 ≤ n ∧ n ≤ 999 := by unfold opOk inB at hn; simpa using hn
  have h1 := hb.1
  have h2 := hb.2
  clear hn hb
  rw [hl]
  by_cases h0 : n < 0
  · obtain ⟨b, off, rfl, c0⟩ := ha.atD (-1 - n).toNat (by omega)
    have e : opV vars n = at_ vars (-1 - n).toNat := by unfold opV; rw [if_pos h0]
    rw [e]
    obtain ⟨m, hm⟩ : ∃ m : Nat, -1 - n = m := Int.eq_ofNat_of_zero_le (by omega)
    have e2 : n = -1 - (m : Int) := by omega
    subst e2
    have e3 : (-1 - (-1 - (m : Int))).toNat = m := by omega
    have e4 : -1 - (-1 - (m : Int)) = m := by omega
    rw [e3] at c0 ⊢
    have hm8 : m < 8 := by omega
    clear e hm e3 ha hl
    go_enter Tryz.func119, Tryz.ntmps119
    go_wp2
    go_ret
    exact ⟨rfl, rfl⟩
  · have e : opV vars n = n := by unfold opV; rw [if_neg h0]
    rw [e]
    clear e ha hl
    go_enter Tryz.func119, Tryz.ntmps119
    go_wp2
    go_ret
    exact ⟨rfl, rfl⟩
theorem bit_any (b : Bool) (w : World) : Calls Tryz.prog 137 #[.bool b] w (Sm (.int .i64 (bitI b)) w) := by
  cases b <;> (go_enter Tryz.func137, Tryz.ntmps137; go_wp2; go_ret; exact ⟨rfl, rfl⟩)
theorem l03Bit_any (b : Bool) (w : World) : Calls Tryz.prog 123 #[.bool b] w (Sm (.int .i64 (bitI b)) w) := by
  cases b <;> (go_enter Tryz.func123, Tryz.ntmps123; go_wp2; go_ret; exact ⟨rfl, rfl⟩)
theorem exOk_a {e : Ex} (he : exOk e = true) : opOk e.a = true := by unfold exOk at he; simp only [Bool.and_eq_true] at he; exact he.2.1
theorem exOk_b {e : Ex} (he : exOk e = true) : opOk e.b = true := by unfold exOk at he; simp only [Bool.and_eq_true] at he; exact he.2.2
set_option maxHeartbeats 4000000 in
theorem l03Eval_any (A : Option Addr) (vars : List Int) (c : Nat) (e : Ex) (w : World) (ha : RdI w A vars) (hl : vars.length = 8) (he : exOk e = true) : Calls Tryz.prog 77 #[.slice A vars.length c, .agg #[.int .i64 e.op, .int .i64 e.a, .int .i64 e.b]] w (Bl (.int .i64 (evalX vars e)) w) := by
  have HA := Hd.mk ha
  have va := fun W h => l03Value_any A vars c e.a W h hl (exOk_a he)
  have vb := fun W h => l03Value_any A vars c e.b W h hl (exOk_b he)
  have ho := exOk_op he
  rcases e with ⟨op, ea, eb⟩
  simp only at va vb ho
  have hev : evalX vars ⟨op, ea, eb⟩ = if op = 1 then addV (opV vars ea) (opV vars eb) else if op = 2 then subV (opV vars ea) (opV vars eb) else if op = 3 then mulV (opV vars ea) (opV vars eb)
      else if op = 4 then minI (opV vars ea) (opV vars eb) else if op = 5 then maxI (opV vars ea) (opV vars eb) else if op = 6 then bitI (decide (opV vars ea < opV vars eb)) else bitI (decide (opV vars ea = opV vars eb)) := rfl
  rw [hev]
  clear hev ha he hl
  generalize opV vars ea = x at *
  generalize opV vars eb = y at *
  rcases ho with rfl | rfl | rfl | rfl | rfl | rfl | rfl
  all_goals
    simp only [if_true, if_false, Int.reduceEq]
    go_enter Tryz.func77, Tryz.ntmps77
    go_wp2_with (first | (go_at_call 119; (with_reducible refine (va _ ?_).mono ?_); (exact HA.out.bel (by repeat (first | (with_reducible exact Bel.refl _) | (with_reducible assumption) | (with_reducible apply Bel.alloc) | (with_reducible apply Bel.drewN) | (with_reducible apply Bel.drew) | (with_reducible refine Bel.set ?_ (by simp <;> omega) _) | (refine Bel.trans ?_ (by with_reducible assumption))))); rintro e w' ⟨rfl, rfl⟩) | (go_at_call 119; (with_reducible refine (vb _ ?_).mono ?_); (exact HA.out.bel (by repeat (first | (with_reducible exact Bel.refl _) | (with_reducible assumption) | (with_reducible apply Bel.alloc) | (with_reducible apply Bel.drewN) | (with_reducible apply Bel.drew) | (with_reducible refine Bel.set ?_ (by simp <;> omega) _) | (refine Bel.trans ?_ (by with_reducible assumption))))); rintro e w' ⟨rfl, rfl⟩) | (go_at_call 120; refine (sAddValues_any _ _ _).mono ?_; rintro e w' ⟨rfl, rfl⟩) | (go_at_call 121; refine (sSubValues_any _ _ _).mono ?_; rintro e w' ⟨rfl, rfl⟩) | (go_at_call 122; refine (sMulValues_any _ _ _).mono ?_; rintro e w' ⟨rfl, rfl⟩) | (go_at_call 123; refine (l03Bit_any _ _).mono ?_; rintro e w' ⟨rfl, rfl⟩))
    all_goals (go_ret; refine ⟨retI ?_, (by repeat (first | (with_reducible exact Bel.refl _) | (with_reducible assumption) | (with_reducible apply Bel.alloc) | (with_reducible apply Bel.drewN) | (with_reducible apply Bel.drew) | (with_reducible refine Bel.set ?_ (by simp <;> omega) _) | (refine Bel.trans ?_ (by with_reducible assumption))))⟩; first | rfl | ((try unfold minI); (try unfold maxI); first | (simp_all; done) | grind) | (simp_all; done) | grind)
set_option maxHeartbeats 4000000 in
theorem EvalExpr_any (A : Option Addr) (vars : List Int) (c : Nat) (e : Ex) (w : World) (ha : RdI w A vars) : Calls Tryz.prog 90 #[.slice A vars.length c, .agg #[.int .i64 e.op, .int .i64 e.a, .int .i64 e.b]] w (Bl (.int .i64 (evalE vars e)) w) := by
  have HA := Hd.mk ha
  clear ha
  go_enter Tryz.func90, Tryz.ntmps90
  go_wp2_with fail
  obtain ⟨W0, hW, Y, hb0⟩ : ∃ W0, W0 = w.alloc (.cells #[.int .i64 e.op, .int .i64 e.a, .int .i64 e.b] 114) ∧ Hd (Bx W0 w.heap.size 114 #[.int .i64 e.op, .int .i64 e.a, .int .i64 e.b]) ∧ Bel w W0 := ⟨_, rfl, ⟨Bx.new _ _ _⟩, (Bel.refl _).alloc _⟩
  rw [← hW]
  clear hW
  refine (VarsOk_any A vars c _ (HA.out.bel hb0)).mono ?_
  rintro r w1 ⟨rfl, hb1⟩
  have x := (Y.out.bel hb1).cell
  have x0 := x 0; have x1 := x 1; have x2 := x 2
  go_wp2_with (go_at_call 86; refine (ExprOk_any e _).mono ?_; rintro r w2 ⟨rfl, hb2⟩)
  all_goals first | (go_ret; refine ⟨retI (by unfold evalE; first | (simp_all; done) | grind), ?_⟩; repeat (first | (with_reducible exact Bel.refl _) | (with_reducible assumption) | (with_reducible apply Bel.alloc) | (with_reducible apply Bel.drewN) | (with_reducible apply Bel.drew) | (with_reducible refine Bel.set ?_ (by simp <;> omega) _) | (refine Bel.trans ?_ (by with_reducible assumption)))) | skip
  have k1 : varsOk vars = true := by assumption
  have k2 : exOk e = true := by first | assumption | (simp_all; done)
  have hev : evalE vars e = evalX vars e := by unfold evalE; rw [k1, k2]; rfl
  have hl : vars.length = 8 := varsOk_len k1
  have va : ∀ n, Calls Tryz.prog 133 #[.slice A vars.length c, .int .i64 e.a] (w2.drewN n) (fun r w' => r = .returned (.int .i64 (opV vars e.a)) ∧ w' = w2.drewN n) := fun n => (operand_any A vars c e.a _ (HA.out.bel (((hb0.trans hb1).trans hb2).trans ((Bel.refl _).drewN n))) hl (exOk_a k2)).mono (fun _ _ h => ⟨h.1, h.2.symm⟩)
  have vb : ∀ n, Calls Tryz.prog 133 #[.slice A vars.length c, .int .i64 e.b] (w2.drewN n) (fun r w' => r = .returned (.int .i64 (opV vars e.b)) ∧ w' = w2.drewN n) := fun n => (operand_any A vars c e.b _ (HA.out.bel (((hb0.trans hb1).trans hb2).trans ((Bel.refl _).drewN n))) hl (exOk_b k2)).mono (fun _ _ h => ⟨h.1, h.2.symm⟩)
  have B0 : Bel w w2 := (hb0.trans hb1).trans hb2
  have ho := exOk_op k2
  clear k1 k2 hl x0 x1 x2 x
  have y0 := (Y.out.bel (hb1.trans hb2)).cell 0
  have y1 := (Y.out.bel (hb1.trans hb2)).cell 1
  have y2 := (Y.out.bel (hb1.trans hb2)).cell 2
  unfold evalX at hev
  go_quiet (first | (go_at_call 133; with_reducible refine Calls.quiet_of_same (va _)) | (go_at_call 133; with_reducible refine Calls.quiet_of_same (vb _)))
  clear va vb
  generalize evalE vars e = z at *
  generalize opV vars e.a = x at *
  generalize opV vars e.b = y at *
  generalize e.op = op at *
  rcases ho with rfl | rfl | rfl | rfl | rfl | rfl | rfl
  all_goals
    simp only [if_true, if_false, Int.reduceEq] at hev
    subst hev
  all_goals go_wp2_with (first | (go_at_call 134; refine (AddValues_any _ _ _).mono ?_; rintro e w' ⟨rfl, rfl⟩) | (go_at_call 135; refine (SubValues_any _ _ _).mono ?_; rintro e w' ⟨rfl, rfl⟩) | (go_at_call 136; refine (MulValues_any _ _ _).mono ?_; rintro e w' ⟨rfl, rfl⟩) | (go_at_call 137; refine (bit_any _ _).mono ?_; rintro e w' ⟨rfl, rfl⟩))
  all_goals (go_ret; refine ⟨retI ?_, (by repeat (first | (with_reducible exact Bel.refl _) | (with_reducible assumption) | (with_reducible apply Bel.alloc) | (with_reducible apply Bel.drewN) | (with_reducible apply Bel.drew) | (with_reducible refine Bel.set ?_ (by simp <;> omega) _) | (refine Bel.trans ?_ (by with_reducible assumption))))⟩; first | (simp_all; done) | ((try unfold minI); (try unfold maxI); first | (simp_all; done) | grind))
end Go.Proofs.YtgodbldchaonpaaGreat

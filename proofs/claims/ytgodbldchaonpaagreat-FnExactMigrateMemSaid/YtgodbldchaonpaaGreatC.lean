/- What program and reference answer on control words, statements and blocks. No condition. -/
import Derived.Test.YtgodbldchaonpaaGreatB
namespace Go.Proofs.YtgodbldchaonpaaGreat
open Go.RowKit
set_option linter.unusedVariables false
abbrev val3 (x : Int × Int × Int) : Value := .tuple #[.int .i64 x.1, .int .i64 x.2.1, .int .i64 x.2.2]
theorem unpack_big {x : Int} (h : 3205 < x) : unpack x = (-1, -1, -1) := by
  unfold unpack; rw [if_neg]; rintro ⟨_, h2⟩; have := pack_le (x % 8) (x / 8 % 16) (x / 128); omega
theorem unpack_neg {x : Int} (h : x < 0) : unpack x = (-1, -1, -1) := by
  unfold unpack; rw [if_neg]; omega
theorem unpack_yes {x : Int} (h : 0 ≤ x) (e : pack (x % 8) (x / 8 % 16) (x / 128) = x) : unpack x = (x % 8, x / 8 % 16, x / 128) := by
  unfold unpack; rw [if_pos ⟨h, e⟩]
theorem unpack_no {x : Int} (e : ¬ pack (x % 8) (x / 8 % 16) (x / 128) = x) : unpack x = (-1, -1, -1) := by
  unfold unpack; rw [if_neg]; exact fun h => e h.2
theorem packNe (t c n x : Int) (h : 3205 < x) : (pack t c n != x) = true := by
  have := pack_le t c n; simp; omega
set_option maxHeartbeats 1000000 in
theorem UnpackControl_any (x : Int) (w : World) : Calls Tryz.prog 45 #[.int .i64 x] w (Sm (val3 (unpack x)) w) := by
  by_cases h0 : 0 ≤ x
  · by_cases hb : x ≤ 3205
    · by_cases e : pack (x % 8) (x / 8 % 16) (x / 128) = x
      · have e' : (pack (x % 8) (x / 8 % 16) (x / 128) != x) = false := by simp [e]
        rw [unpack_yes h0 e]; clear e
        go_enter Tryz.func45, Tryz.ntmps45
        go_wp2_with (go_at_call 46; refine (PackControl_any _ _ _ _).mono ?_; rintro e w' ⟨rfl, rfl⟩)
        go_ret3; exact ⟨rfl, rfl⟩
      · have e' : (pack (x % 8) (x / 8 % 16) (x / 128) != x) = true := by simp [e]
        rw [unpack_no e]; clear e
        go_enter Tryz.func45, Tryz.ntmps45
        go_wp2_with (go_at_call 46; refine (PackControl_any _ _ _ _).mono ?_; rintro e w' ⟨rfl, rfl⟩)
        go_ret3; exact ⟨rfl, rfl⟩
    · have e' := fun t c n => packNe t c n x (by omega)
      rw [unpack_big (by omega)]
      go_enter Tryz.func45, Tryz.ntmps45
      go_wp2_with (go_at_call 46; refine (PackControl_any _ _ _ _).mono ?_; rintro e w' ⟨rfl, rfl⟩)
      go_ret3; exact ⟨rfl, rfl⟩
  · rw [unpack_neg (by omega)]
    have h0' : x < 0 := by omega
    go_enter Tryz.func45, Tryz.ntmps45
    go_wp2
    go_ret3; exact ⟨rfl, rfl⟩
set_option maxHeartbeats 1000000 in
theorem sUnpackControl_any (x : Int) (w : World) : Calls Tryz.prog 36 #[.int .i64 x] w (Sm (val3 (unpack x)) w) := by
  by_cases h0 : 0 ≤ x
  · by_cases hb : x ≤ 3205
    · by_cases e : pack (x % 8) (x / 8 % 16) (x / 128) = x
      · have e' : (pack (x % 8) (x / 8 % 16) (x / 128) != x) = false := by simp [e]
        rw [unpack_yes h0 e]; clear e
        go_enter Tryz.func36, Tryz.ntmps36
        go_wp2_with (go_at_call 37; refine (sPackControl_any _ _ _ _).mono ?_; rintro e w' ⟨rfl, rfl⟩)
        go_ret3; exact ⟨rfl, rfl⟩
      · have e' : (pack (x % 8) (x / 8 % 16) (x / 128) != x) = true := by simp [e]
        rw [unpack_no e]; clear e
        go_enter Tryz.func36, Tryz.ntmps36
        go_wp2_with (go_at_call 37; refine (sPackControl_any _ _ _ _).mono ?_; rintro e w' ⟨rfl, rfl⟩)
        go_ret3; exact ⟨rfl, rfl⟩
    · have e' := fun t c n => packNe t c n x (by omega)
      rw [unpack_big (by omega)]
      go_enter Tryz.func36, Tryz.ntmps36
      go_wp2_with (go_at_call 37; refine (sPackControl_any _ _ _ _).mono ?_; rintro e w' ⟨rfl, rfl⟩)
      all_goals (go_ret3; exact ⟨rfl, rfl⟩)
  · rw [unpack_neg (by omega)]
    have h0' : x < 0 := by omega
    go_enter Tryz.func36, Tryz.ntmps36
    go_wp2
    go_ret3; exact ⟨rfl, rfl⟩
set_option maxHeartbeats 4000000 in
theorem StmtOk_any (s : St) (w : World) : Calls Tryz.prog 159 #[.agg #[.int .i64 s.kind, .int .i64 s.var, .int .i64 s.n, .int .i64 s.op, .int .i64 s.a, .int .i64 s.b]] w (Bl (.bool (stOk s)) w) := by
  go_enter Tryz.func159, Tryz.ntmps159
  go_wp2_with (first | (go_at_call 92; refine (within_any _ _ _ _).mono ?_; rintro e w' ⟨rfl, rfl⟩) | (go_at_call 161; refine (hasVar_any _ _).mono ?_; rintro e w' ⟨rfl, rfl⟩) | (go_at_call 162; refine (hasExpr_any _ _).mono ?_; rintro e w' ⟨rfl, rfl⟩) | (go_at_call 82; refine (isVar_any _ _).mono ?_; rintro e w' ⟨rfl, rfl⟩) | (go_at_call 163; refine (isSensor_any _ _).mono ?_; rintro e w' ⟨rfl, rfl⟩) | (go_at_call 86; refine (ExprOk_any ⟨_, _, _⟩ _).mono ?_; rintro e w' ⟨rfl, hb⟩; obtain ⟨hc, hf⟩ := hb.rd))
  all_goals (go_ret; refine ⟨retB ?_, ?_⟩; rotate_left; (repeat (first | exact Bel.refl _ | assumption | apply Bel.alloc | apply Bel.drewN | apply Bel.drew | (refine Bel.trans ?_ (by assumption)))); (unfold stOk stNum St.ex; first | (simp_all; done) | grind))
end Go.Proofs.YtgodbldchaonpaaGreat

/- The arguments of a call, opened: rules. No condition. -/
import Derived.Test.YtgodbldchaonpaaGreatOP
namespace Go.Proofs.YtgodbldchaonpaaGreat
open Go.RowKit
set_option linter.unusedVariables false
set_option maxRecDepth 100000
def ReadsX (w : World) (cs : List Value) : Prop := ∃ A c, ∃ xs : List Ex, cs = [.slice A xs.length c] ∧ xs.length ≤ c ∧ RdX w A xs
theorem opens_exprs : Opens 26 ReadsX :=
  opens_slice8 Tryz.underlying26 3 24 (by kernel_rfl) (by decide) (by kernel_rfl) (by decide) (fun _ x cs => cs = encX x) opens_expr
theorem opens_rules : Opens 28 ReadsX := by
  refine (opens_struct Tryz.underlying28 [(0, 1, 26)] (by kernel_rfl) 1 (by kernel_rfl) (fun i w cs => ReadsX w cs) ?_).imp ?_
  · intro i o s ty hi
    rcases i with _ | i <;> simp at hi
    obtain ⟨_, _, rfl⟩ := hi; exact opens_exprs
  · rintro w cs ⟨hl, h⟩
    obtain ⟨c0, rfl⟩ : ∃ a, cs = [a] := by
      match cs, hl with
      | [a], _ => exact ⟨a, rfl⟩
    exact h 0 _ _ _ rfl
end Go.Proofs.YtgodbldchaonpaaGreat

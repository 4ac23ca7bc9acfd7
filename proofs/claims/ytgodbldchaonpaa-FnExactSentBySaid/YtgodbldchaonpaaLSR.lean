/- The law FnExactSentBy, for every input: the given statement. No condition. -/
import Derived.Test.YtgodbldchaonpaaRows
import Derived.Test.YtgodbldchaonpaaLS
import Derived.Test.YtgodbldchaonpaaOP
import Derived.WalkKit
import Derived.ProofKit
import Derived.OpenShut
import Derived.ShutString
import Derived.ChangeOld
import Derived.Below
import Derived.SizedLaws
namespace Go.Proofs.Ytgodbldchaonpaa.rowSentBy
open Go.ChangeShapes Go.WideShapes Go.ChangeAt Go.RowKit
open Go.ChangeMaps (open_string shut_string)
set_option linter.unusedVariables false
theorem own : ownKnob Try.prog.godebug = none := by kernel_rfl
theorem laidOut : laidOutB Try.prog = true := by kernel_rfl
set_option maxRecDepth 100000 in
theorem lifted (os : Os) (started : os.Started) (H : Type) (enc : TypeId × Value → H) :
    ReturnsInHanded {} Try.checked os 4 .any (Rows.fnExactSentBySpec.pre6 enc Try.prog Try.f4 Rows.fnExactSentByRow.domain false) (Rows.fnExactSentBySpec.post enc Try.prog Try.f4 false true false false) := by
  refine returnsInHanded_of_change_sized (C := Try.checked) own started (by kernel_rfl) Try.func4
    (ChangeSpec.witness6 (enc := enc) (C := Try.checked) false ⟨#[], #[.agg #[.slice none 0 0, .slice none 0 0, .slice none 0 0, .int .i64 0, .int .i64 0, .int .i64 0, .int .i64 0, .int .i64 0, .int .i64 0, .int .i64 0, .int .i64 0, .slice none 0 0, .int .i64 0]], []⟩ 8 (by kernel_rfl) (by kernel_rfl) (by kernel_rfl) (by kernel_rfl)) ?_
  intro W base args ds gs before hval0 hW hcnd hsz0 _
  have hsz : (DataW.weightsEach Try.prog (Try.f4.params.toList ++ Rows.fnExactSentBySpec.plain.varTypes Try.prog) (ds ++ gs)).all (· ≤ reachBytes) = true := hsz0
  have hval : ∀ (j : Nat) t v, Try.f4.params[j]? = some t → args[j]? = some v → Value.okWide Try.prog W .any base t v := hval0
  have hW' := hW
  obtain ⟨p, q, hA0, hV, rfl, hfz, hnd⟩ := hW
  have hA : DataW.TrodAll enc Try.prog W 0 (fun _ => true) true Try.f4.params.toList args.toList ds p := hA0
  rw [Try.params4] at hA hval hsz
  obtain ⟨v0, vs0, d0, ds0, p0, q0, hargs, rfl, rfl, h0, r0⟩ := trodAll_cons hA
  obtain ⟨rfl, rfl, rfl⟩ := trodAll_nil r0
  obtain rfl : args = #[v0] := by cases args; simp_all
  obtain ⟨rfl, rfl⟩ := trodVars_none hV
  have k0 := h0
  have lt0 : ∀ x ∈ p0, x.block < W.heap.size := by obtain ⟨m, hm⟩ := k0; exact DataW.trod_lt m _ _ _ hm
  have wt0 : ∀ n ∈ d0.weights Try.prog 58, n ≤ reachBytes := fun n hn => by
    have := List.all_eq_true.1 hsz n (DataW.weights_mem_each (j := 0) rfl rfl n hn)
    simpa using this
  obtain ⟨c0, rfl, _⟩ := okWide_struct Try.underlying58 (hval 0 58 v0 rfl rfl)
  obtain ⟨fl0, hf0⟩ := h0
  obtain ⟨a0, n0, e0, rd0⟩ := opens_node _ _ _ _ _ _ _ _ _ hf0 wt0
  obtain rfl : c0 = #[.slice a0.tA n0.ts.length a0.tc, .slice a0.mA n0.mem.length a0.mc, .slice a0.rA n0.rd.length a0.rc, .int .i64 n0.at', .int .i64 n0.sr.chg, .int .i64 n0.sr.cap, .int .i64 n0.sr.on, .int .i64 n0.sr.leak, .int .i64 n0.lo, .int .i64 n0.hi, .int .i64 n0.ack, .slice a0.gA n0.got.length a0.gc, .int .i64 n0.done] := by cases c0; simpa [Value.cells] using e0
  clear hA0 hval0 hsz0 hsz
  refine (lawSentBy_any a0 n0 W rd0).mono fun e W' ⟨he, hbel⟩ => ?_
  subst he
  exact ⟨_, rfl, _, _, _, [], _, [], hW', trodAll_mk1 (shut_bool Try.underlying4 _), (trodAll_cons_mk (Below.trod laidOut (by kernel_rfl) (of_decide_eq_true (by kernel_rfl)) k0 hbel.out lt0) trodAll_mk0), rfl, hbel.out.frame _, fun h => by cases h⟩
theorem over : Rows.fnExactSentByRow.holds Try.pinned (OpenSpec.ofChange Rows.fnExactSentBySpec) :=
  OpenClaim.holds_of_wide 4 Try.f4 rfl rfl rfl rfl rfl rfl rfl ⟨rfl, rfl, rfl, rfl, rfl⟩ rfl rfl rfl rfl rfl (by kernel_rfl) Try.func4 (by kernel_rfl)
    (of_decide_eq_true (by kernel_rfl)) (by unfold Func.isWrapper; first | (rw [if_pos (by decide +kernel)]; kernel_rfl) | (rw [if_neg (by decide +kernel)]; exact ⟨rfl, rfl⟩))
    (fun os started H enc _ => lifted os started H enc)
theorem proved : Rows.FnExactSentBySaid := over
end Go.Proofs.Ytgodbldchaonpaa.rowSentBy
namespace Go.Proofs.Ytgodbldchaonpaa
/-- The row, under a short name, for the claim. -/
theorem fnExactSentBy_holds : Rows.FnExactSentBySaid := rowSentBy.proved
#print axioms fnExactSentBy_holds
end Go.Proofs.Ytgodbldchaonpaa

/- What the reference answers on statements. No condition. -/
import Derived.Test.YtgodbldchaonpaaGreatC
namespace Go.Proofs.YtgodbldchaonpaaGreat
open Go.RowKit
set_option linter.unusedVariables false
def plain (s : St) : St := if s.kind = 1 then ⟨s.kind, s.var, 0, s.op, s.a, s.b⟩ else if s.kind = 2 then ⟨s.kind, s.var, s.n, 0, 0, 0⟩ else if s.kind = 3 ∨ s.kind = 4 then ⟨s.kind, 0, 0, s.op, s.a, s.b⟩ else if s.kind = 5 then ⟨s.kind, 0, s.n, 0, 0, 0⟩ else ⟨s.kind, 0, 0, 0, 0, 0⟩
set_option maxHeartbeats 1000000 in
theorem l04Plain_any (s : St) (w : World) : Calls Tryz.prog 157 #[.agg #[.int .i64 s.kind, .int .i64 s.var, .int .i64 s.n, .int .i64 s.op, .int .i64 s.a, .int .i64 s.b]] w (Bl (.agg #[.int .i64 (plain s).kind, .int .i64 (plain s).var, .int .i64 (plain s).n, .int .i64 (plain s).op, .int .i64 (plain s).a, .int .i64 (plain s).b]) w) := by
  rcases s with ⟨k, v, n, o, a, b⟩
  by_cases k1 : k = 1
  · subst k1
    go_enter Tryz.func157, Tryz.ntmps157
    go_wp2
    refine bodyPost_ret (v := .agg #[.int .i64 (plain ⟨1, v, n, o, a, b⟩).kind, .int .i64 (plain ⟨1, v, n, o, a, b⟩).var, .int .i64 (plain ⟨1, v, n, o, a, b⟩).n, .int .i64 (plain ⟨1, v, n, o, a, b⟩).op, .int .i64 (plain ⟨1, v, n, o, a, b⟩).a, .int .i64 (plain ⟨1, v, n, o, a, b⟩).b]) (by simp [results, Tryz.results157, go_sem, plain]) rfl ⟨rfl, ?_⟩
    repeat (first | (with_reducible exact Bel.refl _) | (with_reducible assumption) | (with_reducible apply Bel.alloc) | (with_reducible apply Bel.drewN) | (with_reducible apply Bel.drew) | (with_reducible refine Bel.set ?_ (by simp <;> omega) _) | (refine Bel.trans ?_ (by with_reducible assumption)))
  by_cases k2 : k = 2
  · subst k2
    go_enter Tryz.func157, Tryz.ntmps157
    go_wp2
    refine bodyPost_ret (v := .agg #[.int .i64 (plain ⟨2, v, n, o, a, b⟩).kind, .int .i64 (plain ⟨2, v, n, o, a, b⟩).var, .int .i64 (plain ⟨2, v, n, o, a, b⟩).n, .int .i64 (plain ⟨2, v, n, o, a, b⟩).op, .int .i64 (plain ⟨2, v, n, o, a, b⟩).a, .int .i64 (plain ⟨2, v, n, o, a, b⟩).b]) (by simp [results, Tryz.results157, go_sem, plain]) rfl ⟨rfl, ?_⟩
    repeat (first | (with_reducible exact Bel.refl _) | (with_reducible assumption) | (with_reducible apply Bel.alloc) | (with_reducible apply Bel.drewN) | (with_reducible apply Bel.drew) | (with_reducible refine Bel.set ?_ (by simp <;> omega) _) | (refine Bel.trans ?_ (by with_reducible assumption)))
  by_cases k3 : k = 3
  · subst k3
    go_enter Tryz.func157, Tryz.ntmps157
    go_wp2
    refine bodyPost_ret (v := .agg #[.int .i64 (plain ⟨3, v, n, o, a, b⟩).kind, .int .i64 (plain ⟨3, v, n, o, a, b⟩).var, .int .i64 (plain ⟨3, v, n, o, a, b⟩).n, .int .i64 (plain ⟨3, v, n, o, a, b⟩).op, .int .i64 (plain ⟨3, v, n, o, a, b⟩).a, .int .i64 (plain ⟨3, v, n, o, a, b⟩).b]) (by simp [results, Tryz.results157, go_sem, plain]) rfl ⟨rfl, ?_⟩
    repeat (first | (with_reducible exact Bel.refl _) | (with_reducible assumption) | (with_reducible apply Bel.alloc) | (with_reducible apply Bel.drewN) | (with_reducible apply Bel.drew) | (with_reducible refine Bel.set ?_ (by simp <;> omega) _) | (refine Bel.trans ?_ (by with_reducible assumption)))
  by_cases k4 : k = 4
  · subst k4
    go_enter Tryz.func157, Tryz.ntmps157
    go_wp2
    refine bodyPost_ret (v := .agg #[.int .i64 (plain ⟨4, v, n, o, a, b⟩).kind, .int .i64 (plain ⟨4, v, n, o, a, b⟩).var, .int .i64 (plain ⟨4, v, n, o, a, b⟩).n, .int .i64 (plain ⟨4, v, n, o, a, b⟩).op, .int .i64 (plain ⟨4, v, n, o, a, b⟩).a, .int .i64 (plain ⟨4, v, n, o, a, b⟩).b]) (by simp [results, Tryz.results157, go_sem, plain]) rfl ⟨rfl, ?_⟩
    repeat (first | (with_reducible exact Bel.refl _) | (with_reducible assumption) | (with_reducible apply Bel.alloc) | (with_reducible apply Bel.drewN) | (with_reducible apply Bel.drew) | (with_reducible refine Bel.set ?_ (by simp <;> omega) _) | (refine Bel.trans ?_ (by with_reducible assumption)))
  by_cases k5 : k = 5
  · subst k5
    go_enter Tryz.func157, Tryz.ntmps157
    go_wp2
    refine bodyPost_ret (v := .agg #[.int .i64 (plain ⟨5, v, n, o, a, b⟩).kind, .int .i64 (plain ⟨5, v, n, o, a, b⟩).var, .int .i64 (plain ⟨5, v, n, o, a, b⟩).n, .int .i64 (plain ⟨5, v, n, o, a, b⟩).op, .int .i64 (plain ⟨5, v, n, o, a, b⟩).a, .int .i64 (plain ⟨5, v, n, o, a, b⟩).b]) (by simp [results, Tryz.results157, go_sem, plain]) rfl ⟨rfl, ?_⟩
    repeat (first | (with_reducible exact Bel.refl _) | (with_reducible assumption) | (with_reducible apply Bel.alloc) | (with_reducible apply Bel.drewN) | (with_reducible apply Bel.drew) | (with_reducible refine Bel.set ?_ (by simp <;> omega) _) | (refine Bel.trans ?_ (by with_reducible assumption)))
  · have k1' : (k == 1) = false := by simpa using k1
    have k2' : (k == 2) = false := by simpa using k2
    have k3' : (k == 3) = false := by simpa using k3
    have k4' : (k == 4) = false := by simpa using k4
    have k5' : (k == 5) = false := by simpa using k5
    have hp : plain ⟨k, v, n, o, a, b⟩ = ⟨k, 0, 0, 0, 0, 0⟩ := by simp [plain, k1, k2, k3, k4, k5]
    rw [hp]
    clear k1 k2 k3 k4 k5 hp
    go_enter Tryz.func157, Tryz.ntmps157
    go_wp2
    refine bodyPost_ret (v := .agg #[.int .i64 (⟨k, 0, 0, 0, 0, 0⟩ : St).kind, .int .i64 (⟨k, 0, 0, 0, 0, 0⟩ : St).var, .int .i64 (⟨k, 0, 0, 0, 0, 0⟩ : St).n, .int .i64 (⟨k, 0, 0, 0, 0, 0⟩ : St).op, .int .i64 (⟨k, 0, 0, 0, 0, 0⟩ : St).a, .int .i64 (⟨k, 0, 0, 0, 0, 0⟩ : St).b]) (by simp [results, Tryz.results157, go_sem, plain]) rfl ⟨rfl, ?_⟩
    repeat (first | (with_reducible exact Bel.refl _) | (with_reducible assumption) | (with_reducible apply Bel.alloc) | (with_reducible apply Bel.drewN) | (with_reducible apply Bel.drew) | (with_reducible refine Bel.set ?_ (by simp <;> omega) _) | (refine Bel.trans ?_ (by with_reducible assumption)))
end Go.Proofs.YtgodbldchaonpaaGreat

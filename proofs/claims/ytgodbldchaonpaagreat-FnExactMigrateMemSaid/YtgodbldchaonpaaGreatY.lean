/- The laws' own copies of programs and links. No condition. -/
import Derived.Test.YtgodbldchaonpaaGreatX
namespace Go.Proofs.YtgodbldchaonpaaGreat
open Go.RowKit
set_option linter.unusedVariables false
set_option maxRecDepth 100000
theorem OwT.shape {lo : Nat} {w : World} {v : Value} {ps : List (Value × Tk)} (h : OwT lo w v ps) : ∃ A c, v = .slice A ps.length c ∧ ps.length ≤ c := own_shape h.row
theorem OwT.keep {lo : Nat} {w w' : World} {v : Value} {ps : List (Value × Tk)} (h : OwT lo w v ps) (hk : ∀ k, lo ≤ k → k < w.heap.size → w'.heap[k]? = w.heap[k]?) : OwT lo w' v ps :=
  ⟨own_keep h.row (fun k e => hk k (h.row.lt k e).1 (h.row.lt k e).2), fun p hp => own_keep (h.body p hp) (fun k e => hk k ((h.body p hp).lt k e).1 ((h.body p hp).lt k e).2), h.apart, h.far⟩
theorem OwT.bel {lo : Nat} {w w' : World} {v : Value} {ps : List (Value × Tk)} (h : OwT lo w v ps) (hb : Bel w w') : OwT lo w' v ps := h.keep (fun k _ hk => hb.out.block k hk)
theorem OwT.alloc {lo : Nat} {w : World} {v : Value} {ps : List (Value × Tk)} (h : OwT lo w v ps) (o : Obj) : OwT lo (w.alloc o) v ps := h.keep (fun k _ hk => Below.heap_alloc _ _ _ hk)
theorem OwT.set {lo : Nat} {w : World} {v : Value} {ps : List (Value × Tk)} (h : OwT lo w v ps) {g j : Nat} (u : Value) (hg : g < lo) : OwT lo (w.setCell ⟨g, j, none⟩ u) v ps := h.keep (fun k hk _ => Below.heap_setCell _ _ _ _ (by show k ≠ g; omega))
theorem OwT.lower {lo lo' : Nat} {w : World} {v : Value} {ps : List (Value × Tk)} (h : OwT lo w v ps) (hl : lo' ≤ lo) : OwT lo' w v ps :=
  ⟨own_raise h.row (fun k e => Nat.le_trans hl (h.row.lt k e).1), fun p hp => own_raise (h.body p hp) (fun k e => Nat.le_trans hl ((h.body p hp).lt k e).1), h.apart, h.far⟩
theorem own_set {w : World} {base : Nat} {e : TypeId} {size n : Nat} {v : Value} {xs : List Value} (h : w.ownsRow base e size v n xs) {g j : Nat} (u : Value) (hg : g < base) : (w.setCell ⟨g, j, none⟩ u).ownsRow base e size v n xs :=
  own_far h u (fun e => by have := (h.lt g e).1; omega)
def MkPr (ts : List Tk) (w : World) (e : Ending) (w' : World) : Prop := ∃ v ps, e = .returned (.agg #[v]) ∧ ps.map (·.2) = ts ∧ OwT w.heap.size w' v ps ∧ Bel w w'
set_option maxHeartbeats 2000000 in
theorem toProgram_any (A : Option Addr) (ts : List Tk) (c : Nat) (w : World) (ha : RdT w A ts) (hs : small ts) (hsz : ts.length ≤ 1099511627776) : Calls Tryz.prog 8 #[.agg #[.slice A ts.length c]] w (MkPr ts w) := by
  have HA := Hd.mk ha
  have HS := Hd.mk hs
  clear ha hs
  go_enter Tryz.func8, Tryz.ntmps8
  go_wp2_with (go_at_call 38; refine (toTaskS_any A ts c _ (RdT.bel HA.out (by repeat (first | exact Bel.refl _ | assumption | apply Bel.alloc | apply Bel.drewN | apply Bel.drew | (refine Bel.trans ?_ (by assumption))))) HS.out hsz).mono ?_; rintro e w' ⟨v, ps, rfl, hps, hown, hb⟩; obtain ⟨A', c', rfl, hcc⟩ := hown.shape; replace hown := Hd.mk hown; replace hps := Hd.mk hps; obtain ⟨hc, hf⟩ := hb.rd; have hz := hb.size; (try simp at hz); (first | (have hz0 : w.heap.size < w'.heap.size := by omega) | skip); (first | (have hz1 : w.heap.size + 1 < w'.heap.size := by omega) | skip); (first | (have hz2 : w.heap.size + 1 + 1 < w'.heap.size := by omega) | skip))
  have q0 := hc (w.heap.size + 1) 0 (by simp)
  simp [go_sem] at q0
  have hs3 : w.heap.size + 1 + 1 + 1 = ((((w.alloc (.cells #[.slice A ts.length c] 24)).alloc (.cells #[.slice none 0 0] 35)).alloc (.cells #[.slice none 0 0] 35)).heap.size) := by simp
  rw [← hs3] at hown
  clear hs3
  refine bodyPost_ret (v := .agg #[.slice A' ps.length c']) ?_ rfl ⟨_, ps, rfl, hps.out, OwT.lower (lo := w.heap.size + 1 + 1 + 1) ?_ (by omega), ?_⟩
  · simp [results, Tryz.results8, go_sem, hz0, hz1, hz2, q0]
  · repeat (first | (with_reducible exact hown.out) | (with_reducible refine OwT.alloc ?_ _) | (with_reducible refine OwT.set ?_ _ (by omega)))
  · repeat (first | (with_reducible exact Bel.refl _) | (with_reducible assumption) | (with_reducible apply Bel.alloc) | (with_reducible apply Bel.drewN) | (with_reducible apply Bel.drew) | (with_reducible refine Bel.set ?_ (by simp <;> omega) _) | (refine Bel.trans ?_ (by with_reducible assumption)))
end Go.Proofs.YtgodbldchaonpaaGreat

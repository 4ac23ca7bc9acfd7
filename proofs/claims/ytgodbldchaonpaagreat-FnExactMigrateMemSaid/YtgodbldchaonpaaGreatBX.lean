/- Boxes: blocks that a call has made and whose cells are known whole. No condition. -/
import Derived.Test.YtgodbldchaonpaaGreatM
import Derived.OneCell
namespace Go.Proofs.YtgodbldchaonpaaGreat
open Go.RowKit
set_option linter.unusedVariables false
/-- The block g holds just these cells, none of them frozen. -/
structure Bx (w : World) (g : Nat) (t : TypeId) (cs : Array Value) : Prop where
  out : w.heap[g]? = some (.cells cs t (0, 0))
theorem Bx.new (w : World) (t : TypeId) (cs : Array Value) : Bx (w.alloc (.cells cs t)) w.heap.size t cs := ⟨heap_alloc_new w _⟩
theorem Bx.lt {w : World} {g : Nat} {t : TypeId} {cs : Array Value} (h : Bx w g t cs) : g < w.heap.size := lt_of_block h.out
theorem Bx.cell {w : World} {g : Nat} {t : TypeId} {cs : Array Value} (h : Bx w g t cs) : ∀ o, w.cell? ⟨g, o, none⟩ = cs[o]? := fun o => cell_of_row _ _ _ cs t (0, 0) h.out
theorem Bx.frz {w : World} {g : Nat} {t : TypeId} {cs : Array Value} (h : Bx w g t cs) : ∀ o, w.frozen? ⟨g, o, none⟩ = false := fun o => frozen_of_row _ _ _ cs t h.out
theorem Bx.keep {w w' : World} {g : Nat} {t : TypeId} {cs : Array Value} (h : Bx w g t cs) (hk : w'.heap[g]? = w.heap[g]?) : Bx w' g t cs := ⟨hk.trans h.out⟩
theorem Bx.bel {w w' : World} {g : Nat} {t : TypeId} {cs : Array Value} (h : Bx w g t cs) (hb : Bel w w') : Bx w' g t cs := h.keep (hb.out.block g h.lt)
theorem Bx.chg {S : Nat → Prop} {w w' : World} {g : Nat} {t : TypeId} {cs : Array Value} (h : Bx w g t cs) (hc : Chg S w w') (hn : ¬ S g) : Bx w' g t cs := h.keep (hc.block g h.lt hn)
theorem Bx.alloc {w : World} {g : Nat} {t : TypeId} {cs : Array Value} (h : Bx w g t cs) (o : Obj) : Bx (w.alloc o) g t cs := h.bel ((Bel.refl w).alloc o)
theorem Bx.drew {w : World} {g : Nat} {t : TypeId} {cs : Array Value} (h : Bx w g t cs) : Bx w.drew g t cs := h.bel ((Bel.refl w).drew)
theorem Bx.drewN {w : World} {g : Nat} {t : TypeId} {cs : Array Value} (h : Bx w g t cs) (n : Nat) : Bx (w.drewN n) g t cs := h.bel ((Bel.refl w).drewN n)
theorem Bx.far {w : World} {g g' j : Nat} {t : TypeId} {cs : Array Value} (h : Bx w g t cs) (u : Value) (hne : g ≠ g') : Bx (w.setCell ⟨g', j, none⟩ u) g t cs := h.keep (Below.heap_setCell _ _ _ _ hne)
theorem Bx.set {w : World} {g : Nat} {t : TypeId} {cs : Array Value} (h : Bx w g t cs) (i : Nat) (u : Value) : Bx (w.setCell ⟨g, i, none⟩ u) g t (cs.setIfInBounds i u) := by
  have hlt := h.lt
  have h' : w.heap[g] = .cells cs t (0, 0) := by simpa [Array.getElem?_eq_getElem hlt] using h.out
  refine ⟨?_⟩
  show (w.heap.modify g _)[g]? = _
  rw [Array.getElem?_eq_getElem (by simpa using hlt), Array.getElem_modify_self, h']
  rfl
theorem Bx.set1 {w : World} {g : Nat} {t : TypeId} {v : Value} (h : Bx w g t #[v]) (u : Value) : Bx (w.setCell ⟨g, 0, none⟩ u) g t #[u] := h.set 0 u
theorem Bx.grown {w w' : World} {g : Nat} {t : TypeId} {cs : Array Value} {row : Option Nat} (h : Bx w g t cs) (hg : w.grownBy w' row) (hr : row ≠ some g) : Bx w' g t cs := h.keep (hg.block g h.lt (Ne.symm hr))
theorem own_bx {w : World} {base g : Nat} {e : TypeId} {sz n : Nat} {v : Value} {xs : List Value} (h : w.ownsRow base e sz v n xs) (hg : g < base) : v.ownBlock ≠ some g := fun k => by have := (h.lt g k).1; omega
theorem own_grown {w w' : World} {base : Nat} {e : TypeId} {sz n : Nat} {v : Value} {xs : List Value} {row : Option Nat} (h : w.ownsRow base e sz v n xs) (hg : w.grownBy w' row) (hr : ∀ k, v.ownBlock = some k → row ≠ some k) : w'.ownsRow base e sz v n xs :=
  own_keep h (fun k hk => hg.block k (h.lt k hk).2 (Ne.symm (hr k hk)))
end Go.Proofs.YtgodbldchaonpaaGreat

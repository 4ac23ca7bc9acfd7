/- The words of these proofs: what is read, what is owned, what a call leaves as it was. No condition. -/
import Derived.Test.YtgodbldchaonpaaGreatProg
import Derived.Below
import Derived.WalkKit
import Derived.RowKit3
import Derived.KernelRfl
import Derived.OwnWalk
import Derived.Outline
import Derived.Deep.LoopGhost
import Derived.Deep.Draws
import Derived.Deep.QuietTactic
import Derived.BigQuiet
import Derived.OpenShut
import Derived.Deep.RegionWith
import Derived.BigRegion
import Derived.StillTailTactics
import Derived.Deep.RegionHeld3
import Derived.Laws.OwnMore
import Derived.Laws.MakeOwn
namespace Go.Proofs.YtgodbldchaonpaaGreat
open Go.RowKit
set_option linter.unusedVariables false
/-- A fact that the walk does not look into. -/
structure Hd (p : Prop) : Prop where
  out : p
/-- Nothing that was there has changed. -/
structure Bel (w w' : World) : Prop where
  out : Below w.heap.size w w'
def Bl (v : Value) (w : World) (e : Ending) (w' : World) : Prop := e = .returned v ∧ Bel w w'
def Sm (v : Value) (w : World) (e : Ending) (w' : World) : Prop := e = .returned v ∧ w = w'
theorem Bel.refl (w : World) : Bel w w := ⟨Below.refl _ _⟩
theorem Bel.trans {w a b : World} (h : Bel w a) (k : Bel a b) : Bel w b := ⟨h.out.trans (k.out.mono h.out.size)⟩
theorem Bel.alloc {w a : World} (h : Bel w a) (o : Obj) : Bel w (a.alloc o) := ⟨h.out.alloc h.out.size o⟩
theorem Bel.drewN {w a : World} (h : Bel w a) (n : Nat) : Bel w (a.drewN n) := ⟨⟨h.out.os, h.out.tape, h.out.output, h.out.size, h.out.block⟩⟩
theorem Bel.drew {w a : World} (h : Bel w a) : Bel w a.drew := ⟨⟨h.out.os, h.out.tape, h.out.output, h.out.size, h.out.block⟩⟩
theorem Bel.set {w a : World} (h : Bel w a) {p : Addr} (hp : w.heap.size ≤ p.block) (u : Value) : Bel w (a.setCell p u) := ⟨h.out.setCell hp u⟩
theorem Bel.size {w a : World} (h : Bel w a) : w.heap.size ≤ a.heap.size := h.out.size
theorem Bel.cell {w a : World} (h : Bel w a) {p : Addr} {v : Value} (hc : w.cell? p = some v) : a.cell? p = some v := (h.out.cell (World.block_lt_of_cell? w _ hc)).trans hc
theorem Bel.of_grown {w a b : World} {row : Option Nat} (h : Bel w a) (hg : a.grownBy b row) (hr : ∀ k, row = some k → w.heap.size ≤ k) : Bel w b := ⟨h.out.grown hg h.out.size hr⟩
theorem Bel.rd {W w1 : World} (hb : Bel W w1) : (∀ b o, b < W.heap.size → w1.cell? ⟨b, o, none⟩ = W.cell? ⟨b, o, none⟩) ∧ (∀ b o, b < W.heap.size → w1.frozen? ⟨b, o, none⟩ = W.frozen? ⟨b, o, none⟩) :=
  ⟨fun b o h => hb.out.cell (p := ⟨b, o, none⟩) h, fun b o h => hb.out.frozen (p := ⟨b, o, none⟩) h⟩
/-! What is read -/
/-- A slice at A whose elements read as xs; an element's sz cells stand in R to it. -/
def RdL {α : Type} (R : World → α → List Value → Prop) (sz : Nat) (w : World) (A : Option Addr) (xs : List α) : Prop :=
  xs.length ≤ 17592186044416 ∧ ∀ j (h : j < xs.length), ∃ b off cs, A = some ⟨b, off, none⟩ ∧ cs.length = sz ∧ R w xs[j] cs ∧ ∀ i (hi : i < cs.length), w.cell? ⟨b, off + (j * sz + i), none⟩ = some cs[i]
def RdF {α : Type} (enc : α → List Value) (sz : Nat) (w : World) (A : Option Addr) (xs : List α) : Prop := RdL (fun _ x cs => cs = enc x) sz w A xs
structure Ex where
  op : Int
  a : Int
  b : Int
  deriving DecidableEq, Inhabited
structure St where
  kind : Int
  var : Int
  n : Int
  op : Int
  a : Int
  b : Int
  deriving DecidableEq, Inhabited
structure Tk where
  body : List St
  op : Int
  a : Int
  b : Int
  deriving DecidableEq, Inhabited
def encI (x : Int) : List Value := [.int .i64 x]
def encB (x : Bool) : List Value := [.bool x]
def encX (e : Ex) : List Value := [.int .i64 e.op, .int .i64 e.a, .int .i64 e.b]
def encS (s : St) : List Value := [.int .i64 s.kind, .int .i64 s.var, .int .i64 s.n, .int .i64 s.op, .int .i64 s.a, .int .i64 s.b]
abbrev RdI := RdF encI 1
abbrev RdB := RdF encB 1
abbrev RdX := RdF encX 3
abbrev RdS := RdF encS 6
def cellsT (w : World) (t : Tk) (cs : List Value) : Prop := ∃ B c, cs = [.slice B t.body.length c, .int .i64 t.op, .int .i64 t.a, .int .i64 t.b] ∧ t.body.length ≤ c ∧ RdS w B t.body
abbrev RdT := RdL cellsT 4
theorem RdL.len {α : Type} {R : World → α → List Value → Prop} {sz : Nat} {w : World} {A : Option Addr} {xs : List α} (h : RdL R sz w A xs) : xs.length ≤ 17592186044416 := h.1
theorem RdF.len {α : Type} {enc : α → List Value} {sz : Nat} {w : World} {A : Option Addr} {xs : List α} (h : RdF enc sz w A xs) : xs.length ≤ 17592186044416 := h.1
theorem RdL.map {α : Type} {R : World → α → List Value → Prop} {sz : Nat} {w w' : World} {A : Option Addr} {xs : List α} (h : RdL R sz w A xs) (hc : ∀ p v, w.cell? p = some v → w'.cell? p = some v) (hR : ∀ x cs, R w x cs → R w' x cs) : RdL R sz w' A xs := by
  refine ⟨h.1, fun j hj => ?_⟩
  obtain ⟨b, off, cs, hA, hl, hr, hcc⟩ := h.2 j hj
  exact ⟨b, off, cs, hA, hl, hR _ _ hr, fun i hi => hc _ _ (hcc i hi)⟩
theorem RdF.cells {α : Type} {enc : α → List Value} {sz : Nat} {w w' : World} {A : Option Addr} {xs : List α} (h : RdF enc sz w A xs) (hc : ∀ p v, w.cell? p = some v → w'.cell? p = some v) : RdF enc sz w' A xs := RdL.map h hc (fun _ _ h => h)
theorem RdF.bel {α : Type} {enc : α → List Value} {sz : Nat} {w w' : World} {A : Option Addr} {xs : List α} (h : RdF enc sz w A xs) (hb : Bel w w') : RdF enc sz w' A xs := h.cells (fun _ _ hc => hb.cell hc)
theorem cellsT.bel {w w' : World} {t : Tk} {cs : List Value} (h : cellsT w t cs) (hb : Bel w w') : cellsT w' t cs := by
  obtain ⟨B, c, e, hc, hr⟩ := h
  exact ⟨B, c, e, hc, hr.bel hb⟩
theorem RdT.bel {w w' : World} {A : Option Addr} {xs : List Tk} (h : RdT w A xs) (hb : Bel w w') : RdT w' A xs := RdL.map h (fun _ _ hc => hb.cell hc) (fun _ _ hr => hr.bel hb)
theorem RdF.nil {α : Type} (enc : α → List Value) (sz : Nat) (w : World) (A : Option Addr) : RdF enc sz w A [] := ⟨by simp, fun j hj => absurd hj (by simp)⟩
theorem RdL.nil {α : Type} (R : World → α → List Value → Prop) (sz : Nat) (w : World) (A : Option Addr) : RdL R sz w A [] := ⟨by simp, fun j hj => absurd hj (by simp)⟩
theorem RdF.atI {w : World} {A : Option Addr} {xs : List Int} (h : RdI w A xs) (j : Nat) (hj : j < xs.length) : ∃ b off, A = some ⟨b, off, none⟩ ∧ w.cell? ⟨b, off + j, none⟩ = some (.int .i64 xs[j]) := by
  obtain ⟨b, off, cs, hA, hl, hr, hc⟩ := h.2 j hj
  subst hr
  exact ⟨b, off, hA, by have := hc 0 (by simp [encI]); simpa [encI] using this⟩
theorem RdF.atB {w : World} {A : Option Addr} {xs : List Bool} (h : RdB w A xs) (j : Nat) (hj : j < xs.length) : ∃ b off, A = some ⟨b, off, none⟩ ∧ w.cell? ⟨b, off + j, none⟩ = some (.bool xs[j]) := by
  obtain ⟨b, off, cs, hA, hl, hr, hc⟩ := h.2 j hj
  subst hr
  exact ⟨b, off, hA, by have := hc 0 (by simp [encB]); simpa [encB] using this⟩
theorem RdF.atX {w : World} {A : Option Addr} {xs : List Ex} (h : RdX w A xs) (j : Nat) (hj : j < xs.length) :
    ∃ b off, A = some ⟨b, off, none⟩ ∧ w.cell? ⟨b, off + j * 3, none⟩ = some (.int .i64 xs[j].op) ∧ w.cell? ⟨b, off + j * 3 + 1, none⟩ = some (.int .i64 xs[j].a) ∧ w.cell? ⟨b, off + j * 3 + 2, none⟩ = some (.int .i64 xs[j].b) := by
  obtain ⟨b, off, cs, hA, hl, hr, hc⟩ := h.2 j hj
  subst hr
  exact ⟨b, off, hA, hc 0 (by simp [encX]), hc 1 (by simp [encX]), hc 2 (by simp [encX])⟩
theorem RdF.atS {w : World} {A : Option Addr} {xs : List St} (h : RdS w A xs) (j : Nat) (hj : j < xs.length) :
    ∃ b off, A = some ⟨b, off, none⟩ ∧ w.cell? ⟨b, off + j * 6, none⟩ = some (.int .i64 xs[j].kind) ∧ w.cell? ⟨b, off + j * 6 + 1, none⟩ = some (.int .i64 xs[j].var) ∧ w.cell? ⟨b, off + j * 6 + 2, none⟩ = some (.int .i64 xs[j].n)
      ∧ w.cell? ⟨b, off + j * 6 + 3, none⟩ = some (.int .i64 xs[j].op) ∧ w.cell? ⟨b, off + j * 6 + 4, none⟩ = some (.int .i64 xs[j].a) ∧ w.cell? ⟨b, off + j * 6 + 5, none⟩ = some (.int .i64 xs[j].b) := by
  obtain ⟨b, off, cs, hA, hl, hr, hc⟩ := h.2 j hj
  subst hr
  exact ⟨b, off, hA, hc 0 (by simp [encS]), hc 1 (by simp [encS]), hc 2 (by simp [encS]), hc 3 (by simp [encS]), hc 4 (by simp [encS]), hc 5 (by simp [encS])⟩
theorem RdL.atT {w : World} {A : Option Addr} {xs : List Tk} (h : RdT w A xs) (j : Nat) (hj : j < xs.length) :
    ∃ b off B c, A = some ⟨b, off, none⟩ ∧ xs[j].body.length ≤ c ∧ Hd (RdS w B xs[j].body) ∧ w.cell? ⟨b, off + j * 4, none⟩ = some (.slice B xs[j].body.length c) ∧ w.cell? ⟨b, off + j * 4 + 1, none⟩ = some (.int .i64 xs[j].op)
      ∧ w.cell? ⟨b, off + j * 4 + 2, none⟩ = some (.int .i64 xs[j].a) ∧ w.cell? ⟨b, off + j * 4 + 3, none⟩ = some (.int .i64 xs[j].b) := by
  obtain ⟨b, off, cs, hA, hl, hr, hc⟩ := h.2 j hj
  obtain ⟨B, c, rfl, hcc, hB⟩ := hr
  exact ⟨b, off, B, c, hA, hcc, ⟨hB⟩, hc 0 (by simp), hc 1 (by simp), hc 2 (by simp), hc 3 (by simp)⟩
theorem box_cell (w : World) (cs : Array Value) (t : TypeId) (i : Nat) (v : Value) (h : cs[i]? = some v) : (w.alloc (.cells cs t)).cell? ⟨w.heap.size, i, none⟩ = some v := by
  rw [cell_of_row _ _ _ cs t (0, 0) (heap_alloc_new w _)]; exact h
theorem box6 (w : World) (c0 c1 c2 c3 c4 c5 : Value) (t : TypeId) : ∃ W, W = w.alloc (.cells #[c0, c1, c2, c3, c4, c5] t) ∧ Bel w W ∧ W.heap.size = w.heap.size + 1 ∧ W.cell? ⟨w.heap.size, 0, none⟩ = some c0 ∧ W.cell? ⟨w.heap.size, 1, none⟩ = some c1 ∧ W.cell? ⟨w.heap.size, 2, none⟩ = some c2
    ∧ W.cell? ⟨w.heap.size, 3, none⟩ = some c3 ∧ W.cell? ⟨w.heap.size, 4, none⟩ = some c4 ∧ W.cell? ⟨w.heap.size, 5, none⟩ = some c5 :=
  ⟨_, rfl, (Bel.refl w).alloc _, by simp, box_cell _ _ _ _ _ rfl, box_cell _ _ _ _ _ rfl, box_cell _ _ _ _ _ rfl, box_cell _ _ _ _ _ rfl, box_cell _ _ _ _ _ rfl, box_cell _ _ _ _ _ rfl⟩
/-- The walk stops here. -/
theorem stop_ {p : Prop} (h : Hd p) : p := h.out
theorem take_eq_succ {α : Type} {xs ys : List α} {k : Nat} (h : xs.take k = ys.take k) (hx : k < xs.length) (hy : k < ys.length) (he : xs[k] = ys[k]) : xs.take (k + 1) = ys.take (k + 1) := by
  rw [List.take_succ_eq_append_getElem hx, List.take_succ_eq_append_getElem hy, h, he]
theorem eq_of_take {α : Type} {xs ys : List α} {k : Nat} (h : xs.take k = ys.take k) (hk : xs.length ≤ k) (hl : xs.length = ys.length) : xs = ys := by
  rw [List.take_of_length_le hk, List.take_of_length_le (by omega)] at h; exact h
theorem all_take_succ {α : Type} {p : α → Bool} {xs : List α} {k : Nat} (h : (xs.take k).all p = true) (hx : k < xs.length) (he : p xs[k] = true) : (xs.take (k + 1)).all p = true := by
  rw [List.take_succ_eq_append_getElem hx, List.all_append, h]; simp [he]
theorem all_of_take {α : Type} {p : α → Bool} {xs : List α} {k : Nat} (h : (xs.take k).all p = true) (hk : xs.length ≤ k) : xs.all p = true := by
  rwa [List.take_of_length_le hk] at h
theorem all_false {α : Type} {p : α → Bool} {xs : List α} {k : Nat} (hx : k < xs.length) (he : p xs[k] = false) : xs.all p = false := by
  rw [List.all_eq_false]; exact ⟨xs[k], List.getElem_mem _, by simp [he]⟩
theorem retB {b c : Bool} (h : b = c) : Ending.returned (.bool b) = .returned (.bool c) := by rw [h]
theorem retI {b c : Int} (h : b = c) : Ending.returned (.int .i64 b) = .returned (.int .i64 c) := by rw [h]
end Go.Proofs.YtgodbldchaonpaaGreat

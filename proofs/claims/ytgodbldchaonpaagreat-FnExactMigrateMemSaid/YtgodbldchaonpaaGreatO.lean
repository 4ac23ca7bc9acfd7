/- Rows that a call has made: read, grown, written. No condition. -/
import Derived.Test.YtgodbldchaonpaaGreatA
import Derived.Maps.AppendAt
namespace Go.Proofs.YtgodbldchaonpaaGreat
open Go.RowKit
set_option linter.unusedVariables false
/-- How an element of sz cells is written. -/
structure EncOk {α : Type} (enc : α → List Value) (sz : Nat) : Prop where
  len : ∀ x, (enc x).length = sz
  one : ∀ x, ∀ u ∈ enc x, u.oneCell' = true
theorem encI_ok : EncOk encI 1 := ⟨fun _ => rfl, fun x u h => by simp [encI] at h; subst h; rfl⟩
theorem encB_ok : EncOk encB 1 := ⟨fun _ => rfl, fun x u h => by simp [encB] at h; subst h; rfl⟩
theorem encX_ok : EncOk encX 3 := ⟨fun _ => rfl, fun x u h => by simp [encX] at h; rcases h with rfl | rfl | rfl <;> rfl⟩
theorem encS_ok : EncOk encS 6 := ⟨fun _ => rfl, fun x u h => by simp [encS] at h; rcases h with rfl | rfl | rfl | rfl | rfl | rfl <;> rfl⟩
theorem flat_len {α : Type} {enc : α → List Value} {sz : Nat} (he : EncOk enc sz) (xs : List α) : (xs.flatMap enc).length = xs.length * sz := by
  induction xs with
  | nil => simp
  | cons x r ih => rw [List.flatMap_cons, List.length_append, ih, he.len, List.length_cons, Nat.add_mul, Nat.one_mul, Nat.add_comm]
theorem flat_get {α : Type} {enc : α → List Value} {sz : Nat} (he : EncOk enc sz) (xs : List α) (j i : Nat) (hj : j < xs.length) (hi : i < sz) : (xs.flatMap enc)[j * sz + i]? = (enc xs[j])[i]? := by
  induction xs generalizing j with
  | nil => simp at hj
  | cons x r ih =>
    rw [List.flatMap_cons]
    cases j with
    | zero => rw [Nat.zero_mul, Nat.zero_add, List.getElem?_append_left (by rw [he.len]; exact hi)]; rfl
    | succ j =>
      rw [List.getElem?_append_right (by rw [he.len, Nat.add_mul]; omega), he.len]
      have e : (j + 1) * sz + i - sz = j * sz + i := by rw [Nat.add_mul]; omega
      rw [e, ih j (by simpa using hj)]
      rfl
theorem flat_one {α : Type} {enc : α → List Value} {sz : Nat} (he : EncOk enc sz) (xs : List α) : ∀ u ∈ xs.flatMap enc, u.oneCell' = true := by
  intro u hu
  obtain ⟨x, _, h⟩ := List.mem_flatMap.1 hu
  exact he.one x u h
theorem add_addr (b off j : Nat) : (⟨b, off, none⟩ : Addr).add j = ⟨b, off + j, none⟩ := by
  unfold Addr.add; split
  · subst_vars; rfl
  · rfl
/-- The cells of a slice that is read, one behind the other. -/
theorem RdF.flat {α : Type} {enc : α → List Value} {sz : Nat} (he : EncOk enc sz) (hs : 0 < sz) {w : World} {A : Option Addr} {xs : List α} (h : RdF enc sz w A xs) (hx : xs ≠ []) :
    ∃ b off, A = some ⟨b, off, none⟩ ∧ ∀ j u, (xs.flatMap enc)[j]? = some u → w.cell? ((⟨b, off, none⟩ : Addr).add j) = some u := by
  have h0 : 0 < xs.length := List.length_pos_iff.2 hx
  obtain ⟨b, off, _, hA, _⟩ := h.2 0 h0
  refine ⟨b, off, hA, fun j u hu => ?_⟩
  have hj : j < xs.length * sz := by rw [← flat_len he]; exact (List.getElem?_eq_some_iff.1 hu).1
  have hq : j / sz < xs.length := Nat.div_lt_of_lt_mul (by rwa [Nat.mul_comm] at hj)
  have hm : j % sz < sz := Nat.mod_lt _ hs
  have ej : j / sz * sz + j % sz = j := by rw [Nat.mul_comm]; exact Nat.div_add_mod j sz
  obtain ⟨b', off', cs, hA', hl, hr, hc⟩ := h.2 (j / sz) hq
  rw [hA] at hA'
  injection hA' with hA'
  injection hA' with h1 h2
  subst h1 h2
  subst hr
  have := hc (j % sz) (by rw [hl]; exact hm)
  rw [ej] at this
  rw [add_addr, this]
  have hg := flat_get he xs (j / sz) (j % sz) hq hm
  rw [ej, hu] at hg
  rw [← List.getElem?_eq_getElem, ← hg]
/-- append(v, ys...): v a row of the call's own, ys read. -/
theorem app_row {α : Type} {P : Program} {ops : Array Oper} {rest : List Oper} {o : Oper} {a : Act} {Q : Exit → Act → World → Prop} {W : World} (enc : α → List Value) (sz : Nat) (he : EncOk enc sz) (hs0 : 0 < sz)
    (base : Nat) (hgd : o.guard = none) (s x : Operand) (t e : TypeId) (z : Value) (bytes : Nat)
    (ho : o.op = .call { callee := .builtin .append, args := #[s, x], argTypes := #[t, t] })
    (ht : P.underlying t = some (.slice e)) (hinfo : (P.info? e).map (fun i => (i.zero, i.size, i.bytes)) = some (some z, sz, bytes)) (hz : z.cells.size = sz) (hb0 : 0 < bytes)
    (v : Value) (xs ys : List α) (A : Option Addr) (c : Nat) (hs : a.eval s = v) (hx : a.eval x = .slice A ys.length c)
    (HO : W.ownsRow base e sz v xs.length (xs.flatMap enc)) (HR : RdF enc sz W A ys) (hbase : base ≤ W.heap.size) (hl : (xs.length + ys.length) * bytes ≤ 140737488355328)
    (h : ∀ v1 w1, w1.ownsRow base e sz v1 (xs ++ ys).length ((xs ++ ys).flatMap enc) → W.grownBy w1 v.ownBlock → (v1.ownBlock = v.ownBlock ∨ v1.ownBlock = some W.heap.size) → wpList P ops Q rest (a.put o.dst v1) w1) :
    wpList P ops Q (o :: rest) a W := by
  obtain ⟨i0, hi, hzz⟩ := Option.map_eq_some_iff.1 hinfo
  simp only [Prod.mk.injEq] at hzz
  obtain ⟨hz0, hz1, hz2⟩ := hzz
  have hlen : xs.length + ys.length ≤ 140737488355328 := Nat.le_trans (Nat.le_mul_of_pos_right _ hb0) hl
  have hrun : ∃ v1 w1, (Builtin.append_ #[t, t] o.type #[v, .slice A ys.length c]).run P W = .ok v1 w1 ∧ w1.ownsRow base e sz v1 (xs ++ ys).length ((xs ++ ys).flatMap enc) ∧ W.grownBy w1 v.ownBlock ∧ (v1.ownBlock = v.ownBlock ∨ v1.ownBlock = some W.heap.size) := by
    by_cases hy : ys = []
    · subst hy
      rcases A with _ | ad
      · refine ⟨v, W, ?_, by simpa using HO, World.grownBy.refl W _, .inl rfl⟩
        rcases HO.2 with ⟨rfl, hn⟩ | ⟨g, cap, cur, rfl, _, _, hnc, _⟩
        · simp [Builtin.append_, run_underlying ht, Go.sizeOf, typeInfo, hi, Builtin.lenOf, Builtin.firstCells]
        · simp [Builtin.append_, run_underlying ht, Go.sizeOf, typeInfo, hi, Builtin.lenOf, Builtin.firstCells, hnc, storeCells]
      · obtain ⟨v1, w1, hr, h2, h3, _, h5⟩ := run_append_own_at (P := P) W base t o.type e i0 z sz bytes ht hi hz0 hz1 hz2 hz hs0 v xs.length (xs.flatMap enc) HO ad 0 c [] (by simp) (by simp) (by simp) (by simp only [maxLen]; omega) (by simpa using hl) hbase
        exact ⟨v1, w1, by simpa using hr, by simpa using h2, h3, h5⟩
    · obtain ⟨b, off, rfl, hc⟩ := HR.flat he hs0 hy
      obtain ⟨v1, w1, hr, h2, h3, _, h5⟩ := run_append_own_at (P := P) W base t o.type e i0 z sz bytes ht hi hz0 hz1 hz2 hz hs0 v xs.length (xs.flatMap enc) HO ⟨b, off, none⟩ ys.length c (ys.flatMap enc) (flat_len he ys) hc (flat_one he ys) (by simp only [maxLen]; omega) hl hbase
      exact ⟨v1, w1, hr, by simpa [List.flatMap_append] using h2, h3, h5⟩
  obtain ⟨v1, w1, hr, hown, hg, hat⟩ := hrun
  refine wpList_plain hgd fun K hK => ?_
  unfold Oper.wp execOp
  simp only [ho, resolve, invoke, builtin, Sem.run_bind, Sem.run_pure, Result.andThen_ok, List.map_toArray, List.map_cons, List.map_nil, hs, hx, hr]
  exact hK _ _ (h v1 w1 hown hg hat)
theorem app_row' {α : Type} {P : Program} {ops : Array Oper} {rest : List Oper} {o : Oper} {a : Act} {Q : Exit → Act → World → Prop} {W : World} (enc : α → List Value) (sz : Nat) (he : EncOk enc sz) (hs0 : 0 < sz)
    (base : Nat) (hgd : o.guard = none) (s x : Operand) (t e : TypeId) (z : Value) (bytes : Nat)
    (ho : o.op = .call { callee := .builtin .append, args := #[s, x], argTypes := #[t, t] })
    (ht : P.underlying t = some (.slice e)) (hinfo : (P.info? e).map (fun i => (i.zero, i.size, i.bytes)) = some (some z, sz, bytes)) (hz : z.cells.size = sz) (hb0 : 0 < bytes)
    (v : Value) (xs ys : List α) (n : Nat) (hn : ys.length = n) (A : Option Addr) (c : Nat) (hs : a.eval s = v) (hx : a.eval x = .slice A n c)
    (HO : W.ownsRow base e sz v xs.length (xs.flatMap enc)) (HR : RdF enc sz W A ys) (hbase : base ≤ W.heap.size) (hl : (xs.length + n) * bytes ≤ 140737488355328)
    (h : ∀ v1 w1, w1.ownsRow base e sz v1 (xs ++ ys).length ((xs ++ ys).flatMap enc) → W.grownBy w1 v.ownBlock → (v1.ownBlock = v.ownBlock ∨ v1.ownBlock = some W.heap.size) → wpList P ops Q rest (a.put o.dst v1) w1) :
    wpList P ops Q (o :: rest) a W := by
  subst hn
  exact app_row enc sz he hs0 base hgd s x t e z bytes ho ht hinfo hz hb0 v xs ys A c hs hx HO HR hbase hl h
/-- What is owned can be read. -/
theorem own_rd {α : Type} {enc : α → List Value} {sz : Nat} (he : EncOk enc sz) {w : World} {base : Nat} {e : TypeId} {v : Value} {xs : List α} (h : w.ownsRow base e sz v xs.length (xs.flatMap enc)) (hl : xs.length ≤ 17592186044416) :
    ∃ A c, v = .slice A xs.length c ∧ xs.length ≤ c ∧ RdF enc sz w A xs := by
  rcases h.2 with ⟨rfl, h0⟩ | ⟨g, cap, cur, rfl, _, hh, hc, _, hs, ht⟩
  · have : xs = [] := List.eq_nil_of_length_eq_zero h0
    subst this
    exact ⟨none, 0, rfl, Nat.le_refl _, RdF.nil _ _ _ _⟩
  · refine ⟨_, cap, rfl, hc, hl, fun j hj => ⟨g, 0, enc xs[j], rfl, he.len _, rfl, fun i hi => ?_⟩⟩
    rw [he.len] at hi
    rw [cell_of_row _ _ _ cur e (0, 0) hh]
    have hg := flat_get he xs j i hj hi
    have hlt : j * sz + i < xs.length * sz := by
      have : (j + 1) * sz ≤ xs.length * sz := Nat.mul_le_mul_right _ hj
      rw [Nat.add_mul] at this; omega
    rw [← ht, List.getElem?_take, if_pos hlt] at hg
    rw [Nat.zero_add, ← List.getElem?_eq_getElem, ← hg]
    simp
/-- A row made by the call: its block lies from base on and was there when the call ended. -/
def Own (e : TypeId) (sz : Nat) (lo : Nat) (w : World) (v : Value) (n : Nat) (cs : List Value) : Prop := w.ownsRow lo e sz v n cs
theorem own_lt {w : World} {base : Nat} {e : TypeId} {size n : Nat} {v : Value} {xs : List Value} (h : w.ownsRow base e size v n xs) (k : Nat) (hk : v.ownBlock = some k) : base ≤ k ∧ k < w.heap.size := h.lt k hk
theorem own_bel {w w1 : World} {base : Nat} {e : TypeId} {size n : Nat} {v : Value} {xs : List Value} (h : w.ownsRow base e size v n xs) (hb : Bel w w1) : w1.ownsRow base e size v n xs :=
  h.kept ⟨hb.out.os, hb.out.tape, hb.out.output, hb.out.size, fun i hi _ => hb.out.block i hi⟩ (row := none) (by cases v.ownBlock <;> simp)
theorem own_keep {w w1 : World} {base : Nat} {e : TypeId} {size n : Nat} {v : Value} {xs : List Value} (h : w.ownsRow base e size v n xs) (hb : ∀ k, v.ownBlock = some k → w1.heap[k]? = w.heap[k]?) : w1.ownsRow base e size v n xs := by
  refine ⟨h.1, ?_⟩
  rcases h.2 with h2 | ⟨g, cap, cur, rfl, hg, hh, r⟩
  · exact .inl h2
  · exact .inr ⟨g, cap, cur, rfl, hg, by rw [hb g rfl]; exact hh, r⟩
theorem own_raise {w : World} {b b' : Nat} {e : TypeId} {size n : Nat} {v : Value} {cs : List Value} (h : w.ownsRow b e size v n cs) (hb : ∀ k, v.ownBlock = some k → b' ≤ k) : w.ownsRow b' e size v n cs := by
  refine ⟨h.1, ?_⟩
  rcases h.2 with h2 | ⟨g, cap, cur, rfl, hg, r⟩
  · exact .inl h2
  · exact .inr ⟨g, cap, cur, rfl, hb g rfl, r⟩
theorem own_nil (w : World) (base : Nat) (e : TypeId) (size : Nat) : w.ownsRow base e size (.slice none 0 0) 0 [] := ⟨by simp, .inl ⟨rfl, rfl⟩⟩
/-- '[]T{}': a new block of no cell. -/
theorem own_lit0 (w : World) (base : Nat) (e : TypeId) (size : Nat) (hb : base ≤ w.heap.size) : (w.alloc (.cells #[] e)).ownsRow base e size (.slice (some ⟨w.heap.size, 0, none⟩) 0 0) 0 [] :=
  ⟨by simp, .inr ⟨w.heap.size, 0, #[], rfl, hb, heap_alloc_new w _, Nat.le_refl _, by simp [maxLen], by simp, by simp⟩⟩
/-- make([]T, n), laid ahead of the walk. -/
theorem make_run {P : Program} (t e : TypeId) (z : Value) (sz bytes : Nat) (ht : P.underlying t = some (.slice e)) (hinfo : (P.info? e).map (fun i => (i.zero, i.size, i.bytes)) = some (some z, sz, bytes)) (n : Nat) (hb : bytes * n ≤ 281474976710656) (h63 : n ≤ 9223372036854775807) :
    ∀ W : World, (Instr.makeSlice t (.int .i64 (n : Int)) (.int .i64 (n : Int))).run P W = .ok (.slice (some ⟨W.heap.size, 0, none⟩) n n) (W.alloc (.cells (madeCells z.cells (n * sz)) e)) := by
  intro W
  obtain ⟨i, hi, hzz⟩ := Option.map_eq_some_iff.1 hinfo
  simp only [Prod.mk.injEq] at hzz
  obtain ⟨hz, hs, hbb⟩ := hzz
  have hb' : (i.bytes : Int) * (n : Int) ≤ 281474976710656 := by
    rw [hbb]
    have h : ((bytes * n : Nat) : Int) ≤ 281474976710656 := by omega
    rwa [Int.natCast_mul] at h
  have hr := run_make (P := P) W t e i z ht hi hz .i64 .i64 n n (by omega) (Int.le_refl _) hb' (by omega)
  simpa only [Int.toNat_natCast, hs] using hr
theorem own_made (W : World) (base : Nat) (e : TypeId) (z : Array Value) (sz n : Nat) (hb : base ≤ W.heap.size) (hn : n ≤ 9223372036854775807) :
    (W.alloc (.cells (madeCells z (n * sz)) e)).ownsRow base e sz (.slice (some ⟨W.heap.size, 0, none⟩) n n) n (madeCells z (n * sz)).toList :=
  World.ownsRow_lit W _ n hb (by simpa [maxLen] using hn) (size_madeCells _ _)
def Filled {α : Type} (enc : α → List Value) (sz : Nat) (xs : List α) (cells : List Value) (k : Nat) : Prop := ∀ j x, j < k → xs[j]? = some x → ∀ i, i < sz → cells[j * sz + i]? = (enc x)[i]?
theorem filled_zero {α : Type} (enc : α → List Value) (sz : Nat) (xs : List α) (cells : List Value) : Filled enc sz xs cells 0 := fun j x h => absurd h (Nat.not_lt_zero _)
theorem filled_succ {α : Type} {enc : α → List Value} {sz : Nat} {xs : List α} {cells cells' : List Value} {k : Nat} (h : Filled enc sz xs cells k) (hk : k < xs.length)
    (h1 : ∀ i, i < sz → cells'[k * sz + i]? = (enc xs[k])[i]?) (h2 : ∀ p, p < k * sz → cells'[p]? = cells[p]?) : Filled enc sz xs cells' (k + 1) := by
  intro j x hj hx i hi
  by_cases e : j = k
  · subst e
    rw [List.getElem?_eq_getElem hk] at hx
    cases hx
    exact h1 i hi
  · have hlt : j < k := by omega
    have hp : j * sz + i < k * sz := by
      have : (j + 1) * sz ≤ k * sz := Nat.mul_le_mul_right _ hlt
      rw [Nat.add_mul] at this; omega
    rw [h2 _ hp]; exact h j x hlt hx i hi
theorem filled_all {α : Type} {enc : α → List Value} {sz : Nat} (he : EncOk enc sz) (hs : 0 < sz) {xs : List α} {cells : List Value} (h : Filled enc sz xs cells xs.length) (hl : cells.length = xs.length * sz) : cells = xs.flatMap enc := by
  apply List.ext_getElem?
  intro p
  by_cases hp : p < xs.length * sz
  · have hq : p / sz < xs.length := Nat.div_lt_of_lt_mul (by rwa [Nat.mul_comm] at hp)
    have hm : p % sz < sz := Nat.mod_lt _ hs
    have ej : p / sz * sz + p % sz = p := by rw [Nat.mul_comm]; exact Nat.div_add_mod p sz
    have h1 := h (p / sz) xs[p / sz] hq (List.getElem?_eq_getElem hq) (p % sz) hm
    have h2 := flat_get he xs (p / sz) (p % sz) hq hm
    rw [ej] at h1 h2
    rw [h1, h2]
  · rw [List.getElem?_eq_none (by omega), List.getElem?_eq_none (by rw [flat_len he]; omega)]
theorem own_cells {W : World} {base g n cap sz : Nat} {e : TypeId} {cells : List Value} (h : W.ownsRow base e sz (.slice (some ⟨g, 0, none⟩) n cap) n cells) (j : Nat) (hj : j < n * sz) : ∃ v, W.cell? ⟨g, j, none⟩ = some v := by
  have hl : j < cells.length := by rw [h.1]; exact hj
  exact ⟨cells[j], by rw [h.cellAt j hj, List.getElem?_eq_getElem hl]⟩
/-- The places of element k of a row of six cells an element. -/
theorem own_six {W : World} {base g n cap : Nat} {e : TypeId} {cells : List Value} (h : W.ownsRow base e 6 (.slice (some ⟨g, 0, none⟩) n cap) n cells) (k : Nat) (hk : k < n) :
    ∃ v0 v1 v2 v3 v4 v5, W.cell? ⟨g, k * 6, none⟩ = some v0 ∧ W.cell? ⟨g, k * 6 + 1, none⟩ = some v1 ∧ W.cell? ⟨g, k * 6 + 2, none⟩ = some v2 ∧ W.cell? ⟨g, k * 6 + 3, none⟩ = some v3 ∧ W.cell? ⟨g, k * 6 + 4, none⟩ = some v4 ∧ W.cell? ⟨g, k * 6 + 5, none⟩ = some v5
      ∧ W.frozen? ⟨g, k * 6, none⟩ = false ∧ W.frozen? ⟨g, k * 6 + 1, none⟩ = false ∧ W.frozen? ⟨g, k * 6 + 2, none⟩ = false ∧ W.frozen? ⟨g, k * 6 + 3, none⟩ = false ∧ W.frozen? ⟨g, k * 6 + 4, none⟩ = false ∧ W.frozen? ⟨g, k * 6 + 5, none⟩ = false := by
  obtain ⟨v0, h0⟩ := own_cells h (k * 6) (by omega)
  obtain ⟨v1, h1⟩ := own_cells h (k * 6 + 1) (by omega)
  obtain ⟨v2, h2⟩ := own_cells h (k * 6 + 2) (by omega)
  obtain ⟨v3, h3⟩ := own_cells h (k * 6 + 3) (by omega)
  obtain ⟨v4, h4⟩ := own_cells h (k * 6 + 4) (by omega)
  obtain ⟨v5, h5⟩ := own_cells h (k * 6 + 5) (by omega)
  exact ⟨v0, v1, v2, v3, v4, v5, h0, h1, h2, h3, h4, h5, h.frozenAt _, h.frozenAt _, h.frozenAt _, h.frozenAt _, h.frozenAt _, h.frozenAt _⟩
theorem own_four {W : World} {base g n cap : Nat} {e : TypeId} {cells : List Value} (h : W.ownsRow base e 4 (.slice (some ⟨g, 0, none⟩) n cap) n cells) (k : Nat) (hk : k < n) :
    ∃ v0 v1 v2 v3, W.cell? ⟨g, k * 4, none⟩ = some v0 ∧ W.cell? ⟨g, k * 4 + 1, none⟩ = some v1 ∧ W.cell? ⟨g, k * 4 + 2, none⟩ = some v2 ∧ W.cell? ⟨g, k * 4 + 3, none⟩ = some v3
      ∧ W.frozen? ⟨g, k * 4, none⟩ = false ∧ W.frozen? ⟨g, k * 4 + 1, none⟩ = false ∧ W.frozen? ⟨g, k * 4 + 2, none⟩ = false ∧ W.frozen? ⟨g, k * 4 + 3, none⟩ = false := by
  obtain ⟨v0, h0⟩ := own_cells h (k * 4) (by omega)
  obtain ⟨v1, h1⟩ := own_cells h (k * 4 + 1) (by omega)
  obtain ⟨v2, h2⟩ := own_cells h (k * 4 + 2) (by omega)
  obtain ⟨v3, h3⟩ := own_cells h (k * 4 + 3) (by omega)
  exact ⟨v0, v1, v2, v3, h0, h1, h2, h3, h.frozenAt _, h.frozenAt _, h.frozenAt _, h.frozenAt _⟩
theorem stored_bel {w : World} {W : World} {g j : Nat} (u : Value) (h : Bel w W) (hg : w.heap.size ≤ g) : Bel w (W.setCell ⟨g, j, none⟩ u) := h.set hg u
end Go.Proofs.YtgodbldchaonpaaGreat

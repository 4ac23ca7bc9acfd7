/- The laws' own marks on tasks. No condition. -/
import Derived.Test.YtgodbldchaonpaaGreatMS
namespace Go.Proofs.YtgodbldchaonpaaGreat
open Go.RowKit
set_option linter.unusedVariables false
set_option maxRecDepth 100000
def mkT (k : Int) (t : Tk) : Tk := ⟨mkSs k t.body.length, k + 6 * (t.body.length : Int), k + 6 * (t.body.length : Int) + 1, k + 6 * (t.body.length : Int) + 2⟩
def mkTs : Int → List (Value × Tk) → List (Value × Tk)
  | _, [] => []
  | k, p :: r => (p.1, mkT k p.2) :: mkTs (k + 6 * (p.2.body.length : Int) + 3) r
def cnt : List (Value × Tk) → Nat
  | [] => 0
  | p :: r => 6 * p.2.body.length + 3 + cnt r
theorem mkTs_len (k : Int) (ps : List (Value × Tk)) : (mkTs k ps).length = ps.length := by
  induction ps generalizing k with
  | nil => rfl
  | cons p r ih => simp [mkTs, ih]
theorem mkTs_get (k : Int) (ps : List (Value × Tk)) (j : Nat) (hj : j < ps.length) : (mkTs k ps)[j]? = some (ps[j].1, mkT (k + (cnt (ps.take j) : Int)) ps[j].2) := by
  induction ps generalizing k j with
  | nil => simp at hj
  | cons p r ih =>
    cases j with
    | zero => simp [mkTs, cnt]
    | succ j =>
      simp only [mkTs, List.getElem?_cons_succ, List.take_succ_cons, cnt, List.getElem_cons_succ]
      rw [ih _ j (by simpa using hj)]
      congr 3; omega
theorem cnt_take (ps : List (Value × Tk)) (j : Nat) (hj : j < ps.length) : cnt (ps.take (j + 1)) = cnt (ps.take j) + 6 * ps[j].2.body.length + 3 := by
  induction ps generalizing j with
  | nil => simp at hj
  | cons p r ih =>
    cases j with
    | zero => simp [cnt]
    | succ j =>
      simp only [List.take_succ_cons, cnt, List.getElem_cons_succ]
      rw [ih j (by simpa using hj)]; omega
theorem cnt_take_le (ps : List (Value × Tk)) (j : Nat) : cnt (ps.take j) ≤ cnt ps := by
  induction ps generalizing j with
  | nil => simp
  | cons p r ih =>
    cases j with
    | zero => simp [cnt]
    | succ j => simp only [List.take_succ_cons, cnt]; have := ih j; omega
/-- The first j marked, the others as they were. -/
def part (k : Int) (ps : List (Value × Tk)) (j : Nat) : List (Value × Tk) := (mkTs k ps).take j ++ ps.drop j
theorem part_len (k : Int) (ps : List (Value × Tk)) (j : Nat) (hj : j ≤ ps.length) : (part k ps j).length = ps.length := by
  simp [part, mkTs_len]; omega
theorem part_get (k : Int) (ps : List (Value × Tk)) (j : Nat) (hj : j < ps.length) : (part k ps j)[j]? = some ps[j] := by
  unfold part
  rw [List.getElem?_append_right (by rw [List.length_take, mkTs_len]; omega), List.length_take, mkTs_len, List.getElem?_drop, Nat.min_eq_left (by omega)]
  simp [hj]
theorem part_succ (k : Int) (ps : List (Value × Tk)) (j : Nat) (hj : j < ps.length) : part k ps (j + 1) = (part k ps j).set j (ps[j].1, mkT (k + (cnt (ps.take j) : Int)) ps[j].2) := by
  have hl : j < (mkTs k ps).length := by rw [mkTs_len]; exact hj
  have hg := mkTs_get k ps j hj
  rw [List.getElem?_eq_getElem hl] at hg
  unfold part
  rw [List.take_succ_eq_append_getElem hl, Option.some.inj hg, List.set_append_right _ _ (by rw [List.length_take, mkTs_len]; omega), List.length_take, mkTs_len, Nat.min_eq_left (by omega), Nat.sub_self, List.drop_eq_getElem_cons hj, List.append_assoc, List.set_cons_zero]
  rfl
theorem flatP_set (ps : List (Value × Tk)) (j i : Nat) (q : Value × Tk) (u : Value) (hj : j < ps.length) (hi : i < 4) (he : encP q = (encP ps[j]).set i u) : (ps.set j q).flatMap encP = (ps.flatMap encP).set (j * 4 + i) u := by
  induction ps generalizing j with
  | nil => simp at hj
  | cons p r ih =>
    cases j with
    | zero =>
      simp only [List.set_cons_zero, List.flatMap_cons, Nat.zero_mul, Nat.zero_add]
      rw [List.set_append_left _ _ (by rw [encP_len]; exact hi), he]; rfl
    | succ j =>
      simp only [List.set_cons_succ, List.flatMap_cons]
      rw [ih j (by simpa using hj) he, List.set_append_right _ _ (by rw [encP_len]; omega), encP_len]
      congr 2; omega
def Und (hi : Nat) (v : Value) (ps : List (Value × Tk)) : Prop := (∀ k, v.ownBlock = some k → k < hi) ∧ ∀ p ∈ ps, ∀ k, p.1.ownBlock = some k → k < hi
theorem mem_set_of {α : Type} {l : List α} {j : Nat} {q x : α} (h : x ∈ l.set j q) : x ∈ l ∨ x = q := List.mem_or_eq_of_mem_set h
theorem pair_set {ps : List (Value × Tk)} {j : Nat} {q : Value × Tk} (hj : j < ps.length) (hq : q.1 = ps[j].1) (h : ps.Pairwise (fun p q => ∀ k, p.1.ownBlock = some k → q.1.ownBlock ≠ some k)) : (ps.set j q).Pairwise (fun p q => ∀ k, p.1.ownBlock = some k → q.1.ownBlock ≠ some k) := by
  rw [List.pairwise_iff_getElem] at h ⊢
  intro a b ha hb hab k h1 h2
  rw [List.length_set] at ha hb
  have e1 : ((ps.set j q)[a]'(by simpa using ha)).1 = ps[a].1 := by
    rw [List.getElem_set]; split
    · rename_i e; subst e; exact hq
    · rfl
  have e2 : ((ps.set j q)[b]'(by simpa using hb)).1 = ps[b].1 := by
    rw [List.getElem_set]; split
    · rename_i e; subst e; exact hq
    · rfl
  rw [e1] at h1; rw [e2] at h2
  exact h a b ha hb hab k h1 h2
/-- One body has been written. -/
theorem OwT.body_set {lo : Nat} {w w' : World} {v : Value} {ps : List (Value × Tk)} {j : Nat} {b : List St} (h : OwT lo w v ps) (hj : j < ps.length) (hc : Chg (fun k => ps[j].1.ownBlock = some k) w w') (hlen : b.length = ps[j].2.body.length)
    (hb : w'.ownsRow lo 154 6 ps[j].1 b.length (b.flatMap encS)) : OwT lo w' v (ps.set j (ps[j].1, { ps[j].2 with body := b })) := by
  have hm : ps[j] ∈ ps := List.getElem_mem _
  refine ⟨?_, ?_, pair_set hj rfl h.apart, ?_⟩
  · rw [List.length_set]
    have e : (ps.set j (ps[j].1, { ps[j].2 with body := b })).flatMap encP = ps.flatMap encP := by
      rw [flatP_set ps j 0 (ps[j].1, { ps[j].2 with body := b }) ps[j].1 hj (by omega) rfl]
      have h0 := flatP_get ps j 0 hj (by omega)
      rw [Nat.add_zero] at h0 ⊢
      have hlt : j * 4 < (ps.flatMap encP).length := by rw [flatP_len]; omega
      rw [List.getElem?_eq_getElem hlt] at h0
      have h1 : (ps.flatMap encP)[j * 4] = ps[j].1 := by simpa [encP] using h0
      conv => lhs; rw [← h1]
      exact List.set_getElem_self hlt
    rw [e]
    exact own_keep h.row (fun k hk => hc.block k (h.row.lt k hk).2 (fun e => h.far _ hm k hk e))
  · intro p hp
    rw [List.mem_iff_getElem] at hp
    obtain ⟨i, hi, rfl⟩ := hp
    rw [List.length_set] at hi
    rw [List.getElem_set]
    split
    · exact hb
    · rename_i hne
      refine own_keep (h.body _ (List.getElem_mem _)) (fun k hk => hc.block k ((h.body _ (List.getElem_mem _)).lt k hk).2 (fun e => ?_))
      have hp := h.apart
      rw [List.pairwise_iff_getElem] at hp
      rcases Nat.lt_or_gt_of_ne hne with hlt | hlt
      · exact hp j i hj hi hlt k e hk
      · exact hp i j hi hj hlt k hk e
  · intro p hp k hk
    rcases mem_set_of hp with hp | rfl
    · exact h.far p hp k hk
    · exact h.far _ hm k hk
/-- One number of a row of tasks has been written. -/
theorem OwT.num_set {lo g n c : Nat} {w : World} {ps : List (Value × Tk)} {j i : Nat} {q : Value × Tk} {u : Value} (h : OwT lo w (.slice (some ⟨g, 0, none⟩) n c) ps) (hn : n = ps.length) (hj : j < ps.length) (hi : i < 4) (hq : q.1 = ps[j].1) (hbq : q.2.body = ps[j].2.body) (he : encP q = (encP ps[j]).set i u) :
    OwT lo (w.setCell ⟨g, j * 4 + i, none⟩ u) (.slice (some ⟨g, 0, none⟩) n c) (ps.set j q) := by
  subst hn
  have hm : ps[j] ∈ ps := List.getElem_mem _
  refine ⟨?_, ?_, pair_set hj hq h.apart, ?_⟩
  · rw [List.length_set, flatP_set ps j i q u hj hi he]
    exact (h.row.stored (j * 4 + i) u).1
  · intro p hp
    rcases mem_set_of hp with hp | rfl
    · exact own_far (h.body p hp) u (h.far p hp g rfl)
    · rw [hq, hbq]; exact own_far (h.body _ hm) u (h.far _ hm g rfl)
  · intro p hp k hk
    rcases mem_set_of hp with hp | rfl
    · exact h.far p hp k hk
    · rw [hq]; exact h.far _ hm k hk
theorem OwT.cell4 {lo g n c : Nat} {w : World} {ps : List (Value × Tk)} {j : Nat} (h : OwT lo w (.slice (some ⟨g, 0, none⟩) n c) ps) (hn : n = ps.length) (hj : j < ps.length) :
    w.cell? ⟨g, j * 4, none⟩ = some ps[j].1 ∧ w.cell? ⟨g, j * 4 + 1, none⟩ = some (.int .i64 ps[j].2.op) ∧ w.cell? ⟨g, j * 4 + 2, none⟩ = some (.int .i64 ps[j].2.a) ∧ w.cell? ⟨g, j * 4 + 3, none⟩ = some (.int .i64 ps[j].2.b) := by
  subst hn
  refine ⟨?_, ?_, ?_, ?_⟩
  · rw [h.row.cellAt (j * 4) (by omega)]; have := flatP_get ps j 0 hj (by omega); simpa [encP] using this
  · rw [h.row.cellAt (j * 4 + 1) (by omega)]; have := flatP_get ps j 1 hj (by omega); simpa [encP] using this
  · rw [h.row.cellAt (j * 4 + 2) (by omega)]; have := flatP_get ps j 2 hj (by omega); simpa [encP] using this
  · rw [h.row.cellAt (j * 4 + 3) (by omega)]; have := flatP_get ps j 3 hj (by omega); simpa [encP] using this
theorem OwT.frz {lo g n c : Nat} {w : World} {ps : List (Value × Tk)} (h : OwT lo w (.slice (some ⟨g, 0, none⟩) n c) ps) (hn : n = ps.length) (j : Nat) : w.frozen? ⟨g, j, none⟩ = false := by
  subst hn; exact h.row.frozenAt j
end Go.Proofs.YtgodbldchaonpaaGreat

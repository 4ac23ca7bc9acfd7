/- The laws' own copies of tasks, programs and nodes. No condition. -/
import Derived.Test.YtgodbldchaonpaaGreatW
namespace Go.Proofs.YtgodbldchaonpaaGreat
open Go.RowKit
set_option linter.unusedVariables false
set_option maxRecDepth 100000
def encP (p : Value × Tk) : List Value := [p.1, .int .i64 p.2.op, .int .i64 p.2.a, .int .i64 p.2.b]
theorem encP_len (p : Value × Tk) : (encP p).length = 4 := rfl
/-- A row of tasks made anew: its own block, and each body's. -/
structure OwT (lo : Nat) (w : World) (v : Value) (ps : List (Value × Tk)) : Prop where
  row : w.ownsRow lo 121 4 v ps.length (ps.flatMap encP)
  body : ∀ p ∈ ps, w.ownsRow lo 154 6 p.1 p.2.body.length (p.2.body.flatMap encS)
  apart : ps.Pairwise (fun p q => ∀ k, p.1.ownBlock = some k → q.1.ownBlock ≠ some k)
  far : ∀ p ∈ ps, ∀ k, v.ownBlock = some k → p.1.ownBlock ≠ some k
theorem own_far {w : World} {base : Nat} {e : TypeId} {size n : Nat} {v : Value} {xs : List Value} (h : w.ownsRow base e size v n xs) {g j : Nat} (u : Value) (hne : v.ownBlock ≠ some g) : (w.setCell ⟨g, j, none⟩ u).ownsRow base e size v n xs :=
  own_keep h (fun k hk => Below.heap_setCell _ _ _ _ (fun e => hne (by rw [hk, e])))
theorem own_shape {w : World} {base : Nat} {e : TypeId} {size n : Nat} {v : Value} {xs : List Value} (h : w.ownsRow base e size v n xs) : ∃ A c, v = .slice A n c ∧ n ≤ c := by
  rcases h.2 with ⟨rfl, h0⟩ | ⟨g, cap, cur, rfl, _, _, hc, _⟩
  · subst h0; exact ⟨none, 0, rfl, Nat.le_refl _⟩
  · exact ⟨_, cap, rfl, hc⟩
/-- The law's tasks: sizes are small. -/
def small (ts : List Tk) : Prop := ∀ t ∈ ts, t.body.length ≤ 1099511627776
def MkTk (t : Tk) (w : World) (e : Ending) (w' : World) : Prop := ∃ v, e = .returned (.agg #[v, .int .i64 t.op, .int .i64 t.a, .int .i64 t.b]) ∧ w'.ownsRow w.heap.size 154 6 v t.body.length (t.body.flatMap encS) ∧ Bel w w'
def MkT (ts : List Tk) (w : World) (e : Ending) (w' : World) : Prop := ∃ v ps, e = .returned v ∧ ps.map (·.2) = ts ∧ OwT w.heap.size w' v ps ∧ Bel w w'
set_option maxHeartbeats 4000000 in
theorem toTask_any (B : Option Addr) (t : Tk) (c : Nat) (w : World) (ha : RdS w B t.body) (hs : t.body.length ≤ 1099511627776) : Calls Tryz.prog 78 #[.agg #[.slice B t.body.length c, .int .i64 t.op, .int .i64 t.a, .int .i64 t.b]] w (MkTk t w) := by
  have HA := Hd.mk ha
  clear ha
  go_enter Tryz.func78, Tryz.ntmps78
  go_wp2_with (go_at_call 124; refine (toStmtS_any B t.body c _ (HA.out.bel (by repeat (first | exact Bel.refl _ | assumption | apply Bel.alloc | apply Bel.drewN | apply Bel.drew | (refine Bel.trans ?_ (by assumption))))) hs).mono ?_; rintro e w' ⟨v, rfl, hown, hb⟩; obtain ⟨A', c', rfl, hcc⟩ := own_shape hown; replace hown := Hd.mk hown; obtain ⟨hc, hf⟩ := hb.rd; have hz := hb.size; (try simp at hz); (first | (have hz0 : w.heap.size < w'.heap.size := by omega) | skip); (first | (have hz1 : w.heap.size + 1 < w'.heap.size := by omega) | skip); (first | (have hz2 : w.heap.size + 1 + 1 < w'.heap.size := by omega) | skip))
  go_enter Tryz.func79, Tryz.ntmps79
  go_wp2
  refine bodyPost_ret (v := .agg #[.int .i64 t.op, .int .i64 t.a, .int .i64 t.b]) (by simp [results, Tryz.results79, go_sem]) rfl ?_
  go_wp2
  have q0 := hc (w.heap.size + 1) 0 (by simp)
  have q1 := hc (w.heap.size + 1) 1 (by simp)
  have q2 := hc (w.heap.size + 1) 2 (by simp)
  have q3 := hc (w.heap.size + 1) 3 (by simp)
  simp [go_sem] at q0 q1 q2 q3
  have hlo := fun k hk => (hown.out.lt k hk).1
  have hne : ∀ g, g ≤ w.heap.size + 1 + 1 → (Value.slice A' t.body.length c').ownBlock ≠ some g := fun g hg e => by have := hlo g e; simp at this; omega
  replace hown := Hd.mk (own_raise (b' := w.heap.size) hown.out (fun k hk => by have := hlo k hk; simp at this; omega))
  refine bodyPost_ret (v := .agg #[.slice A' t.body.length c', .int .i64 t.op, .int .i64 t.a, .int .i64 t.b]) ?_ rfl ⟨_, rfl, ?_, ?_⟩
  · have n1 : w.heap.size + 1 ≠ w'.heap.size := by omega
    have n2 : w.heap.size + 1 ≠ w'.heap.size + 1 := by omega
    have n3 : w.heap.size + 1 ≠ w'.heap.size + 1 + 1 := by omega
    simp [results, Tryz.results78, go_sem, hz0, hz1, hz2, q0, q1, q2, q3, n1, n2, n3, n1.symm, n2.symm, n3.symm]
  · repeat (first | (with_reducible exact hown.out) | (with_reducible refine World.ownsRow.alloc ?_ _) | (with_reducible refine own_far ?_ _ (hne _ (by simp <;> omega))))
  · repeat (first | (with_reducible exact Bel.refl _) | (with_reducible assumption) | (with_reducible apply Bel.alloc) | (with_reducible apply Bel.drewN) | (with_reducible apply Bel.drew) | (with_reducible refine Bel.set ?_ (by simp <;> omega) _) | (refine Bel.trans ?_ (by with_reducible assumption)))
theorem infoT : (Tryz.prog.info? 121).map (fun i => (i.zero, i.size, i.bytes)) = some (some (.agg #[.slice none 0 0, .int .i64 0, .int .i64 0, .int .i64 0]), 4, 48) := by kernel_rfl
theorem flatP_len (ps : List (Value × Tk)) : (ps.flatMap encP).length = ps.length * 4 := by
  induction ps with
  | nil => rfl
  | cons p r ih => rw [List.flatMap_cons, List.length_append, ih, encP_len, List.length_cons]; omega
theorem flatP_get (ps : List (Value × Tk)) (j i : Nat) (hj : j < ps.length) (hi : i < 4) : (ps.flatMap encP)[j * 4 + i]? = (encP ps[j])[i]? := by
  induction ps generalizing j with
  | nil => simp at hj
  | cons p r ih =>
    rw [List.flatMap_cons]
    cases j with
    | zero => rw [Nat.zero_mul, Nat.zero_add, List.getElem?_append_left (by rw [encP_len]; exact hi)]; rfl
    | succ j =>
      rw [List.getElem?_append_right (by rw [encP_len]; omega), encP_len, show (j + 1) * 4 + i - 4 = j * 4 + i by omega, ih j (by simpa using hj)]
      rfl
theorem filledP_all {ps : List (Value × Tk)} {cells : List Value} (h : Filled encP 4 ps cells ps.length) (hl : cells.length = ps.length * 4) : cells = ps.flatMap encP := by
  apply List.ext_getElem?
  intro p
  by_cases hp : p < ps.length * 4
  · have hq : p / 4 < ps.length := by omega
    have ej : p / 4 * 4 + p % 4 = p := by omega
    have h1 := h (p / 4) ps[p / 4] hq (List.getElem?_eq_getElem hq) (p % 4) (by omega)
    have h2 := flatP_get ps (p / 4) (p % 4) hq (by omega)
    rw [ej] at h1 h2
    rw [h1, h2]
  · rw [List.getElem?_eq_none (by omega), List.getElem?_eq_none (by rw [flatP_len]; omega)]
theorem filledP_snoc {ps : List (Value × Tk)} {cells cells' : List Value} {q : Value × Tk} (h : Filled encP 4 ps cells ps.length) (h1 : ∀ i, i < 4 → cells'[ps.length * 4 + i]? = (encP q)[i]?) (h2 : ∀ p, p < ps.length * 4 → cells'[p]? = cells[p]?) : Filled encP 4 (ps ++ [q]) cells' (ps.length + 1) := by
  refine filled_succ (k := ps.length) ?_ (by simp) ?_ h2
  · intro j x hj hx i hi
    exact h j x hj (by rwa [List.getElem?_append_left hj] at hx) i hi
  · intro i hi
    rw [h1 i hi]; simp
/-- The rows of the tasks that are done. -/
structure Bodies (base g : Nat) (w : World) (ps : List (Value × Tk)) : Prop where
  body : ∀ p ∈ ps, w.ownsRow base 154 6 p.1 p.2.body.length (p.2.body.flatMap encS)
  apart : ps.Pairwise (fun p q => ∀ k, p.1.ownBlock = some k → q.1.ownBlock ≠ some k)
  far : ∀ p ∈ ps, p.1.ownBlock ≠ some g
theorem Bodies.keep {base g : Nat} {w w' : World} {ps : List (Value × Tk)} (h : Bodies base g w ps) (hk : ∀ p ∈ ps, ∀ k, p.1.ownBlock = some k → w'.heap[k]? = w.heap[k]?) : Bodies base g w' ps :=
  ⟨fun p hp => own_keep (h.body p hp) (hk p hp), h.apart, h.far⟩
theorem Bodies.set {base g j : Nat} {w : World} {ps : List (Value × Tk)} (h : Bodies base g w ps) (u : Value) : Bodies base g (w.setCell ⟨g, j, none⟩ u) ps :=
  h.keep (fun p hp k hk => Below.heap_setCell _ _ _ _ (fun e => h.far p hp (by rw [hk, e])))
theorem Bodies.bel {base g : Nat} {w w' : World} {ps : List (Value × Tk)} (h : Bodies base g w ps) (hb : Bel w w') : Bodies base g w' ps :=
  h.keep (fun p hp k hk => hb.out.block k ((h.body p hp).lt k hk).2)
theorem Bodies.snoc {base g : Nat} {w w' : World} {ps : List (Value × Tk)} {q : Value × Tk} (h : Bodies base g w ps) (hb : Bel w w') (hq : w'.ownsRow w.heap.size 154 6 q.1 q.2.body.length (q.2.body.flatMap encS)) (hbase : base ≤ w.heap.size) (hg : g < w.heap.size) : Bodies base g w' (ps ++ [q]) := by
  have h' := h.bel hb
  refine ⟨?_, ?_, ?_⟩
  · intro p hp
    rcases List.mem_append.1 hp with hp | hp
    · exact h'.body p hp
    · rw [List.mem_singleton.1 hp]; exact own_raise hq (fun k hk => Nat.le_trans hbase (hq.lt k hk).1)
  · rw [List.pairwise_append]
    refine ⟨h.apart, List.pairwise_singleton _ _, ?_⟩
    intro p hp q' hq' k hk e
    rw [List.mem_singleton.1 hq'] at e
    have h1 := ((h.body p hp).lt k hk).2
    have h2 := (hq.lt k e).1
    omega
  · intro p hp
    rcases List.mem_append.1 hp with hp | hp
    · exact h.far p hp
    · rw [List.mem_singleton.1 hp]; intro e; have := (hq.lt g e).1; omega
set_option maxHeartbeats 4000000 in
theorem toTaskS_any (A : Option Addr) (xs : List Tk) (c : Nat) (w : World) (ha : RdT w A xs) (hs : small xs) (hsz : xs.length ≤ 1099511627776) : Calls Tryz.prog 38 #[.slice A xs.length c] w (MkT xs w) := by
  have hlen := RdL.len ha
  have HA := Hd.mk ha
  have HS := Hd.mk hs
  clear ha hs
  have hmk := make_run (P := Tryz.prog) 33 121 (.agg #[.slice none 0 0, .int .i64 0, .int .i64 0, .int .i64 0]) 4 48 Tryz.underlying33 infoT xs.length (by omega) (by omega)
  go_enter Tryz.func38, Tryz.ntmps38
  go_wp2
  clear hmk
  have hb0 : Bel w (w.alloc (.cells (madeCells #[.slice none 0 0, .int .i64 0, .int .i64 0, .int .i64 0] (xs.length * 4)) 121)) := (Bel.refl w).alloc _
  have ho0 := Hd.mk (own_made w w.heap.size 121 #[.slice none 0 0, .int .i64 0, .int .i64 0, .int .i64 0] 4 xs.length (Nat.le_refl _) (by omega))
  go_loopw [4] (fun i wr => ∃ k : Nat, k ≤ xs.length ∧ i = .int .i64 k ∧ Bel w wr ∧ w.heap.size < wr.heap.size ∧ Hd (∃ cells ps, wr.ownsRow w.heap.size 121 4 (.slice (some ⟨w.heap.size, 0, none⟩) xs.length xs.length) xs.length cells ∧ ps.length = k ∧ ps.map (·.2) = xs.take k ∧ Filled encP 4 ps cells k ∧ Bodies w.heap.size w.heap.size wr ps)) (fun i _ => xs.length - (intOf i).toNat)
  case atStart => exact ⟨0, Nat.zero_le _, rfl, hb0, by simp, ⟨_, [], ho0.out, rfl, rfl, filled_zero _ _ _ _, ⟨by simp, List.Pairwise.nil, by simp⟩⟩⟩
  case round =>
    obtain ⟨k, hk, rfl, HBL, hgz, ⟨cells, ps, hown, hpl, hpm, hfil, hbod⟩⟩ := hrel
    have HO := Hd.mk hown
    have HF := Hd.mk hfil
    have HPL := Hd.mk hpl
    have HPM := Hd.mk hpm
    have HBD := Hd.mk hbod
    clear hown hfil hpl hpm hbod hb0 ho0
    by_cases hlt : k < xs.length
    · obtain ⟨b, off, B, c', rfl, hcc, HB, c0, c1, c2, c3⟩ := (RdT.bel HA.out HBL).atT k hlt
      have hsm := HS.out xs[k] (List.getElem_mem _)
      go_wp2_with (go_at_call 78; refine (toTask_any B xs[k] c' _ HB.out hsm).mono ?_; rintro e w' ⟨v, rfl, hvo, hb⟩; obtain ⟨A', c2', rfl, hcc2⟩ := own_shape hvo; replace hvo := Hd.mk hvo; have HO2 := Hd.mk (own_bel HO.out hb); obtain ⟨v0, v1, v2, v3, q0, q1, q2, q3, z0, z1, z2, z3⟩ := own_four HO2.out k hlt)
      go_roundw
      case rel =>
        have hl : cells.length = xs.length * 4 := HO.out.1
        have hl4 : k * 4 + 3 < cells.length := by omega
        have hbl := HBL.trans hb
        have hsz2 := hb.size
        have e := HPL.out
        subst e
        refine ⟨ps.length + 1, by omega, by go_num, ?_, ?_, ⟨_, ps ++ [(.slice A' xs[ps.length].body.length c2', xs[ps.length])], (((((HO2.out.stored (ps.length * 4) _).1.stored (ps.length * 4 + 1) _).1.stored (ps.length * 4 + 2) _).1.stored (ps.length * 4 + 3) _).1), by simp, ?_, filledP_snoc HF.out ?_ ?_, ?_⟩⟩
        · repeat (first | exact hbl | (with_reducible refine Bel.set ?_ (Nat.le_refl _) _))
        · simp; omega
        · rw [List.map_append, HPM.out, List.take_succ_eq_append_getElem hlt]; rfl
        · intro i hi
          have hi4 : i = 0 ∨ i = 1 ∨ i = 2 ∨ i = 3 := by omega
          rcases hi4 with rfl | rfl | rfl | rfl <;> simp [encP, List.getElem?_set, hl] <;> omega
        · intro p hp
          simp only [List.getElem?_set, List.length_set]
          repeat (rw [if_neg (by omega)])
        · exact ((((HBD.out.snoc (q := (.slice A' xs[ps.length].body.length c2', xs[ps.length])) hb hvo.out (by omega) hgz).set _).set _).set _).set _
      case measure => simp [intOf]; omega
    · have e : k = xs.length := by omega
      subst e
      have hfin := Hd.mk (filledP_all (by rw [HPL.out]; exact HF.out) (by rw [HPL.out]; exact HO.out.1))
      go_wp2
      go_ret
      refine ⟨_, ps, rfl, by rw [HPM.out, List.take_length], ⟨by rw [HPL.out, ← hfin.out]; exact HO.out, HBD.out.body, HBD.out.apart, fun p hp k hk => ?_⟩, HBL⟩
      cases hk; exact HBD.out.far p hp
end Go.Proofs.YtgodbldchaonpaaGreat

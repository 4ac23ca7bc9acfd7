/- Copies of tasks and programs. No condition. -/
import Derived.Test.YtgodbldchaonpaaGreatNN
import Derived.Deep.DeepCutAuto
import Derived.Deep.RegionLaw
namespace Go.Proofs.YtgodbldchaonpaaGreat
open Go.RowKit
set_option linter.unusedVariables false
set_option linter.unusedSimpArgs false
set_option maxRecDepth 100000
theorem Bx.new' (w : World) (t : TypeId) (cs : Array Value) (g : Nat) (h : g = w.heap.size) : Bx (w.alloc (.cells cs t)) g t cs := by subst h; exact Bx.new w t cs
theorem Bx.grownB {w W w' : World} {g : Nat} {t : TypeId} {cs : Array Value} {row : Option Nat} (h : Bx w g t cs) (hg : W.grownBy w' row) (hb : Bel w W) (hr : row ≠ some g) : Bx w' g t cs := (h.bel hb).grown hg hr
theorem Bel.grownB {w W w' : World} {row : Option Nat} (hg : W.grownBy w' row) (hb : Bel w W) (hr : ∀ k, row = some k → w.heap.size ≤ k) : Bel w w' := Bel.of_grown hb hg hr
set_option maxHeartbeats 1000000 in
theorem CloneS_any (A : Option Addr) (xs : List St) (c : Nat) (w : World) (ha : RdS w A xs) (hs : xs.length ≤ 1099511627776) : Calls Tryz.prog 155 #[.slice A xs.length c] w (Mk encS 154 6 xs w) := by
  have hlen := ha.len
  have HA := Hd.mk ha
  cases A with
  | none =>
    have hx : xs = [] := by
      cases xs with
      | nil => rfl
      | cons x r => obtain ⟨_, _, _, h, _⟩ := ha.2 0 (by simp); cases h
    subst hx
    clear ha
    have h1 := @Lib.run_eql_slice_nil
    go_enter Tryz.func155, Tryz.ntmps155
    go_wp2
    go_ret
    exact ⟨_, rfl, own_nil _ _ _ _, Bel.refl _⟩
  | some a =>
    clear ha
    have h1 := @Lib.run_eql_slice_nil
    go_enter Tryz.func155, Tryz.ntmps155
    go_wp2_with (at_builtin; refine app_row encS 6 encS_ok (by decide) w.heap.size rfl _ _ 119 154 (.agg #[.int .i64 0, .int .i64 0, .int .i64 0, .int .i64 0, .int .i64 0, .int .i64 0]) 48 rfl Tryz.underlying119 infoS rfl (by decide) _ [] xs _ _ rfl rfl (own_lit0 w w.heap.size _ _ (Nat.le_refl _)) (HA.out.bel (by repeat (first | exact Bel.refl _ | assumption | apply Bel.alloc | apply Bel.drewN | apply Bel.drew | (refine Bel.trans ?_ (by assumption))))) (by simp) (by simp only [List.length_nil]; omega) ?_; intro v1 w1 hown hg hat; replace hown := Hd.mk hown; replace hg := Hd.mk hg; clear hat)
    go_ret
    exact ⟨_, rfl, hown.out, Bel.of_grown ((Bel.refl w).alloc _) hg.out (by intro k hk; cases hk; exact Nat.le_refl _)⟩
set_option maxHeartbeats 4000000 in
theorem copyTask_any (B : Option Addr) (t : Tk) (c : Nat) (w : World) (ha : RdS w B t.body) (hs : t.body.length ≤ 1099511627776) : Calls Tryz.prog 142 #[.agg #[.slice B t.body.length c, .int .i64 t.op, .int .i64 t.a, .int .i64 t.b]] w (MkTk t w) := by
  have HA := Hd.mk ha
  clear ha
  go_enter Tryz.func142, Tryz.ntmps142
  go_wp2_with fail
  refine (CloneS_any B t.body c _ (HA.out.bel (by repeat (first | (with_reducible exact Bel.refl _) | (with_reducible assumption) | (with_reducible apply Bel.alloc) | (with_reducible apply Bel.drewN) | (with_reducible apply Bel.drew) | (with_reducible refine Bel.set ?_ (by simp <;> omega) _) | (refine Bel.trans ?_ (by with_reducible assumption))))) hs).mono ?_
  rintro e w' ⟨v, rfl, hown, hb⟩
  obtain ⟨A', c', rfl, hcc⟩ := own_shape hown
  have X1 := Hd.mk (((Bx.new w 121 #[.slice B t.body.length c, .int .i64 t.op, .int .i64 t.a, .int .i64 t.b]).alloc _).bel hb)
  have X2 := Hd.mk ((Bx.new' _ 121 #[.slice none 0 0, .int .i64 0, .int .i64 0, .int .i64 0] (w.heap.size + 1) (by simp)).bel hb)
  have x1 := X1.out.cell
  have f1 := X1.out.frz
  have x2 := X2.out.cell
  have f2 := X2.out.frz
  have hz := hb.size
  simp at hz
  replace hown := Hd.mk hown
  replace hb := Hd.mk hb
  go_wp2
  have hlo := fun k hk => (hown.out.lt k hk).1
  have hne : ∀ g, g ≤ w.heap.size + 1 → (Value.slice A' t.body.length c').ownBlock ≠ some g := fun g hg e => by have := hlo g e; simp at this; omega
  replace hown := Hd.mk (own_raise (b' := w.heap.size) hown.out (fun k hk => by have := hlo k hk; simp at this; omega))
  refine bodyPost_ret (v := .agg #[.slice A' t.body.length c', .int .i64 t.op, .int .i64 t.a, .int .i64 t.b]) ?_ rfl ⟨_, rfl, ?_, ?_⟩
  · simp [results, Tryz.results142, go_sem, x1, x2]
  · repeat (first | (with_reducible exact hown.out) | (with_reducible refine World.ownsRow.alloc ?_ _) | (with_reducible refine own_far ?_ _ (hne _ (by simp <;> omega))))
  · have hb1 := hb.out
    repeat (first | (with_reducible exact Bel.refl _) | (with_reducible assumption) | (with_reducible apply Bel.alloc) | (with_reducible apply Bel.drewN) | (with_reducible apply Bel.drew) | (with_reducible refine Bel.set ?_ (by simp <;> omega) _) | (refine Bel.trans ?_ (by with_reducible assumption)))
/-- A task more at the end of a row of tasks. -/
theorem OwT.snoc {lo : Nat} {w0 w w1 : World} {v v1 : Value} {ps : List (Value × Tk)} {q : Value × Tk} {n H : Nat} (h : OwT lo w0 v ps) (hb : Bel w0 w) (hq : w.ownsRow w0.heap.size 154 6 q.1 q.2.body.length (q.2.body.flatMap encS)) (hlo : lo ≤ w0.heap.size)
    (hn : n = (ps ++ [q]).length) (hr : w1.ownsRow lo 121 4 v1 n (ps.flatMap encP ++ encP q)) (hg : w.grownBy w1 v.ownBlock) (hat : v1.ownBlock = v.ownBlock ∨ v1.ownBlock = some H) (hH : w.heap.size ≤ H) : OwT lo w1 v1 (ps ++ [q]) := by
  have h' := h.bel hb
  have hqv : ∀ k, q.1.ownBlock = some k → v.ownBlock ≠ some k := fun k hk e => by have := (h.row.lt k e).2; have := (hq.lt k hk).1; omega
  have hpv : ∀ p ∈ ps, ∀ k, p.1.ownBlock = some k → v.ownBlock ≠ some k := fun p hp k hk e => h.far p hp k e hk
  refine ⟨?_, ?_, ?_, ?_⟩
  · rw [List.flatMap_append, List.flatMap_cons, List.flatMap_nil, List.append_nil, ← hn]; exact hr
  · intro p hp
    rcases List.mem_append.1 hp with hp | hp
    · exact own_grown (h'.body p hp) hg (hpv p hp)
    · rw [List.mem_singleton.1 hp]; exact own_grown (own_raise hq (fun k hk => Nat.le_trans hlo (hq.lt k hk).1)) hg hqv
  · rw [List.pairwise_append]
    refine ⟨h.apart, List.pairwise_singleton _ _, ?_⟩
    intro p hp q' hq' k hk e
    rw [List.mem_singleton.1 hq'] at e
    have h1 := ((h.body p hp).lt k hk).2
    have h2 := (hq.lt k e).1
    omega
  · intro p hp k hk e
    have hold : v.ownBlock = some k → False := by
      intro hv
      rcases List.mem_append.1 hp with hp | hp
      · exact hpv p hp k e hv
      · rw [List.mem_singleton.1 hp] at e; exact hqv k e hv
    rcases hat with hat | hat
    · exact hold (hat ▸ hk)
    · have hk' : k = H := by rw [hat] at hk; exact (Option.some.inj hk).symm
      rcases List.mem_append.1 hp with hp | hp
      · have := ((h'.body p hp).lt k e).2; omega
      · rw [List.mem_singleton.1 hp] at e; have := (hq.lt k e).2; omega
set_option maxHeartbeats 4000000 in
theorem copyProgram_any (A : Option Addr) (ts : List Tk) (c : Nat) (w : World) (ha : RdT w A ts) (hs : small ts) (hsz : ts.length ≤ 1099511627776) : Calls Tryz.prog 105 #[.agg #[.slice A ts.length c]] w (MkPr ts w) := by
  have hlen := RdL.len ha
  have HA := Hd.mk ha
  have HS := Hd.mk hs
  clear ha hs
  obtain ⟨i0, hi0, hz0, hz1, hz2⟩ := info_parts infoT
  go_enter Tryz.func105, Tryz.ntmps105
  go_wp2_with fail
  go_loopw [10] (fun i wr => ∃ k : Nat, k ≤ ts.length ∧ i = .int .i64 k ∧ Bel w wr ∧ w.heap.size + 3 ≤ wr.heap.size ∧ Hd (Bx wr (w.heap.size + 1) 35 #[.slice none 0 0]) ∧ Hd (∃ v ps, Bx wr (w.heap.size + 1 + 1) 35 #[v] ∧ ps.length = k ∧ ps.map (·.2) = ts.take k ∧ OwT (w.heap.size + 3) wr v ps)) (fun i _ => ts.length - (intOf i).toNat)
  case atStart => exact ⟨0, Nat.zero_le _, rfl, (by repeat (first | (with_reducible exact Bel.refl _) | (with_reducible assumption) | (with_reducible apply Bel.alloc) | (with_reducible apply Bel.drewN) | (with_reducible apply Bel.drew) | (with_reducible refine Bel.set ?_ (by simp <;> omega) _) | (refine Bel.trans ?_ (by with_reducible assumption)))), (by simp), ⟨(Bx.new' _ _ _ _ (by simp)).alloc _⟩, ⟨_, [], Bx.new' _ _ _ _ (by simp), rfl, rfl, ⟨own_nil _ _ _ _, by simp, List.Pairwise.nil, by simp⟩⟩⟩
  case round =>
    obtain ⟨k, hk, rfl, HBL, hsz3, X1, ⟨v, ps, hx2, hpl, hpm, hot⟩⟩ := hrel
    have X2 := Hd.mk hx2
    have HPL := Hd.mk hpl
    have HPM := Hd.mk hpm
    have HOT := Hd.mk hot
    clear hx2 hpl hpm hot
    by_cases hlt : k < ts.length
    · obtain ⟨b, off, B, c', rfl, hcc, HB, c0, c1, c2, c3⟩ := (RdT.bel HA.out HBL).atT k hlt
      have hsm := HS.out ts[k] (List.getElem_mem _)
      go_wp2_with fail
      obtain ⟨W1, hW, X3, hb1, hs1⟩ : ∃ W1, W1 = wr.alloc (.cells #[.slice B ts[k].body.length c', .int .i64 ts[k].op, .int .i64 ts[k].a, .int .i64 ts[k].b] 121) ∧ Hd (Bx W1 wr.heap.size 121 #[.slice B ts[k].body.length c', .int .i64 ts[k].op, .int .i64 ts[k].a, .int .i64 ts[k].b]) ∧ Bel wr W1 ∧ W1.heap.size = wr.heap.size + 1 := ⟨_, rfl, ⟨Bx.new _ _ _⟩, (Bel.refl _).alloc _, by simp⟩
      rw [← hW]
      clear hW
      have d2 := (X2.out.bel hb1).cell
      have g2 := (X2.out.bel hb1).frz
      have d3 := X3.out.cell
      have hlw : wr.heap.size < W1.heap.size := by omega
      go_region_law (first
        | (go_simp; go_at_call 142; refine (copyTask_any B ts[k] c' _ (HB.out.bel (by repeat (first | (with_reducible exact Bel.refl _) | (with_reducible assumption) | (with_reducible apply Bel.alloc) | (with_reducible apply Bel.drewN) | (with_reducible apply Bel.drew) | (with_reducible refine Bel.set ?_ (by simp <;> omega) _) | (refine Bel.trans ?_ (by with_reducible assumption))))) hsm).mono ?_; rintro e w2 ⟨v2, rfl, hvo, hb2⟩; obtain ⟨A2, c2, rfl, hcc2⟩ := own_shape hvo; replace hvo := Hd.mk hvo; have y2 := (X2.out.bel (w' := w2) (by repeat (first | (with_reducible exact Bel.refl _) | (with_reducible assumption) | (with_reducible apply Bel.alloc) | (with_reducible apply Bel.drewN) | (with_reducible apply Bel.drew) | (with_reducible refine Bel.set ?_ (by simp <;> omega) _) | (refine Bel.trans ?_ (by with_reducible assumption))))).cell; have l2 := (X2.out.bel (w' := w2) (by repeat (first | (with_reducible exact Bel.refl _) | (with_reducible assumption) | (with_reducible apply Bel.alloc) | (with_reducible apply Bel.drewN) | (with_reducible apply Bel.drew) | (with_reducible refine Bel.set ?_ (by simp <;> omega) _) | (refine Bel.trans ?_ (by with_reducible assumption))))).lt; have n2 := Nat.ne_of_lt l2)
        | (refine step_append_lies _ (by rfl) (.tmp 15) (.tmp 18) 33 (by rfl) (w.heap.size + 3) 121 i0 _ 4 48 Tryz.underlying33 hi0 hz0 hz1 hz2 rfl (by omega) v ps.length (ps.flatMap encP) (by rfl) ((HOT.out.bel (by repeat (first | (with_reducible exact Bel.refl _) | (with_reducible assumption) | (with_reducible apply Bel.alloc) | (with_reducible apply Bel.drewN) | (with_reducible apply Bel.drew) | (with_reducible refine Bel.set ?_ (by simp <;> omega) _) | (refine Bel.trans ?_ (by with_reducible assumption))))).row) ⟨w2.heap.size, 0, none⟩ 1 1 (encP (.slice A2 ts[k].body.length c2, ts[k])) (by rfl) (by rfl) (World.news_of_block (cs := #[.slice A2 ts[k].body.length c2, .int .i64 ts[k].op, .int .i64 ts[k].a, .int .i64 ts[k].b]) (t := 121) (fr := (0, 0)) (heap_alloc_new w2 _)) (by simp [encP, Value.oneCell']) (by omega) (by have := HPL.out; simp only [maxLen]; omega) (by have := HPL.out; omega) (by have := hb2.size; simp at this ⊢; omega) _ rfl ?_; intro gg cap w4 hown4 hgrow4 hat4 hlt4; have X5 := Hd.mk (X2.out.grownB hgrow4 (by repeat (first | (with_reducible exact Bel.refl _) | (with_reducible assumption) | (with_reducible apply Bel.alloc) | (with_reducible apply Bel.drewN) | (with_reducible apply Bel.drew) | (with_reducible refine Bel.set ?_ (by simp <;> omega) _) | (refine Bel.trans ?_ (by with_reducible assumption)))) (own_bx HOT.out.row (by omega))); have X6 := Hd.mk (X1.out.grownB hgrow4 (by repeat (first | (with_reducible exact Bel.refl _) | (with_reducible assumption) | (with_reducible apply Bel.alloc) | (with_reducible apply Bel.drewN) | (with_reducible apply Bel.drew) | (with_reducible refine Bel.set ?_ (by simp <;> omega) _) | (refine Bel.trans ?_ (by with_reducible assumption)))) (own_bx HOT.out.row (by omega))); have y4 := X5.out.cell; have z4 := X5.out.frz; replace hown4 := Hd.mk hown4; replace hgrow4 := Hd.mk hgrow4; replace hat4 := Hd.mk hat4))
      all_goals
        go_wp2
        go_roundw
        case rel =>
          refine ⟨k + 1, by omega, by go_num, ?_, ?_, ⟨X6.out.far _ (by omega)⟩, ⟨_, ps ++ [(.slice A2 ts[k].body.length c2, ts[k])], X5.out.set1 _, ?_, ?_, ?_⟩⟩
          · exact (Bel.grownB hgrow4.out (HBL.trans (by repeat (first | (with_reducible exact Bel.refl _) | (with_reducible assumption) | (with_reducible apply Bel.alloc) | (with_reducible apply Bel.drewN) | (with_reducible apply Bel.drew) | (with_reducible refine Bel.set ?_ (by simp <;> omega) _) | (refine Bel.trans ?_ (by with_reducible assumption))))) (fun k hk => by have := (HOT.out.row.lt k hk).1; omega)).set (by simp; omega) _
          · have := X5.out.lt; simp; omega
          · rw [List.length_append, HPL.out]; rfl
          · rw [List.map_append, HPM.out, List.take_succ_eq_append_getElem hlt]; rfl
          · refine OwT.set (OwT.snoc (w0 := W1.drew) (hg := hgrow4.out) (HOT.out.bel (by repeat (first | (with_reducible exact Bel.refl _) | (with_reducible assumption) | (with_reducible apply Bel.alloc) | (with_reducible apply Bel.drewN) | (with_reducible apply Bel.drew) | (with_reducible refine Bel.set ?_ (by simp <;> omega) _) | (refine Bel.trans ?_ (by with_reducible assumption))))) (by repeat (first | (with_reducible exact Bel.refl _) | (with_reducible assumption) | (with_reducible apply Bel.alloc) | (with_reducible apply Bel.drewN) | (with_reducible apply Bel.drew) | (with_reducible refine Bel.set ?_ (by simp <;> omega) _) | (refine Bel.trans ?_ (by with_reducible assumption)))) (own_bel hvo.out ((Bel.refl _).alloc _)) (by simp; omega) (by simp) hown4.out ?_ (Nat.le_refl _)) _ (by omega)
            rcases hat4.out with h | h
            · exact .inl (by rw [h]; rfl)
            · exact .inr (by rw [h]; rfl)
        case measure => simp [intOf]; omega
    · obtain ⟨A3, c3, rfl, hcc3⟩ := HOT.out.shape
      have d1 := X1.out.cell
      have g1 := X1.out.frz
      have d2 := X2.out.cell
      have l1 := X1.out.lt
      have hfin : Hd (ps.map (·.2) = ts) := ⟨by rw [HPM.out, List.take_of_length_le (by omega)]⟩
      go_wp2
      refine bodyPost_ret (v := .agg #[.slice A3 ps.length c3]) ?_ rfl ⟨_, ps, rfl, hfin.out, OwT.lower (lo := w.heap.size + 3) ?_ (by omega), ?_⟩
      · simp [results, Tryz.results105, go_sem, l1, d1]
      · exact HOT.out.set _ (by omega)
      · exact HBL.set (by simp) _
theorem run_app_row {α : Type} {P : Program} (W : World) (enc : α → List Value) (sz : Nat) (he : EncOk enc sz) (hs0 : 0 < sz) (base : Nat) (t ty e : TypeId) (z : Value) (bytes : Nat)
    (ht : P.underlying t = some (.slice e)) (hinfo : (P.info? e).map (fun i => (i.zero, i.size, i.bytes)) = some (some z, sz, bytes)) (hz : z.cells.size = sz) (hb0 : 0 < bytes)
    (v : Value) (xs ys : List α) (A : Option Addr) (c : Nat) (HO : W.ownsRow base e sz v xs.length (xs.flatMap enc)) (HR : RdF enc sz W A ys) (hbase : base ≤ W.heap.size) (hl : (xs.length + ys.length) * bytes ≤ 140737488355328) :
    ∃ v1 w1, (Builtin.append_ #[t, t] ty #[v, .slice A ys.length c]).run P W = .ok v1 w1 ∧ w1.ownsRow base e sz v1 (xs ++ ys).length ((xs ++ ys).flatMap enc) ∧ W.grownBy w1 v.ownBlock ∧ (v1.ownBlock = v.ownBlock ∨ v1.ownBlock = some W.heap.size) := by
  obtain ⟨i0, hi, hzz⟩ := Option.map_eq_some_iff.1 hinfo
  simp only [Prod.mk.injEq] at hzz
  obtain ⟨hz0, hz1, hz2⟩ := hzz
  have hlen : xs.length + ys.length ≤ 140737488355328 := Nat.le_trans (Nat.le_mul_of_pos_right _ hb0) hl
  by_cases hy : ys = []
  · subst hy
    rcases A with _ | ad
    · refine ⟨v, W, ?_, by simpa using HO, World.grownBy.refl W _, .inl rfl⟩
      rcases HO.2 with ⟨rfl, hn⟩ | ⟨g, cap, cur, rfl, _, _, hnc, _⟩
      · simp [Builtin.append_, run_underlying ht, Go.sizeOf, typeInfo, hi, Builtin.lenOf, Builtin.firstCells]
      · simp [Builtin.append_, run_underlying ht, Go.sizeOf, typeInfo, hi, Builtin.lenOf, Builtin.firstCells, hnc, storeCells]
    · obtain ⟨v1, w1, hr, h2, h3, _, h5⟩ := run_append_own_at (P := P) W base t ty e i0 z sz bytes ht hi hz0 hz1 hz2 hz hs0 v xs.length (xs.flatMap enc) HO ad 0 c [] (by simp) (by simp) (by simp) (by simp only [maxLen]; omega) (by simpa using hl) hbase
      exact ⟨v1, w1, by simpa using hr, by simpa using h2, h3, h5⟩
  · obtain ⟨b, off, rfl, hc⟩ := HR.flat he hs0 hy
    obtain ⟨v1, w1, hr, h2, h3, _, h5⟩ := run_append_own_at (P := P) W base t ty e i0 z sz bytes ht hi hz0 hz1 hz2 hz hs0 v xs.length (xs.flatMap enc) HO ⟨b, off, none⟩ ys.length c (ys.flatMap enc) (flat_len he ys) hc (flat_one he ys) (by simp only [maxLen]; omega) hl hbase
    exact ⟨v1, w1, hr, by simpa [List.flatMap_append] using h2, h3, h5⟩
/-- At a step of a region that draws its order. -/
theorem step_app_row {α : Type} {P : Program} {W : World} {ops : Array Oper} {o : Oper} {a : Act} {K : Act → World → Prop} {Q : Exit → Act → World → Prop} {E : Prop} (enc : α → List Value) (sz : Nat) (he : EncOk enc sz) (hs0 : 0 < sz)
    (base : Nat) (hgd : o.guard = none) (s x : Operand) (t e : TypeId) (z : Value) (bytes : Nat) (ho : o.op = .call { callee := .builtin .append, args := #[s, x], argTypes := #[t, t] })
    (ht : P.underlying t = some (.slice e)) (hinfo : (P.info? e).map (fun i => (i.zero, i.size, i.bytes)) = some (some z, sz, bytes)) (hz : z.cells.size = sz) (hb0 : 0 < bytes)
    (v : Value) (xs ys : List α) (A : Option Addr) (c : Nat) (hs : a.eval s = v) (hx : a.eval x = .slice A ys.length c)
    (HO : W.ownsRow base e sz v xs.length (xs.flatMap enc)) (HR : RdF enc sz W A ys) (hbase : base ≤ W.heap.size) (hl : (xs.length + ys.length) * bytes ≤ 140737488355328)
    (h : ∀ v1 w1, w1.ownsRow base e sz v1 (xs ++ ys).length ((xs ++ ys).flatMap enc) → W.grownBy w1 v.ownBlock → (v1.ownBlock = v.ownBlock ∨ v1.ownBlock = some W.heap.size) → K (a.put o.dst v1) w1) :
    if Region.wanted o (yielded ops a.tmps) = true then Oper.wp P o a W K Q else E := by
  have hw : Region.wanted o (yielded ops a.tmps) = true := by simp [Region.wanted, hgd]
  rw [if_pos hw]
  obtain ⟨v1, w1, hr, h2, h3, h4⟩ := run_app_row (P := P) W enc sz he hs0 base t o.type e z bytes ht hinfo hz hb0 v xs ys A c HO HR hbase hl
  unfold Oper.wp execOp
  simp only [ho, resolve, invoke, builtin, Sem.run_bind, Sem.run_pure, Result.andThen_ok, List.map_toArray, List.map_cons, List.map_nil, hs, hx, hr]
  exact h v1 w1 h2 h3 h4
theorem Chg.drew {S : Nat → Prop} {a b : World} (h : Chg S a b) : Chg S a b.drew := h.bel ((Bel.refl b).drew)
theorem Chg.grown {S : Nat → Prop} {a b c : World} {row : Option Nat} (h : Chg S a b) (hg : b.grownBy c row) (hr : ∀ k, row = some k → S k) : Chg S a c :=
  h.trans ⟨hg.os, hg.tape, hg.output, hg.size, fun k hk hn => hg.block k hk (fun e => hn (hr k e.symm))⟩
theorem Chg.cellB {S : Nat → Prop} {W W' : World} (hc : Chg S W W') {g : Nat} {t : TypeId} {cs : Array Value} (h : Bx W g t cs) (hn : ¬ S g) : Bx W' g t cs := h.chg hc hn
theorem Chg.cell4 {S : Nat → Prop} {W W' : World} (hc : Chg S W W') {p : Addr} {v : Value} (h : W.cell? p = some v) (hn : ¬ S p.block) : W'.cell? p = some v :=
  (World.cell?_of_block (hc.block _ (World.block_lt_of_cell? _ _ h) hn)).trans h
end Go.Proofs.YtgodbldchaonpaaGreat

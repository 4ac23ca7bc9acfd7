/- Values under new rules; a memory handed on. No condition. -/
import Derived.Test.YtgodbldchaonpaaGreatRM
import Derived.Test.YtgodbldchaonpaaGreatNC
namespace Go.Proofs.YtgodbldchaonpaaGreat
open Go.RowKit
set_option linter.unusedVariables false
set_option linter.unusedSimpArgs false
set_option maxRecDepth 100000
theorem map_take_succ {α β : Type} (f : α → β) {xs : List α} {k : Nat} (h : k < xs.length) : (xs.take (k + 1)).map f = (xs.take k).map f ++ [f xs[k]] := by
  rw [List.take_succ_eq_append_getElem h, List.map_append]; rfl
theorem evalE_yes {vars : List Int} {e : Ex} (hv : varsOk vars = true) (he : exOk e = true) : evalE vars e = evalX vars e := by unfold evalE; rw [hv, he]; rfl
theorem rules_at {es : List Ex} (h : rulesOk es = true) (j : Nat) (hj : j < es.length) : exOk es[j] = true := by
  unfold rulesOk at h
  simp only [Bool.and_eq_true] at h
  exact List.all_eq_true.1 h.2 _ (List.getElem_mem hj)
theorem rules_len {es : List Ex} (h : rulesOk es = true) : es.length = 8 := by
  unfold rulesOk at h
  simp only [Bool.and_eq_true] at h
  exact of_decide_eq_true h.1
set_option maxHeartbeats 4000000 in
theorem Migrate_any (V E : Option Addr) (vars : List Int) (es : List Ex) (cv ce : Nat) (w : World) (hv : RdI w V vars) (he : RdX w E es) (h1 : varsOk vars = true) (h2 : rulesOk es = true) :
    Calls Tryz.prog 43 #[.slice V vars.length cv, .agg #[.slice E es.length ce]] w (MkP (es.map (evalE vars)) true w) := by
  have HV := Hd.mk hv
  have HE := Hd.mk he
  have hvc := fun W h => VarsOk_any V vars cv W h
  rw [h1] at hvc
  have hrc := fun W h => RulesOk_any E es ce W h
  rw [h2] at hrc
  have HL := Hd.mk (rules_len h2)
  clear hv he h1 h2
  go_enter Tryz.func43, Tryz.ntmps43
  go_wp2_with fail
  obtain ⟨W0, hW, Y, hb0⟩ : ∃ W0, W0 = w.alloc (.cells #[.slice E es.length ce] 40) ∧ Hd (Bx W0 w.heap.size 40 #[.slice E es.length ce]) ∧ Bel w W0 := ⟨_, rfl, ⟨Bx.new _ _ _⟩, (Bel.refl _).alloc _⟩
  rw [← hW]
  clear hW
  refine (hvc _ (HV.out.bel hb0)).mono ?_
  rintro r w1 ⟨rfl, hb1⟩
  have x := (Y.out.bel hb1).cell
  have x0 := x 0
  clear x
  go_wp2_with (go_at_call 41; refine (hrc _ (HE.out.bel (hb0.trans hb1))).mono ?_; rintro r w2 ⟨rfl, hb2⟩; have y0 := (Y.out.bel (hb1.trans hb2)).cell 0; have l0 := (Y.out.bel (hb1.trans hb2)).lt)
  have B2 : Bel w w2 := (hb0.trans hb1).trans hb2
  have hl8 : es.length ≤ 8 := by rw [HL.out]; decide
  go_loopw [6, 21] (fun v i wr => ∃ k : Nat, k ≤ es.length ∧ i = .int .i64 k ∧ Bel w wr ∧ Hd (wr.ownsRow w.heap.size 3 1 v ((es.take k).map (evalE vars)).length (((es.take k).map (evalE vars)).flatMap encI))) (fun _ i _ => es.length - (intOf i).toNat)
  case atStart => exact ⟨0, Nat.zero_le _, rfl, (by repeat (first | (with_reducible exact Bel.refl _) | (with_reducible assumption) | (with_reducible apply Bel.alloc) | (with_reducible apply Bel.drewN) | (with_reducible apply Bel.drew) | (with_reducible refine Bel.set ?_ (by simp <;> omega) _) | (refine Bel.trans ?_ (by with_reducible assumption)))), ⟨own_lit0 _ _ _ _ B2.size⟩⟩
  case round =>
    obtain ⟨k, hk, rfl, HBL, HO⟩ := hrel
    by_cases hlt : k < es.length
    · obtain ⟨b, off, rfl, c0, c1, c2⟩ := (HE.out.bel HBL).atX k hlt
      have hbz : b < wr.heap.size := World.block_lt_of_cell? _ _ c0
      have hst := Hd.mk (map_take_succ (evalE vars) hlt)
      have hln : ((es.take k).map (evalE vars)).length = k := by rw [List.length_map, List.length_take]; omega
      have hcall := fun W (h : Bel wr W) => EvalExpr_any V vars cv es[k] W (HV.out.bel (HBL.trans h))
      generalize evalE vars es[k] = z at *
      generalize (es.take k).map (evalE vars) = zs at *
      go_wp2_with (first
        | (go_at_call 90; refine (hcall _ (by repeat (first | (with_reducible exact Bel.refl _) | (with_reducible assumption) | (with_reducible apply Bel.alloc) | (with_reducible apply Bel.drewN) | (with_reducible apply Bel.drew) | (with_reducible refine Bel.set ?_ (by simp <;> omega) _) | (refine Bel.trans ?_ (by with_reducible assumption))))).mono ?_; rintro r w3 ⟨rfl, hb3⟩; have hb4 : Bel wr w3 := (by repeat (first | (with_reducible exact Bel.refl _) | (with_reducible assumption) | (with_reducible apply Bel.alloc) | (with_reducible apply Bel.drewN) | (with_reducible apply Bel.drew) | (with_reducible refine Bel.set ?_ (by simp <;> omega) _) | (refine Bel.trans ?_ (by with_reducible assumption)))))
        | (at_builtin; refine app_row' encI 1 encI_ok (by decide) w.heap.size rfl _ _ 25 3 (.int .i64 0) 8 rfl Tryz.underlying25 infoI rfl (by decide) _ zs [z] 1 rfl _ 1 rfl rfl (own_bel HO.out (hb4.alloc _)) (rd_lit1 encI_ok _ _ _ _ rfl) (by have := HBL.size; have := hb4.size; simp; omega) (by rw [hln]; omega) ?_; intro v1 w4 hown1 hg1 hat1; replace hown1 := Hd.mk hown1; replace hg1 := Hd.mk hg1; clear hat1))
      go_roundw
      case rel => exact ⟨k + 1, by omega, by go_num, Bel.of_grown (HBL.trans (hb4.alloc _)) hg1.out (fun k hk => (HO.out.lt k hk).1), ⟨by rw [hst.out]; exact hown1.out⟩⟩
      case measure => simp [intOf]; omega
    · have e := Hd.mk (List.take_of_length_le (show es.length ≤ k by omega))
      go_wp2
      go_ret2
      have := HO.out
      rw [e.out] at this
      exact ⟨_, rfl, this, HBL⟩
set_option maxHeartbeats 4000000 in
theorem sMigrate_any (V E : Option Addr) (vars : List Int) (es : List Ex) (cv ce : Nat) (w : World) (hv : RdI w V vars) (he : RdX w E es) (h1 : varsOk vars = true) (h2 : rulesOk es = true) :
    Calls Tryz.prog 34 #[.slice V vars.length cv, .agg #[.slice E es.length ce]] w (MkP (es.map (evalE vars)) true w) := by
  have HV := Hd.mk hv
  have HE := Hd.mk he
  have hvc := fun W h => sVarsOk_any V vars cv W h
  rw [h1] at hvc
  have hrc := fun W h => sRulesOk_any E es ce W h
  rw [h2] at hrc
  have HL := Hd.mk (rules_len h2)
  have H1 := Hd.mk h1
  have H2 := Hd.mk h2
  clear hv he h1 h2
  go_enter Tryz.func34, Tryz.ntmps34
  go_wp2_with fail
  obtain ⟨W0, hW, Y, hb0, hp⟩ : ∃ W0, W0 = (w.alloc (.cells #[.slice E es.length ce] 40)).alloc (.cells #[] 3) ∧ Hd (Bx W0 w.heap.size 40 #[.slice E es.length ce]) ∧ Bel w W0 ∧ Hd (W0.ownsRow w.heap.size 3 1 (.slice (some ⟨w.heap.size + 1, 0, none⟩) 0 0) 0 []) :=
    ⟨_, rfl, ⟨(Bx.new _ _ _).alloc _⟩, ((Bel.refl _).alloc _).alloc _, ⟨by have := own_lit0 (w.alloc (.cells #[.slice E es.length ce] 40)) w.heap.size 3 1 (by simp); simpa using this⟩⟩
  rw [← hW]
  clear hW
  refine (hvc _ (HV.out.bel hb0)).mono ?_
  rintro r w1 ⟨rfl, hb1⟩
  have x := (Y.out.bel hb1).cell
  have x0 := x 0
  clear x
  go_wp2_with (go_at_call 32; refine (hrc _ (HE.out.bel (hb0.trans hb1))).mono ?_; rintro r w2 ⟨rfl, hb2⟩; have l0 := (Y.out.bel (hb1.trans hb2)).lt)
  have B2 : Bel w w2 := (hb0.trans hb1).trans hb2
  have hl8 : es.length = 8 := HL.out
  replace hl8 := Hd.mk hl8
  go_loopw [6, 7] (fun v i wr => ∃ k : Nat, k ≤ 8 ∧ i = .int .i64 k ∧ Bel w wr ∧ Hd (Bx wr w.heap.size 40 #[.slice E es.length ce]) ∧ Hd (wr.ownsRow (w.heap.size + 1) 3 1 v ((es.take k).map (evalE vars)).length (((es.take k).map (evalE vars)).flatMap encI))) (fun _ i _ => 8 - (intOf i).toNat)
  case atStart => exact ⟨0, Nat.zero_le _, rfl, B2, ⟨Y.out.bel (hb1.trans hb2)⟩, ⟨own_raise (own_bel hp.out (hb1.trans hb2)) (fun k hk => by cases hk; exact Nat.le_refl _)⟩⟩
  case round =>
    obtain ⟨k, hk, rfl, HBL, YB, HO⟩ := hrel
    by_cases hlt : k < 8
    · have hlt' : k < es.length := by rw [hl8.out]; exact hlt
      obtain ⟨b, off, rfl, c0, c1, c2⟩ := (HE.out.bel HBL).atX k hlt'
      have hbz : b < wr.heap.size := World.block_lt_of_cell? _ _ c0
      have yb := YB.out.cell 0
      have hst := Hd.mk (map_take_succ (evalE vars) hlt')
      have hln : ((es.take k).map (evalE vars)).length = k := by rw [List.length_map, List.length_take, hl8.out]; omega
      have hcall := fun W (h : Bel wr W) => l03Eval_any V vars cv es[k] W (HV.out.bel (HBL.trans h)) (varsOk_len H1.out) (rules_at H2.out k hlt')
      rw [← evalE_yes H1.out (rules_at H2.out k hlt')] at hcall
      generalize evalE vars es[k] = z at *
      generalize (es.take k).map (evalE vars) = zs at *
      go_wp2_with (first
        | (go_at_call 77; refine (hcall _ (by repeat (first | (with_reducible exact Bel.refl _) | (with_reducible assumption) | (with_reducible apply Bel.alloc) | (with_reducible apply Bel.drewN) | (with_reducible apply Bel.drew) | (with_reducible refine Bel.set ?_ (by simp <;> omega) _) | (refine Bel.trans ?_ (by with_reducible assumption))))).mono ?_; rintro r w3 ⟨rfl, hb3⟩; have hb4 : Bel wr w3 := (by repeat (first | (with_reducible exact Bel.refl _) | (with_reducible assumption) | (with_reducible apply Bel.alloc) | (with_reducible apply Bel.drewN) | (with_reducible apply Bel.drew) | (with_reducible refine Bel.set ?_ (by simp <;> omega) _) | (refine Bel.trans ?_ (by with_reducible assumption)))))
        | (at_builtin; refine app_row' encI 1 encI_ok (by decide) (w.heap.size + 1) rfl _ _ 25 3 (.int .i64 0) 8 rfl Tryz.underlying25 infoI rfl (by decide) _ zs [z] 1 rfl _ 1 rfl rfl (own_bel HO.out (hb4.alloc _)) (rd_lit1 encI_ok _ _ _ _ rfl) (by have := YB.out.lt; have := hb4.size; simp; omega) (by rw [hln]; omega) ?_; intro v1 w4 hown1 hg1 hat1; replace hown1 := Hd.mk hown1; replace hg1 := Hd.mk hg1; clear hat1))
      go_roundw
      case rel => exact ⟨k + 1, by omega, by go_num, Bel.of_grown (HBL.trans (hb4.alloc _)) hg1.out (fun k hk => by have := (HO.out.lt k hk).1; omega), ⟨(YB.out.bel (hb4.alloc _)).grown hg1.out (fun e => by have := (HO.out.lt _ e).1; omega)⟩, ⟨by rw [hst.out]; exact hown1.out⟩⟩
      case measure => simp [intOf]; omega
    · have e := Hd.mk (List.take_of_length_le (show es.length ≤ k by rw [hl8.out]; omega))
      go_wp2
      go_ret2
      have := HO.out
      rw [e.out] at this
      exact ⟨_, rfl, own_raise this (fun k hk => by have := (this.lt k hk).1; omega), HBL⟩
def migOk (ts : List Tk) (m : List Int) (es : List Ex) : Bool := memOk ts m && rulesOk es
def migD (r vs : List Int) : List Int := (vs ++ r.drop 8).set 8 (pack 0 0 (unpack (at_ r 8)).2.2)
def migMem (ts : List Tk) (m : List Int) (es : List Ex) : List Int := if migOk ts m es = true then migD (recovered m) (es.map (evalE ((recovered m).take 8))) else []
theorem mig_no {ts : List Tk} {m : List Int} {es : List Ex} (h : migOk ts m es = false) : migMem ts m es = [] := by unfold migMem; rw [h]; rfl
theorem mig_yes {ts : List Tk} {m : List Int} {es : List Ex} (h : migOk ts m es = true) : migMem ts m es = migD (recovered m) (es.map (evalE ((recovered m).take 8))) := by unfold migMem; rw [h]; rfl
theorem mig_cell {vs r : List Int} (hv : vs.length = 8) (hr : r.length = 49) : ((vs ++ r.drop 8).flatMap encI)[8]? = some (.int .i64 (at_ r 8)) := by
  rw [flat_mapI, List.getElem?_map, List.getElem?_append_right (by omega), hv, List.getElem?_drop]
  unfold at_
  rw [List.getD_eq_getElem?_getD, List.getElem?_eq_getElem (by omega)]
  rfl
theorem splice_step {vs r : List Int} {k : Nat} (hv : k < vs.length) (hr : k < r.length) : (vs.take k ++ r.drop k).set k vs[k] = vs.take (k + 1) ++ r.drop (k + 1) := by
  rw [List.set_append_right _ _ (by rw [List.length_take]; omega), List.length_take, Nat.min_eq_left (by omega), Nat.sub_self, List.drop_eq_getElem_cons hr, List.set_cons_zero, List.take_succ_eq_append_getElem hv, List.append_assoc]
  rfl
theorem mig_len {vs r : List Int} {z : Int} (hv : vs.length = 8) (hr : r.length = 49) : ((vs ++ r.drop 8).set 8 z).length = r.length := by
  rw [List.length_set, List.length_append, List.length_drop]; omega
set_option maxHeartbeats 4000000 in
theorem MigrateMem_any (T A E : Option Addr) (ts : List Tk) (m : List Int) (es : List Ex) (ct cm ce : Nat) (w : World) (ht : RdT w T ts) (ha : RdI w A m) (he : RdX w E es) (hcm : m.length ≤ cm) :
    Calls Tryz.prog 11 #[.agg #[.slice T ts.length ct], .slice A m.length cm, .agg #[.slice E es.length ce]] w (MkP (migMem ts m es) (migOk ts m es) w) := by
  have HT := Hd.mk ht
  have HA := Hd.mk ha
  have HE := Hd.mk he
  have hmc := fun W h1 h2 => MemOk_any T A ts m ct cm W hcm h1 h2
  have hrc := fun W h => RulesOk_any E es ce W h
  clear ht ha he
  cases h1 : memOk ts m with
  | false =>
    have e1 : migOk ts m es = false := by unfold migOk; rw [h1]; rfl
    rw [mig_no e1, e1]
    rw [h1] at hmc
    clear e1 h1
    go_enter Tryz.func11, Tryz.ntmps11
    go_wp2_with (go_at_call 40; refine (hmc _ (RdT.bel HT.out (by repeat (first | (with_reducible exact Bel.refl _) | (with_reducible assumption) | (with_reducible apply Bel.alloc) | (with_reducible apply Bel.drewN) | (with_reducible apply Bel.drew) | (with_reducible refine Bel.set ?_ (by simp <;> omega) _) | (refine Bel.trans ?_ (by with_reducible assumption))))) (HA.out.bel (by repeat (first | (with_reducible exact Bel.refl _) | (with_reducible assumption) | (with_reducible apply Bel.alloc) | (with_reducible apply Bel.drewN) | (with_reducible apply Bel.drew) | (with_reducible refine Bel.set ?_ (by simp <;> omega) _) | (refine Bel.trans ?_ (by with_reducible assumption)))))).mono ?_; rintro r w1 ⟨rfl, hb1⟩)
    go_ret2
    exact ⟨_, rfl, own_nil _ _ _ _, (by repeat (first | (with_reducible exact Bel.refl _) | (with_reducible assumption) | (with_reducible apply Bel.alloc) | (with_reducible apply Bel.drewN) | (with_reducible apply Bel.drew) | (with_reducible refine Bel.set ?_ (by simp <;> omega) _) | (refine Bel.trans ?_ (by with_reducible assumption))))⟩
  | true =>
    rw [h1] at hmc
    cases h2 : rulesOk es with
    | false =>
      have e1 : migOk ts m es = false := by unfold migOk; rw [h1, h2]; rfl
      rw [mig_no e1, e1]
      rw [h2] at hrc
      clear e1 h1 h2
      go_enter Tryz.func11, Tryz.ntmps11
      go_wp2_with fail
      obtain ⟨W0, hW, Y5, hb0⟩ : ∃ W0, W0 = (w.alloc (.cells #[.slice T ts.length ct] 35)).alloc (.cells #[.slice E es.length ce] 40) ∧ Hd (Bx W0 (w.heap.size + 1) 40 #[.slice E es.length ce]) ∧ Bel w W0 := ⟨_, rfl, ⟨Bx.new' _ _ _ _ (by simp)⟩, ((Bel.refl _).alloc _).alloc _⟩
      rw [← hW]
      clear hW
      refine (hmc _ (RdT.bel HT.out hb0) (HA.out.bel hb0)).mono ?_
      rintro e w1 ⟨rfl, hb1⟩
      have x := (Y5.out.bel hb1).cell 0
      go_wp2_with (go_at_call 41; refine (hrc _ (HE.out.bel (hb0.trans hb1))).mono ?_; rintro r w2 ⟨rfl, hb2⟩)
      go_ret2
      exact ⟨_, rfl, own_nil _ _ _ _, (by repeat (first | (with_reducible exact Bel.refl _) | (with_reducible assumption) | (with_reducible apply Bel.alloc) | (with_reducible apply Bel.drewN) | (with_reducible apply Bel.drew) | (with_reducible refine Bel.set ?_ (by simp <;> omega) _) | (refine Bel.trans ?_ (by with_reducible assumption))))⟩
    | true =>
      have e1 : migOk ts m es = true := by unfold migOk; rw [h1, h2]; rfl
      obtain ⟨t, k, n, hG⟩ := memOk_G h1
      have hR := fun W h => Recovered_any A m cm k t n W h hG
      have hrl : (recovered m).length = 49 := by rw [recovered_len, hG.len]
      have hvr := recovered_vars hG
      rw [mig_yes e1, e1]
      rw [h2] at hrc
      clear e1 h1 hG
      generalize recovered m = r at *
      have hl8 : (r.take 8).length = 8 := varsOk_len hvr
      have hM := fun B c W h hc => MemVars_any B r c W h hrl hc
      have hMg := fun V cv W h1 h3 => Migrate_any V E (r.take 8) es cv ce W h1 h3 hvr h2
      have hvl : (es.map (evalE (r.take 8))).length = 8 := by rw [List.length_map, rules_len h2]
      generalize es.map (evalE (r.take 8)) = vs at *
      rw [hl8] at hMg
      have hD : migD r vs = (vs ++ r.drop 8).set 8 (pack 0 0 (unpack (at_ r 8)).2.2) := rfl
      rw [hD]
      clear hD
      have hU := UnpackControl_any (at_ r 8)
      have hcl := mig_cell hvl hrl
      have hln := mig_len (z := pack 0 0 (unpack (at_ r 8)).2.2) hvl hrl
      generalize unpack (at_ r 8) = U at *
      obtain ⟨u1, u2, u3⟩ := U
      have hP := PackControl_any 0 0 u3
      simp only at hP hln ⊢
      generalize pack 0 0 u3 = z at *
      generalize at_ r 8 = y at *
      have HCL := Hd.mk hcl
      have HLN := Hd.mk hln
      clear hcl hln
      have HL := Hd.mk hrl
      have HVL := Hd.mk hvl
      have HL8 := Hd.mk hl8
      clear h2 hvr hrl hvl hl8
      go_enter Tryz.func11, Tryz.ntmps11
      go_wp2_with fail
      obtain ⟨W0, hW, Y5, hb0⟩ : ∃ W0, W0 = (w.alloc (.cells #[.slice T ts.length ct] 35)).alloc (.cells #[.slice E es.length ce] 40) ∧ Hd (Bx W0 (w.heap.size + 1) 40 #[.slice E es.length ce]) ∧ Bel w W0 := ⟨_, rfl, ⟨Bx.new' _ _ _ _ (by simp)⟩, ((Bel.refl _).alloc _).alloc _⟩
      rw [← hW]
      clear hW
      refine (hmc _ (RdT.bel HT.out hb0) (HA.out.bel hb0)).mono ?_
      rintro e w1 ⟨rfl, hb1⟩
      have x := (Y5.out.bel hb1).cell 0
      go_wp2_with (go_at_call 41; refine (hrc _ (HE.out.bel (hb0.trans hb1))).mono ?_; rintro r w2 ⟨rfl, hb2⟩)
      go_wp2_with fail
      refine (hR _ (HA.out.bel ((hb0.trans hb1).trans hb2))).mono ?_
      rintro e w3 ⟨v3, rfl, hown3, hb3⟩
      have B2 : Bel W0 w2 := hb1.trans hb2
      have B3 : Bel w w3 := (hb0.trans B2).trans hb3
      replace hown3 := own_raise (b' := w.heap.size) hown3 (fun k hk => Nat.le_trans (hb0.trans B2).size (hown3.lt k hk).1)
      obtain ⟨rA, rc, rfl, hrc49⟩ := own_shape hown3
      obtain ⟨g, rfl⟩ := own_some hown3 (by rw [HL.out]; decide)
      have HRD : Hd (RdI w3 (some ⟨g, 0, none⟩) r) := ⟨by obtain ⟨A', c', e', _, h'⟩ := own_rd encI_ok hown3 (by rw [HL.out]; decide); cases e'; exact h'⟩
      have hge := (hown3.lt g rfl).1
      have HO3 := Hd.mk hown3
      clear hown3
      have HK : Hd (∀ W', Bel w3 W' → W'.cell? ⟨w.heap.size + 1, 0, none⟩ = some (.slice E es.length ce) ∧ Bel w3 W') := ⟨fun W' h => ⟨(Y5.out.bel ((B2.trans hb3).trans h)).cell 0, h⟩⟩
      go_upto_region 4 with (fail)
      refine wp_region_tail (fun W' => W'.cell? ⟨w.heap.size + 1, 0, none⟩ = some (.slice E es.length ce) ∧ Bel w3 W') 8 (by kernel_rfl) (HK.out _ (by repeat (first | (with_reducible exact Bel.refl _) | (with_reducible assumption) | (with_reducible apply Bel.alloc) | (with_reducible apply Bel.drewN) | (with_reducible apply Bel.drew) | (with_reducible refine Bel.set ?_ (by simp <;> omega) _) | (refine Bel.trans ?_ (by with_reducible assumption))))) (fun hS => ?_)
      refine wpAnyT_take (i := 0) (v := ?_) rfl (by kernel_rfl) (fun _ _ _ h => h) (Or.inl ⟨by rfl, ?_⟩) (by assumption) ?_; rotate_left; (next => (intro w hSw; (try dsimp only at hSw); go_simp <;> with_reducible rfl)); (try simp only [Act.put, List.setIfInBounds_toArray, List.set_cons_zero, List.set_cons_succ])
      refine wpAnyT_take (i := 2) (v := ?_) rfl (by kernel_rfl) (fun _ _ _ h => h) (Or.inl ⟨by rfl, ?_⟩) (by assumption) ?_; rotate_left; (next => (intro w hSw; (try dsimp only at hSw); go_simp <;> with_reducible rfl)); (try simp only [Act.put, List.setIfInBounds_toArray, List.set_cons_zero, List.set_cons_succ])
      refine wpAnyT_step (i := 1) rfl (by kernel_rfl) (fun K hK => ?_)
      go_simp
      go_at_call 44
      refine (hM _ _ _ (HRD.out.bel (by repeat (first | (with_reducible exact Bel.refl _) | (with_reducible assumption) | (with_reducible apply Bel.alloc) | (with_reducible apply Bel.drewN) | (with_reducible apply Bel.drew) | (with_reducible refine Bel.set ?_ (by simp <;> omega) _) | (refine Bel.trans ?_ (by with_reducible assumption))))) hrc49).mono ?_
      rintro e w4 ⟨v4, rfl, hown4, hb4⟩
      obtain ⟨vA, vc, e4, hvc, hrv⟩ := own_rd encI_ok hown4 (by rw [HL8.out]; decide)
      rw [HL8.out] at e4
      subst e4
      replace hrv := Hd.mk hrv
      clear hown4
      refine hK.out _ _ ?_ (fun hS => ?_)
      · exact HK.out _ (by repeat (first | (with_reducible exact Bel.refl _) | (with_reducible assumption) | (with_reducible apply Bel.alloc) | (with_reducible apply Bel.drewN) | (with_reducible apply Bel.drew) | (with_reducible refine Bel.set ?_ (by simp <;> omega) _) | (refine Bel.trans ?_ (by with_reducible assumption))))
      clear hK K; (try simp only [Act.put, List.setIfInBounds_toArray, List.set_cons_zero, List.set_cons_succ])
      refine wpAnyT_step (i := 3) rfl (by kernel_rfl) (fun K hK => ?_)
      go_simp
      go_at_call 43
      refine (hMg _ _ _ (hrv.out.bel (by repeat (first | (with_reducible exact Bel.refl _) | (with_reducible assumption) | (with_reducible apply Bel.alloc) | (with_reducible apply Bel.drewN) | (with_reducible apply Bel.drew) | (with_reducible refine Bel.set ?_ (by simp <;> omega) _) | (refine Bel.trans ?_ (by with_reducible assumption))))) (HE.out.bel (B3.trans (by repeat (first | (with_reducible exact Bel.refl _) | (with_reducible assumption) | (with_reducible apply Bel.alloc) | (with_reducible apply Bel.drewN) | (with_reducible apply Bel.drew) | (with_reducible refine Bel.set ?_ (by simp <;> omega) _) | (refine Bel.trans ?_ (by with_reducible assumption))))))).mono ?_
      rintro e w5 ⟨v5, rfl, hown5, hb5⟩
      obtain ⟨sA, sc, e5, hsc, hrs⟩ := own_rd encI_ok hown5 (by rw [HVL.out]; decide)
      rw [HVL.out] at e5
      subst e5
      replace hrs := Hd.mk hrs
      clear hown5
      refine hK.out _ _ ?_ (fun hS => ?_)
      · exact HK.out _ (by repeat (first | (with_reducible exact Bel.refl _) | (with_reducible assumption) | (with_reducible apply Bel.alloc) | (with_reducible apply Bel.drewN) | (with_reducible apply Bel.drew) | (with_reducible refine Bel.set ?_ (by simp <;> omega) _) | (refine Bel.trans ?_ (by with_reducible assumption))))
      clear hK K; (try simp only [Act.put, List.setIfInBounds_toArray, List.set_cons_zero, List.set_cons_succ])
      refine wpAnyT_take (i := 4) (v := ?_) rfl (by kernel_rfl) (fun _ _ _ h => h) (Or.inl ⟨by rfl, ?_⟩) (by assumption) ?_; rotate_left; (next => (intro w hSw; (try dsimp only at hSw); go_simp <;> with_reducible rfl)); (try simp only [Act.put, List.setIfInBounds_toArray, List.set_cons_zero, List.set_cons_succ])
      refine wpAnyT_take (i := 5) (v := ?_) rfl (by kernel_rfl) (fun _ _ _ h => h) (Or.inl ⟨by rfl, ?_⟩) (by assumption) ?_; rotate_left; (next => (intro w hSw; (try dsimp only at hSw); go_simp <;> with_reducible rfl)); (try simp only [Act.put, List.setIfInBounds_toArray, List.set_cons_zero, List.set_cons_succ])
      refine wpAnyT_take (i := 6) (v := ?_) rfl (by kernel_rfl) (fun _ _ _ h => h) (Or.inl ⟨by rfl, ?_⟩) (by assumption) ?_; rotate_left; (next => (intro w hSw; (try dsimp only at hSw); go_simp <;> with_reducible rfl)); (try simp only [Act.put, List.setIfInBounds_toArray, List.set_cons_zero, List.set_cons_succ])
      refine wpAnyT_take (i := 7) (v := ?_) rfl (by kernel_rfl) (fun _ _ _ h => h) (Or.inl ⟨by rfl, ?_⟩) (by assumption) ?_; rotate_left; (next => (intro w hSw; (try dsimp only at hSw); go_simp <;> with_reducible rfl)); (try simp only [Act.put, List.setIfInBounds_toArray, List.set_cons_zero, List.set_cons_succ])
      refine wpAnyT_tail 8 _ rfl (by kernel_rfl) ?_
      have B35 : Bel w3 w5 := (by repeat (first | (with_reducible exact Bel.refl _) | (with_reducible assumption) | (with_reducible apply Bel.alloc) | (with_reducible apply Bel.drewN) | (with_reducible apply Bel.drew) | (with_reducible refine Bel.set ?_ (by simp <;> omega) _) | (refine Bel.trans ?_ (by with_reducible assumption))))
      have HO5 := Hd.mk (own_bel HO3.out B35)
      have B5 : Bel w w5 := B3.trans B35
      clear HO3 HRD HK hS
      have hr8 : 8 < r.length := by rw [HL.out]; decide
      go_wp2_with (first
        | ((with_reducible refine copy_ints (o := ⟨some 34, _, _, _, _, _⟩) w.heap.size ?_ (.tmp 32) (.tmp 33) 25 3 ?_ ?_ ?_ g r.length 8 rc sc r vs sA ?_ ?_ HVL.out HO5.out ?_ ?_ w B5 hge ?_); (next => rfl); (next => rfl); (next => exact Tryz.underlying25); (next => kernel_rfl); (next => rfl); (next => rfl); (next => exact hrs.out.bel (by repeat (first | (with_reducible exact Bel.refl _) | (with_reducible assumption) | (with_reducible apply Bel.alloc) | (with_reducible apply Bel.drewN) | (with_reducible apply Bel.drew) | (with_reducible refine Bel.set ?_ (by simp <;> omega) _) | (refine Bel.trans ?_ (by with_reducible assumption))))); (next => rw [HL.out]; decide); intro w6 hown6 hb6; have hc6 := hown6.cellAt 8 (by rw [HL.out]; decide); rw [HCL.out] at hc6; have hf6 := hown6.frozenAt 8; replace hown6 := Hd.mk hown6)
        | (go_at_call 45; refine (hU _).mono ?_; rintro e w' ⟨rfl, rfl⟩)
        | (go_at_call 46; refine (hP _).mono ?_; rintro e w' ⟨rfl, rfl⟩))
      go_ret2
      refine ⟨_, rfl, ?_, (by repeat (first | (with_reducible exact Bel.refl _) | (with_reducible assumption) | (with_reducible apply Bel.alloc) | (with_reducible apply Bel.drewN) | (with_reducible apply Bel.drew) | (with_reducible refine Bel.set ?_ (by simp <;> omega) _) | (refine Bel.trans ?_ (by with_reducible assumption))))⟩
      have h1 := (World.ownsRow.stored hown6.out 8 (.int .i64 z)).1
      rw [flat_setI] at h1
      rw [HLN.out]
      exact h1
set_option maxHeartbeats 4000000 in
theorem sMigrateMem_any (T A E : Option Addr) (ts : List Tk) (m : List Int) (es : List Ex) (ct cm ce : Nat) (w : World) (ht : RdT w T ts) (ha : RdI w A m) (he : RdX w E es) (hcm : m.length ≤ cm) :
    Calls Tryz.prog 7 #[.agg #[.slice T ts.length ct], .slice A m.length cm, .agg #[.slice E es.length ce]] w (MkP (migMem ts m es) (migOk ts m es) w) := by
  have HT := Hd.mk ht
  have HA := Hd.mk ha
  have HE := Hd.mk he
  have hmc := fun W h1 h2 => sMemOk_any T A ts m ct cm W hcm h1 h2
  have hrc := fun W h => sRulesOk_any E es ce W h
  clear ht ha he
  cases h1 : memOk ts m with
  | false =>
    have e1 : migOk ts m es = false := by unfold migOk; rw [h1]; rfl
    rw [mig_no e1, e1]
    rw [h1] at hmc
    clear e1 h1
    go_enter Tryz.func7, Tryz.ntmps7
    go_wp2_with (go_at_call 31; refine (hmc _ (RdT.bel HT.out (by repeat (first | (with_reducible exact Bel.refl _) | (with_reducible assumption) | (with_reducible apply Bel.alloc) | (with_reducible apply Bel.drewN) | (with_reducible apply Bel.drew) | (with_reducible refine Bel.set ?_ (by simp <;> omega) _) | (refine Bel.trans ?_ (by with_reducible assumption))))) (HA.out.bel (by repeat (first | (with_reducible exact Bel.refl _) | (with_reducible assumption) | (with_reducible apply Bel.alloc) | (with_reducible apply Bel.drewN) | (with_reducible apply Bel.drew) | (with_reducible refine Bel.set ?_ (by simp <;> omega) _) | (refine Bel.trans ?_ (by with_reducible assumption)))))).mono ?_; rintro r w1 ⟨rfl, hb1⟩)
    go_ret2
    exact ⟨_, rfl, own_lit0 _ _ _ _ (Bel.size (w := w) (by repeat (first | (with_reducible exact Bel.refl _) | (with_reducible assumption) | (with_reducible apply Bel.alloc) | (with_reducible apply Bel.drewN) | (with_reducible apply Bel.drew) | (with_reducible refine Bel.set ?_ (by simp <;> omega) _) | (refine Bel.trans ?_ (by with_reducible assumption))))), (by repeat (first | (with_reducible exact Bel.refl _) | (with_reducible assumption) | (with_reducible apply Bel.alloc) | (with_reducible apply Bel.drewN) | (with_reducible apply Bel.drew) | (with_reducible refine Bel.set ?_ (by simp <;> omega) _) | (refine Bel.trans ?_ (by with_reducible assumption))))⟩
  | true =>
    rw [h1] at hmc
    cases h2 : rulesOk es with
    | false =>
      have e1 : migOk ts m es = false := by unfold migOk; rw [h1, h2]; rfl
      rw [mig_no e1, e1]
      rw [h2] at hrc
      clear e1 h1 h2
      go_enter Tryz.func7, Tryz.ntmps7
      go_wp2_with fail
      obtain ⟨W0, hW, Y5, hb0⟩ : ∃ W0, W0 = (w.alloc (.cells #[.slice T ts.length ct] 35)).alloc (.cells #[.slice E es.length ce] 40) ∧ Hd (Bx W0 (w.heap.size + 1) 40 #[.slice E es.length ce]) ∧ Bel w W0 := ⟨_, rfl, ⟨Bx.new' _ _ _ _ (by simp)⟩, ((Bel.refl _).alloc _).alloc _⟩
      rw [← hW]
      clear hW
      refine (hmc _ (RdT.bel HT.out hb0) (HA.out.bel hb0)).mono ?_
      rintro e w1 ⟨rfl, hb1⟩
      have x := (Y5.out.bel hb1).cell 0
      go_wp2_with (go_at_call 32; refine (hrc _ (HE.out.bel (hb0.trans hb1))).mono ?_; rintro r w2 ⟨rfl, hb2⟩)
      go_ret2
      exact ⟨_, rfl, own_lit0 _ _ _ _ (Bel.size (w := w) (by repeat (first | (with_reducible exact Bel.refl _) | (with_reducible assumption) | (with_reducible apply Bel.alloc) | (with_reducible apply Bel.drewN) | (with_reducible apply Bel.drew) | (with_reducible refine Bel.set ?_ (by simp <;> omega) _) | (refine Bel.trans ?_ (by with_reducible assumption))))), (by repeat (first | (with_reducible exact Bel.refl _) | (with_reducible assumption) | (with_reducible apply Bel.alloc) | (with_reducible apply Bel.drewN) | (with_reducible apply Bel.drew) | (with_reducible refine Bel.set ?_ (by simp <;> omega) _) | (refine Bel.trans ?_ (by with_reducible assumption))))⟩
    | true =>
      have e1 : migOk ts m es = true := by unfold migOk; rw [h1, h2]; rfl
      obtain ⟨t, k, n, hG⟩ := memOk_G h1
      have hR := fun W h => sRecovered_any A m cm k t n W h hG
      have hrl : (recovered m).length = 49 := by rw [recovered_len, hG.len]
      have hvr := recovered_vars hG
      rw [mig_yes e1, e1]
      rw [h2] at hrc
      clear e1 h1 hG
      generalize recovered m = r at *
      have hl8 : (r.take 8).length = 8 := varsOk_len hvr
      have hM := fun B c W h hc => sMemVars_any B r c W h hrl hc
      have hMg := fun V cv W h1 h3 => sMigrate_any V E (r.take 8) es cv ce W h1 h3 hvr h2
      have hvl : (es.map (evalE (r.take 8))).length = 8 := by rw [List.length_map, rules_len h2]
      generalize es.map (evalE (r.take 8)) = vs at *
      rw [hl8] at hMg
      have hD : migD r vs = (vs ++ r.drop 8).set 8 (pack 0 0 (unpack (at_ r 8)).2.2) := rfl
      rw [hD]
      clear hD
      have hU := sUnpackControl_any (at_ r 8)
      have hcl := mig_cell hvl hrl
      have hln := mig_len (z := pack 0 0 (unpack (at_ r 8)).2.2) hvl hrl
      generalize unpack (at_ r 8) = U at *
      obtain ⟨u1, u2, u3⟩ := U
      have hP := sPackControl_any 0 0 u3
      simp only at hP hln ⊢
      generalize pack 0 0 u3 = z at *
      generalize at_ r 8 = y at *
      have HCL := Hd.mk hcl
      have HLN := Hd.mk hln
      clear hcl hln
      have HL := Hd.mk hrl
      have HVL := Hd.mk hvl
      have HL8 := Hd.mk hl8
      clear h2 hvr hrl hvl hl8
      go_enter Tryz.func7, Tryz.ntmps7
      go_wp2_with fail
      obtain ⟨W0, hW, Y5, hb0⟩ : ∃ W0, W0 = (w.alloc (.cells #[.slice T ts.length ct] 35)).alloc (.cells #[.slice E es.length ce] 40) ∧ Hd (Bx W0 (w.heap.size + 1) 40 #[.slice E es.length ce]) ∧ Bel w W0 := ⟨_, rfl, ⟨Bx.new' _ _ _ _ (by simp)⟩, ((Bel.refl _).alloc _).alloc _⟩
      rw [← hW]
      clear hW
      refine (hmc _ (RdT.bel HT.out hb0) (HA.out.bel hb0)).mono ?_
      rintro e w1 ⟨rfl, hb1⟩
      have x := (Y5.out.bel hb1).cell 0
      go_wp2_with (go_at_call 32; refine (hrc _ (HE.out.bel (hb0.trans hb1))).mono ?_; rintro r w2 ⟨rfl, hb2⟩)
      go_wp2_with fail
      refine (hR _ (HA.out.bel ((hb0.trans hb1).trans hb2))).mono ?_
      rintro e w3 ⟨v3, rfl, hown3, hb3⟩
      have B2 : Bel W0 w2 := hb1.trans hb2
      have B3 : Bel w w3 := (hb0.trans B2).trans hb3
      replace hown3 := own_raise (b' := w.heap.size) hown3 (fun k hk => Nat.le_trans (hb0.trans B2).size (hown3.lt k hk).1)
      obtain ⟨rA, rc, rfl, hrc49⟩ := own_shape hown3
      obtain ⟨g, rfl⟩ := own_some hown3 (by rw [HL.out]; decide)
      have HRD : Hd (RdI w3 (some ⟨g, 0, none⟩) r) := ⟨by obtain ⟨A', c', e', _, h'⟩ := own_rd encI_ok hown3 (by rw [HL.out]; decide); cases e'; exact h'⟩
      have hge := (hown3.lt g rfl).1
      have HO3 := Hd.mk hown3
      clear hown3
      have HK : Hd (∀ W', Bel w3 W' → W'.cell? ⟨w.heap.size + 1, 0, none⟩ = some (.slice E es.length ce) ∧ Bel w3 W') := ⟨fun W' h => ⟨(Y5.out.bel ((B2.trans hb3).trans h)).cell 0, h⟩⟩
      go_upto_region 4 with (fail)
      refine wp_region_tail (fun W' => W'.cell? ⟨w.heap.size + 1, 0, none⟩ = some (.slice E es.length ce) ∧ Bel w3 W') 8 (by kernel_rfl) (HK.out _ (by repeat (first | (with_reducible exact Bel.refl _) | (with_reducible assumption) | (with_reducible apply Bel.alloc) | (with_reducible apply Bel.drewN) | (with_reducible apply Bel.drew) | (with_reducible refine Bel.set ?_ (by simp <;> omega) _) | (refine Bel.trans ?_ (by with_reducible assumption))))) (fun hS => ?_)
      refine wpAnyT_take (i := 0) (v := ?_) rfl (by kernel_rfl) (fun _ _ _ h => h) (Or.inl ⟨by rfl, ?_⟩) (by assumption) ?_; rotate_left; (next => (intro w hSw; (try dsimp only at hSw); go_simp <;> with_reducible rfl)); (try simp only [Act.put, List.setIfInBounds_toArray, List.set_cons_zero, List.set_cons_succ])
      refine wpAnyT_take (i := 2) (v := ?_) rfl (by kernel_rfl) (fun _ _ _ h => h) (Or.inl ⟨by rfl, ?_⟩) (by assumption) ?_; rotate_left; (next => (intro w hSw; (try dsimp only at hSw); go_simp <;> with_reducible rfl)); (try simp only [Act.put, List.setIfInBounds_toArray, List.set_cons_zero, List.set_cons_succ])
      refine wpAnyT_step (i := 1) rfl (by kernel_rfl) (fun K hK => ?_)
      go_simp
      go_at_call 35
      refine (hM _ _ _ (HRD.out.bel (by repeat (first | (with_reducible exact Bel.refl _) | (with_reducible assumption) | (with_reducible apply Bel.alloc) | (with_reducible apply Bel.drewN) | (with_reducible apply Bel.drew) | (with_reducible refine Bel.set ?_ (by simp <;> omega) _) | (refine Bel.trans ?_ (by with_reducible assumption))))) hrc49).mono ?_
      rintro e w4 ⟨v4, rfl, hown4, hb4⟩
      obtain ⟨vA, vc, e4, hvc, hrv⟩ := own_rd encI_ok hown4 (by rw [HL8.out]; decide)
      rw [HL8.out] at e4
      subst e4
      replace hrv := Hd.mk hrv
      clear hown4
      refine hK.out _ _ ?_ (fun hS => ?_)
      · exact HK.out _ (by repeat (first | (with_reducible exact Bel.refl _) | (with_reducible assumption) | (with_reducible apply Bel.alloc) | (with_reducible apply Bel.drewN) | (with_reducible apply Bel.drew) | (with_reducible refine Bel.set ?_ (by simp <;> omega) _) | (refine Bel.trans ?_ (by with_reducible assumption))))
      clear hK K; (try simp only [Act.put, List.setIfInBounds_toArray, List.set_cons_zero, List.set_cons_succ])
      refine wpAnyT_step (i := 3) rfl (by kernel_rfl) (fun K hK => ?_)
      go_simp
      go_at_call 34
      refine (hMg _ _ _ (hrv.out.bel (by repeat (first | (with_reducible exact Bel.refl _) | (with_reducible assumption) | (with_reducible apply Bel.alloc) | (with_reducible apply Bel.drewN) | (with_reducible apply Bel.drew) | (with_reducible refine Bel.set ?_ (by simp <;> omega) _) | (refine Bel.trans ?_ (by with_reducible assumption))))) (HE.out.bel (B3.trans (by repeat (first | (with_reducible exact Bel.refl _) | (with_reducible assumption) | (with_reducible apply Bel.alloc) | (with_reducible apply Bel.drewN) | (with_reducible apply Bel.drew) | (with_reducible refine Bel.set ?_ (by simp <;> omega) _) | (refine Bel.trans ?_ (by with_reducible assumption))))))).mono ?_
      rintro e w5 ⟨v5, rfl, hown5, hb5⟩
      obtain ⟨sA, sc, e5, hsc, hrs⟩ := own_rd encI_ok hown5 (by rw [HVL.out]; decide)
      rw [HVL.out] at e5
      subst e5
      replace hrs := Hd.mk hrs
      refine hK.out _ _ ?_ (fun hS => ?_)
      · exact HK.out _ (by repeat (first | (with_reducible exact Bel.refl _) | (with_reducible assumption) | (with_reducible apply Bel.alloc) | (with_reducible apply Bel.drewN) | (with_reducible apply Bel.drew) | (with_reducible refine Bel.set ?_ (by simp <;> omega) _) | (refine Bel.trans ?_ (by with_reducible assumption))))
      clear hK K; (try simp only [Act.put, List.setIfInBounds_toArray, List.set_cons_zero, List.set_cons_succ])
      refine wpAnyT_take (i := 4) (v := ?_) rfl (by kernel_rfl) (fun _ _ _ h => h) (Or.inl ⟨by rfl, ?_⟩) (by assumption) ?_; rotate_left; (next => (intro w hSw; (try dsimp only at hSw); go_simp <;> with_reducible rfl)); (try simp only [Act.put, List.setIfInBounds_toArray, List.set_cons_zero, List.set_cons_succ])
      refine wpAnyT_take (i := 5) (v := ?_) rfl (by kernel_rfl) (fun _ _ _ h => h) (Or.inl ⟨by rfl, ?_⟩) (by assumption) ?_; rotate_left; (next => (intro w hSw; (try dsimp only at hSw); go_simp <;> with_reducible rfl)); (try simp only [Act.put, List.setIfInBounds_toArray, List.set_cons_zero, List.set_cons_succ])
      refine wpAnyT_take (i := 6) (v := ?_) rfl (by kernel_rfl) (fun _ _ _ h => h) (Or.inl ⟨by rfl, ?_⟩) (by assumption) ?_; rotate_left; (next => (intro w hSw; (try dsimp only at hSw); go_simp <;> with_reducible rfl)); (try simp only [Act.put, List.setIfInBounds_toArray, List.set_cons_zero, List.set_cons_succ])
      refine wpAnyT_take (i := 7) (v := ?_) rfl (by kernel_rfl) (fun _ _ _ h => h) (Or.inl ⟨by rfl, ?_⟩) (by assumption) ?_; rotate_left; (next => (intro w hSw; (try dsimp only at hSw); go_simp <;> with_reducible rfl)); (try simp only [Act.put, List.setIfInBounds_toArray, List.set_cons_zero, List.set_cons_succ])
      refine wpAnyT_tail 8 _ rfl (by kernel_rfl) ?_
      have HS5 := Hd.mk (own_raise (b' := w3.heap.size) hown5 (fun k hk => by have h1 := (hown5.lt k hk).1; have h2 : w3.heap.size ≤ w4.heap.size := hb4.size; exact Nat.le_trans h2 h1))
      have hg3 : g < w3.heap.size := (HO3.out.lt g rfl).2
      have B35 : Bel w3 w5 := (by repeat (first | (with_reducible exact Bel.refl _) | (with_reducible assumption) | (with_reducible apply Bel.alloc) | (with_reducible apply Bel.drewN) | (with_reducible apply Bel.drew) | (with_reducible refine Bel.set ?_ (by simp <;> omega) _) | (refine Bel.trans ?_ (by with_reducible assumption))))
      have HO5 := Hd.mk (own_bel HO3.out B35)
      have B5 : Bel w w5 := B3.trans B35
      have hr49 : r.length = 49 := HL.out
      have hr8 : 8 < r.length := by omega
      replace hr49 := Hd.mk hr49
      clear HO3 HRD HK hS hown5
      go_wp2_with fail
      go_loopw [11] (fun i wr => ∃ k : Nat, k ≤ 8 ∧ i = .int .i64 k ∧ Bel w wr ∧ w3.heap.size ≤ wr.heap.size ∧ Hd (wr.ownsRow w.heap.size 3 1 (.slice (some ⟨g, 0, none⟩) r.length rc) r.length ((vs.take k ++ r.drop k).flatMap encI)) ∧ Hd (wr.ownsRow w3.heap.size 3 1 (.slice sA 8 sc) vs.length (vs.flatMap encI))) (fun i _ => 8 - (intOf i).toNat)
      case atStart => exact ⟨0, Nat.zero_le _, rfl, B5, B35.size, ⟨by simpa using HO5.out⟩, HS5⟩
      case round =>
        obtain ⟨k, hk, rfl, HBL, hsz, HO, HS⟩ := hrel
        by_cases hlt : k < 8
        · have hltv : k < vs.length := by rw [HVL.out]; exact hlt
          obtain ⟨sA', sc', es, _, hrs⟩ := own_rd encI_ok HS.out (by rw [HVL.out]; decide)
          rw [HVL.out] at es
          cases es
          obtain ⟨b, off, rfl, c0⟩ := hrs.atI k hltv
          obtain ⟨u0, hcell⟩ := own_cells HO.out k (by rw [hr49.out]; omega)
          have hfz := HO.out.frozenAt k
          have hkr : k < r.length := by omega
          have hst := Hd.mk (splice_step hltv hkr)
          have hne : (Value.slice (some ⟨b, off, none⟩) 8 sc).ownBlock ≠ some g := fun e => by have := (HS.out.lt g e).1; omega
          replace hne := Hd.mk hne
          clear hrs
          go_wp2
          go_roundw
          case rel =>
            refine ⟨k + 1, by omega, by go_num, (by repeat (first | (with_reducible exact Bel.refl _) | (with_reducible assumption) | (with_reducible apply Bel.alloc) | (with_reducible apply Bel.drewN) | (with_reducible apply Bel.drew) | (with_reducible refine Bel.set ?_ (by simp <;> omega) _) | (refine Bel.trans ?_ (by with_reducible assumption)))), by simpa using hsz, ⟨?_⟩, ⟨own_far HS.out _ hne.out⟩⟩
            rw [← hst.out, ← flat_setI]
            exact (World.ownsRow.stored HO.out k _).1
          case measure => simp [intOf]; omega
        · obtain rfl : k = 8 := by omega
          have hown6 := HO.out
          rw [List.take_of_length_le (by rw [HVL.out]; exact Nat.le_refl _)] at hown6
          have hc6 := hown6.cellAt 8 (by omega)
          rw [HCL.out] at hc6
          have hf6 := hown6.frozenAt 8
          replace hown6 := Hd.mk hown6
          go_wp2_with (first
            | (go_at_call 36; refine (hU _).mono ?_; rintro e w' ⟨rfl, rfl⟩)
            | (go_at_call 37; refine (hP _).mono ?_; rintro e w' ⟨rfl, rfl⟩))
          go_ret2
          refine ⟨_, rfl, ?_, (by repeat (first | (with_reducible exact Bel.refl _) | (with_reducible assumption) | (with_reducible apply Bel.alloc) | (with_reducible apply Bel.drewN) | (with_reducible apply Bel.drew) | (with_reducible refine Bel.set ?_ (by simp <;> omega) _) | (refine Bel.trans ?_ (by with_reducible assumption))))⟩
          have h1 := (World.ownsRow.stored hown6.out 8 (.int .i64 z)).1
          rw [flat_setI] at h1
          rw [HLN.out]
          exact h1
end Go.Proofs.YtgodbldchaonpaaGreat

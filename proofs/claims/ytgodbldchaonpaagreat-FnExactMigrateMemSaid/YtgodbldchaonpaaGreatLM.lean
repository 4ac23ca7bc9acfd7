/- The law FnExactMigrateMem: its walk. No condition. -/
import Derived.Test.YtgodbldchaonpaaGreatLC
namespace Go.Proofs.YtgodbldchaonpaaGreat
open Go.RowKit
set_option linter.unusedVariables false
set_option linter.unusedSimpArgs false
set_option maxRecDepth 100000
set_option maxHeartbeats 16000000 in
theorem lawMigrateMem_any (tA : Option Addr) (ts : List Tk) (tc : Nat) (mA : Option Addr) (m : List Int) (mc : Nat) (eA : Option Addr) (es : List Ex) (ec : Nat) (w : World) (htc : ts.length ≤ tc) (ht : RdT w tA ts) (hmc : m.length ≤ mc) (hm : RdI w mA m) (hec : es.length ≤ ec) (he : RdX w eA es) :
    Calls Tryz.prog 3 #[.agg #[.slice tA ts.length tc], .slice mA m.length mc, .agg #[.slice eA es.length ec]] w (Bl (.bool true) w) := by
  have lt := RdL.len ht
  have lm := RdF.len hm
  have le := RdF.len he
  have HT := Hd.mk ht
  have HM := Hd.mk hm
  have HE := Hd.mk he
  have hsz := fun W h => szProgram_any tA ts tc 1048576 W h (by omega) (by omega)
  clear ht hm he
  by_cases km : 1048576 < m.length
  · go_enter Tryz.func3, Tryz.ntmps3
    go_wp2_with fail
    go_ret
    exact ⟨rfl, (by repeat (first | (with_reducible exact Bel.refl _) | (with_reducible assumption) | (with_reducible apply Bel.alloc) | (with_reducible apply Bel.drewN) | (with_reducible apply Bel.drew) | (with_reducible refine Bel.set ?_ (by simp <;> omega) _) | (refine Bel.trans ?_ (by with_reducible assumption))))⟩
  by_cases hz : (1048576 : Int) - tot ts < 0
  · rw [szL_neg hz] at hsz
    go_enter Tryz.func3, Tryz.ntmps3
    go_wp2_with (go_at_call 5; refine (hsz _ (RdT.bel HT.out (by repeat (first | (with_reducible exact Bel.refl _) | (with_reducible assumption) | (with_reducible apply Bel.alloc) | (with_reducible apply Bel.drewN) | (with_reducible apply Bel.drew) | (with_reducible refine Bel.set ?_ (by simp <;> omega) _) | (refine Bel.trans ?_ (by with_reducible assumption)))))).mono ?_; rintro e w' ⟨rfl, hb⟩; have hB : Bel w w' := (by repeat (first | exact Bel.refl _ | assumption | apply Bel.alloc | apply Bel.drewN | apply Bel.drew | (refine Bel.trans ?_ (by assumption)))); obtain ⟨hc0, hf0⟩ := hB.rd; obtain ⟨hc, hf⟩ := hb.rd; have hz := hb.size; (try simp at hz); (first | (have hz0 : w.heap.size < w'.heap.size := by omega) | skip); (first | (have hz1 : w.heap.size + 1 < w'.heap.size := by omega) | skip))
    go_ret
    exact ⟨rfl, (by repeat (first | (with_reducible exact Bel.refl _) | (with_reducible assumption) | (with_reducible apply Bel.alloc) | (with_reducible apply Bel.drewN) | (with_reducible apply Bel.drew) | (with_reducible refine Bel.set ?_ (by simp <;> omega) _) | (refine Bel.trans ?_ (by with_reducible assumption))))⟩
  rw [szL_pos hz] at hsz
  have HS := Hd.mk (SmT.of (ts := ts) (n := 1048576) (by omega) (by omega))
  have hz0 : 0 ≤ (1048576 : Int) - tot ts := by omega
  have hz1 : (1048576 : Int) - tot ts ≤ 1048576 := by omega
  generalize (1048576 : Int) - tot ts = L at hsz hz0 hz1
  clear hz
  have hsr := fun W => szRules_any eA es.length ec L W hz0 hz1 le
  have hml : m.length ≤ 1048576 := by omega
  have cP := Hd.mk (fun W (h : Bel w W) => (toProgram_any tA ts tc W (RdT.bel HT.out h) HS.out.small (by have := HS.out.len; omega)).mono fun _ _ h => MkPr.sml HS.out h)
  have cM := Hd.mk (fun W (h : Bel w W) => (toIntS_any mA m mc W (HM.out.bel h)).mono fun _ _ h => Mk.sml (by omega) h)
  by_cases hz2 : L - es.length < 0
  · rw [szL_neg hz2] at hsr
    go_enter Tryz.func3, Tryz.ntmps3
    go_wp2_with fail
    obtain ⟨W0, hW, Y5, hb0⟩ : ∃ W0, W0 = ((w.alloc (.cells #[.slice tA ts.length tc] 24)).alloc (.cells #[.slice eA es.length ec] 28)) ∧ Hd (Bx W0 (w.heap.size + 1) 28 #[.slice eA es.length ec]) ∧ Bel w W0 := ⟨_, rfl, ⟨Bx.new' _ _ _ _ (by simp)⟩, ((Bel.refl _).alloc _).alloc _⟩
    rw [← hW]
    clear hW
    refine (hsz _ (RdT.bel HT.out hb0)).mono ?_
    rintro e w1 ⟨rfl, hb1⟩
    have x5 := (Y5.out.bel hb1).cell
    go_wp2_with (go_at_call 6; refine (hsr _).mono ?_; rintro e w2 ⟨rfl, hb2⟩)
    go_ret
    exact ⟨rfl, (by repeat (first | (with_reducible exact Bel.refl _) | (with_reducible assumption) | (with_reducible apply Bel.alloc) | (with_reducible apply Bel.drewN) | (with_reducible apply Bel.drew) | (with_reducible refine Bel.set ?_ (by simp <;> omega) _) | (refine Bel.trans ?_ (by with_reducible assumption))))⟩
  rw [szL_pos hz2] at hsr
  have hel : es.length ≤ 1048576 := by omega
  have hz3 : 0 ≤ L - es.length := by omega
  generalize L - (es.length : Int) = L2 at hsr hz3
  clear hz2
  have cE := Hd.mk (fun W (h : Bel w W) => toRules_any eA es ec W (HE.out.bel h) hel)
  have hSp := Hd.mk (fun A0 A1 A2 c0 c1 c2 W h0 h1 h2 h3 => sMigrateMem_any A0 A1 A2 ts m es c0 c1 c2 W h0 h1 h2 h3)
  have hIm := Hd.mk (fun A0 A1 A2 c0 c1 c2 W h0 h1 h2 h3 => MigrateMem_any A0 A1 A2 ts m es c0 c1 c2 W h0 h1 h2 h3)
  have hDl := mig_short ts m es
  generalize migMem ts m es = D at *
  generalize migOk ts m es = ok at *
  go_enter Tryz.func3, Tryz.ntmps3
  go_wp2_with fail
  obtain ⟨W0, hW, Y3, Y5, hb0⟩ : ∃ W0, W0 = ((w.alloc (.cells #[.slice tA ts.length tc] 24)).alloc (.cells #[.slice eA es.length ec] 28)) ∧ Hd (Bx W0 w.heap.size 24 #[.slice tA ts.length tc]) ∧ Hd (Bx W0 (w.heap.size + 1) 28 #[.slice eA es.length ec]) ∧ Bel w W0 := ⟨_, rfl, ⟨(Bx.new _ _ _).alloc _⟩, ⟨Bx.new' _ _ _ _ (by simp)⟩, ((Bel.refl _).alloc _).alloc _⟩
  rw [← hW]
  clear hW
  have BW := Hd.mk hb0
  refine (hsz _ (RdT.bel HT.out hb0)).mono ?_
  rintro e w0 ⟨rfl, hb1⟩
  have hbN := hb1
  replace Y3 := Hd.mk (Y3.out.bel hbN)
  replace Y5 := Hd.mk (Y5.out.bel hbN)
  replace BW := Hd.mk (BW.out.trans hbN)
  clear hbN
  clear hb0 hb1
  have xY5 := Y5.out.cell
  go_wp2_with fail
  refine (hsr _).mono ?_
  rintro e w1 ⟨rfl, hb2⟩
  clear xY5
  have hbN := hb2
  replace Y3 := Hd.mk (Y3.out.bel hbN)
  replace Y5 := Hd.mk (Y5.out.bel hbN)
  replace BW := Hd.mk (BW.out.trans hbN)
  clear hbN
  have hw1 : w.heap.size + 1 < w1.heap.size := Y5.out.lt
  go_upto_region 10 with (fail)
  have HK : Hd (∀ W', Bel w1 W' → W'.cell? ⟨w.heap.size, 0, none⟩ = some (.slice tA ts.length tc) ∧ W'.cell? ⟨w.heap.size + 1, 0, none⟩ = some (.slice eA es.length ec) ∧ Bel w1 W') := ⟨fun W' h => ⟨(Y3.out.bel h).cell 0, (Y5.out.bel h).cell 0, h⟩⟩
  refine wp_region_tail' (fun W' => W'.cell? ⟨w.heap.size, 0, none⟩ = some (.slice tA ts.length tc) ∧ W'.cell? ⟨w.heap.size + 1, 0, none⟩ = some (.slice eA es.length ec) ∧ Bel w1 W') 11 (by kernel_rfl) (HK.out _ ((Bel.refl _).drew)) (fun wd hbd hzd hS => ?_)
  clear hzd
  have zd := hbd.size
  refine wpAnyT_take (i := 0) (v := ?_) rfl (by kernel_rfl) (fun _ _ _ h => h) (Or.inl ⟨by rfl, ?_⟩) (by assumption) ?_; rotate_left; (next => (intro w hSw; (try dsimp only at hSw); go_simp <;> with_reducible rfl)); (try simp only [Act.put, List.setIfInBounds_toArray, List.set_cons_zero, List.set_cons_succ])
  refine wpAnyT_take (i := 2) (v := ?_) rfl (by kernel_rfl) (fun _ _ _ h => h) (Or.inl ⟨by rfl, ?_⟩) (by assumption) ?_; rotate_left; (next => (intro w hSw; (try dsimp only at hSw); go_simp <;> with_reducible rfl)); (try simp only [Act.put, List.setIfInBounds_toArray, List.set_cons_zero, List.set_cons_succ])
  refine wpAnyT_take (i := 4) (v := ?_) rfl (by kernel_rfl) (fun _ _ _ h => h) (Or.inl ⟨by rfl, ?_⟩) (by assumption) ?_; rotate_left; (next => (intro w hSw; (try dsimp only at hSw); go_simp <;> with_reducible rfl)); (try simp only [Act.put, List.setIfInBounds_toArray, List.set_cons_zero, List.set_cons_succ])
  refine wpAnyT_step (i := 1) rfl (by kernel_rfl) (fun K hK => ?_)
  go_simp
  go_at_call 8
  refine (cP.out _ (BW.out.trans (by repeat (first | (with_reducible exact Bel.refl _) | (with_reducible assumption) | (with_reducible apply Bel.alloc) | (with_reducible apply Bel.drewN) | (with_reducible apply Bel.drew) | (with_reducible refine Bel.set ?_ (by simp <;> omega) _) | (refine Bel.trans ?_ (by with_reducible assumption)))))).mono ?_
  rintro e va ⟨P0, p0, pp, rfl, -, -, -, hr0, hq0, hbp⟩
  replace hr0 := Hd.mk hr0
  have zp := hbp.size
  refine hK.out _ _ ?_ (fun hS => ?_)
  · exact HK.out _ (by repeat (first | (with_reducible exact Bel.refl _) | (with_reducible assumption) | (with_reducible apply Bel.alloc) | (with_reducible apply Bel.drewN) | (with_reducible apply Bel.drew) | (with_reducible refine Bel.set ?_ (by simp <;> omega) _) | (refine Bel.trans ?_ (by with_reducible assumption))))
  clear hK K; (try simp only [Act.put, List.setIfInBounds_toArray, List.set_cons_zero, List.set_cons_succ])
  refine wpAnyT_step (i := 3) rfl (by kernel_rfl) (fun K hK => ?_)
  go_simp
  go_at_call 9
  refine (cM.out _ (BW.out.trans (by repeat (first | (with_reducible exact Bel.refl _) | (with_reducible assumption) | (with_reducible apply Bel.alloc) | (with_reducible apply Bel.drewN) | (with_reducible apply Bel.drew) | (with_reducible refine Bel.set ?_ (by simp <;> omega) _) | (refine Bel.trans ?_ (by with_reducible assumption)))))).mono ?_
  rintro e vb ⟨P1, p1, rfl, -, hr1, hq1, hbm⟩
  replace hr1 := Hd.mk hr1
  have zm := hbm.size
  refine hK.out _ _ ?_ (fun hS => ?_)
  · exact HK.out _ (by repeat (first | (with_reducible exact Bel.refl _) | (with_reducible assumption) | (with_reducible apply Bel.alloc) | (with_reducible apply Bel.drewN) | (with_reducible apply Bel.drew) | (with_reducible refine Bel.set ?_ (by simp <;> omega) _) | (refine Bel.trans ?_ (by with_reducible assumption))))
  clear hK K; (try simp only [Act.put, List.setIfInBounds_toArray, List.set_cons_zero, List.set_cons_succ])
  refine wpAnyT_step (i := 5) rfl (by kernel_rfl) (fun K hK => ?_)
  go_simp
  go_at_call 10
  refine (cE.out _ (BW.out.trans (by repeat (first | (with_reducible exact Bel.refl _) | (with_reducible assumption) | (with_reducible apply Bel.alloc) | (with_reducible apply Bel.drewN) | (with_reducible apply Bel.drew) | (with_reducible refine Bel.set ?_ (by simp <;> omega) _) | (refine Bel.trans ?_ (by with_reducible assumption)))))).mono ?_
  rintro e vc ⟨P2, p2, rfl, -, hr2, hq2, hbe⟩
  replace hr2 := Hd.mk hr2
  have ze := hbe.size
  refine hK.out _ _ ?_ (fun hS => ?_)
  · exact HK.out _ (by repeat (first | (with_reducible exact Bel.refl _) | (with_reducible assumption) | (with_reducible apply Bel.alloc) | (with_reducible apply Bel.drewN) | (with_reducible apply Bel.drew) | (with_reducible refine Bel.set ?_ (by simp <;> omega) _) | (refine Bel.trans ?_ (by with_reducible assumption))))
  clear hK K; (try simp only [Act.put, List.setIfInBounds_toArray, List.set_cons_zero, List.set_cons_succ])
  refine wpAnyT_step (i := 6) rfl (by kernel_rfl) (fun K hK => ?_)
  go_simp
  go_at_call 7
  refine (hSp.out P0 P1 P2 p0 p1 p2 _ (RdT.bel hr0.out (by repeat (first | (with_reducible exact Bel.refl _) | (with_reducible assumption) | (with_reducible apply Bel.alloc) | (with_reducible apply Bel.drewN) | (with_reducible apply Bel.drew) | (with_reducible refine Bel.set ?_ (by simp <;> omega) _) | (refine Bel.trans ?_ (by with_reducible assumption))))) (hr1.out.bel (by repeat (first | (with_reducible exact Bel.refl _) | (with_reducible assumption) | (with_reducible apply Bel.alloc) | (with_reducible apply Bel.drewN) | (with_reducible apply Bel.drew) | (with_reducible refine Bel.set ?_ (by simp <;> omega) _) | (refine Bel.trans ?_ (by with_reducible assumption))))) (hr2.out.bel (by repeat (first | (with_reducible exact Bel.refl _) | (with_reducible assumption) | (with_reducible apply Bel.alloc) | (with_reducible apply Bel.drewN) | (with_reducible apply Bel.drew) | (with_reducible refine Bel.set ?_ (by simp <;> omega) _) | (refine Bel.trans ?_ (by with_reducible assumption))))) hq1).mono ?_
  rintro e w2 ⟨v2, rfl, hown, hb6⟩
  obtain ⟨A8, c8, rfl, hc8⟩ := own_shape hown
  refine hK.out _ _ ?_ (fun hS => ?_)
  · exact HK.out _ (by repeat (first | (with_reducible exact Bel.refl _) | (with_reducible assumption) | (with_reducible apply Bel.alloc) | (with_reducible apply Bel.drewN) | (with_reducible apply Bel.drew) | (with_reducible refine Bel.set ?_ (by simp <;> omega) _) | (refine Bel.trans ?_ (by with_reducible assumption))))
  clear hK K; (try simp only [Act.put, List.setIfInBounds_toArray, List.set_cons_zero, List.set_cons_succ])
  refine wpAnyT_take (i := 7) (v := ?_) rfl (by kernel_rfl) (fun _ _ _ h => h) (Or.inl ⟨by rfl, ?_⟩) (by assumption) ?_; rotate_left; (next => (intro w hSw; (try dsimp only at hSw); go_simp <;> with_reducible rfl)); (try simp only [Act.put, List.setIfInBounds_toArray, List.set_cons_zero, List.set_cons_succ])
  refine wpAnyT_take (i := 8) (v := ?_) rfl (by kernel_rfl) (fun _ _ _ h => h) (Or.inl ⟨by rfl, ?_⟩) (by assumption) ?_; rotate_left; (next => (intro w hSw; (try dsimp only at hSw); go_simp <;> with_reducible rfl)); (try simp only [Act.put, List.setIfInBounds_toArray, List.set_cons_zero, List.set_cons_succ])
  refine wpAnyT_take (i := 9) (v := ?_) rfl (by kernel_rfl) (fun _ _ _ h => h) (Or.inl ⟨by rfl, ?_⟩) (by assumption) ?_; rotate_left; (next => (intro w hSw; (try dsimp only at hSw); go_simp <;> with_reducible rfl)); (try simp only [Act.put, List.setIfInBounds_toArray, List.set_cons_zero, List.set_cons_succ])
  refine wpAnyT_take (i := 10) (v := ?_) rfl (by kernel_rfl) (fun _ _ _ h => h) (Or.inl ⟨by rfl, ?_⟩) (by assumption) ?_; rotate_left; (next => (intro w hSw; (try dsimp only at hSw); go_simp <;> with_reducible rfl)); (try simp only [Act.put, List.setIfInBounds_toArray, List.set_cons_zero, List.set_cons_succ])
  refine wpAnyT_tail 11 _ rfl (by kernel_rfl) ?_
  have hbr : Bel w1 w2 := (by repeat (first | (with_reducible exact Bel.refl _) | (with_reducible assumption) | (with_reducible apply Bel.alloc) | (with_reducible apply Bel.drewN) | (with_reducible apply Bel.drew) | (with_reducible refine Bel.set ?_ (by simp <;> omega) _) | (refine Bel.trans ?_ (by with_reducible assumption))))
  clear HK hS hr0 hr1 hr2
  have hbN := hbr
  replace Y3 := Hd.mk (Y3.out.bel hbN)
  replace Y5 := Hd.mk (Y5.out.bel hbN)
  replace BW := Hd.mk (BW.out.trans hbN)
  clear hbN
  have hwA : w.heap.size + 1 < w2.heap.size := Y5.out.lt
  have lO8 := Hd.mk (fun q hq => (hown.lt q hq).2)
  have O8 := Hd.mk hown
  have lY3 := Y3.out.lt
  have lY5 := Y5.out.lt
  clear hown hbr hb6 hbp hbm hbe
  have xY3 := Y3.out.cell
  go_wp2_with fail
  refine (cP.out _ BW.out).mono ?_
  rintro e w3 ⟨A0, c0, ps0, rfl, hpl, hps, hox, hrx, hcx, hb3⟩
  have s3 := hb3.size
  replace hpl := Hd.mk hpl
  replace hps := Hd.mk hps
  clear xY3
  have hbN := hb3
  replace Y3 := Hd.mk (Y3.out.bel hbN)
  replace Y5 := Hd.mk (Y5.out.bel hbN)
  replace BW := Hd.mk (BW.out.trans hbN)
  replace O8 := Hd.mk (own_bel O8.out hbN)
  clear hbN
  have lX := Hd.mk (fun q hq => hox.tree q hq)
  have HX := Hd.mk hrx
  have OX := Hd.mk hox
  clear hrx hox
  go_wp2_with fail
  have hal : Bel w3 (w3.alloc (.cells #[.slice A0 ts.length c0] 35)) := (Bel.refl _).alloc _
  have X10 := Hd.mk (Bx.new w3 35 #[.slice A0 ts.length c0])
  have hbN := hal
  replace Y3 := Hd.mk (Y3.out.bel hbN)
  replace Y5 := Hd.mk (Y5.out.bel hbN)
  replace BW := Hd.mk (BW.out.trans hbN)
  replace O8 := Hd.mk (own_bel O8.out hbN)
  replace HX := Hd.mk (RdT.bel HX.out hbN)
  replace OX := Hd.mk (OX.out.bel hbN)
  clear hbN
  refine (cM.out _ BW.out).mono ?_
  rintro e w4 ⟨A1, c1, rfl, hov, hrv, hcv, hb4⟩
  have s4 := hb4.size
  simp at s4
  have hbN := hb4
  replace Y3 := Hd.mk (Y3.out.bel hbN)
  replace Y5 := Hd.mk (Y5.out.bel hbN)
  replace BW := Hd.mk (BW.out.trans hbN)
  replace O8 := Hd.mk (own_bel O8.out hbN)
  replace HX := Hd.mk (RdT.bel HX.out hbN)
  replace OX := Hd.mk (OX.out.bel hbN)
  replace X10 := Hd.mk (X10.out.bel hbN)
  clear hbN
  have lOM := Hd.mk (fun q hq => (show w3.heap.size < q ∧ q < w4.heap.size from by have h := hov.lt q hq; simp at h; omega))
  have OM := Hd.mk hov
  have HM1 := Hd.mk hrv
  clear hov hrv
  have xY5 := Y5.out.cell
  go_wp2_with fail
  refine (cE.out _ BW.out).mono ?_
  rintro e w5 ⟨A2, c2, rfl, hoe, hre, hce, hb5⟩
  have s5 := hb5.size
  clear xY5
  have hbN := hb5
  replace Y3 := Hd.mk (Y3.out.bel hbN)
  replace Y5 := Hd.mk (Y5.out.bel hbN)
  replace BW := Hd.mk (BW.out.trans hbN)
  replace O8 := Hd.mk (own_bel O8.out hbN)
  replace HX := Hd.mk (RdT.bel HX.out hbN)
  replace OX := Hd.mk (OX.out.bel hbN)
  replace X10 := Hd.mk (X10.out.bel hbN)
  replace OM := Hd.mk (own_bel OM.out hbN)
  replace HM1 := Hd.mk (HM1.out.bel hbN)
  clear hbN
  have lOE := Hd.mk (fun q hq => hoe.lt q hq)
  have OE := Hd.mk hoe
  have HE1 := Hd.mk hre
  clear hoe hre
  have xX10 := X10.out.cell
  have lX10 := X10.out.lt
  go_wp2_with fail
  have hal : Bel w5 (w5.alloc (.cells #[.slice A2 es.length c2] 40)) := (Bel.refl _).alloc _
  have X12 := Hd.mk (Bx.new w5 40 #[.slice A2 es.length c2])
  clear xX10
  have hbN := hal
  replace Y3 := Hd.mk (Y3.out.bel hbN)
  replace Y5 := Hd.mk (Y5.out.bel hbN)
  replace BW := Hd.mk (BW.out.trans hbN)
  replace O8 := Hd.mk (own_bel O8.out hbN)
  replace HX := Hd.mk (RdT.bel HX.out hbN)
  replace OX := Hd.mk (OX.out.bel hbN)
  replace X10 := Hd.mk (X10.out.bel hbN)
  replace OM := Hd.mk (own_bel OM.out hbN)
  replace HM1 := Hd.mk (HM1.out.bel hbN)
  replace OE := Hd.mk (own_bel OE.out hbN)
  replace HE1 := Hd.mk (HE1.out.bel hbN)
  clear hbN
  have lX12 := X12.out.lt
  refine (hIm.out A0 A1 A2 c0 c1 c2 _ HX.out HM1.out HE1.out hcv).mono ?_
  rintro e w6 ⟨v6, rfl, hown, hb6⟩
  obtain ⟨A13, c13, rfl, hc13⟩ := own_shape hown
  have s6 := hb6.size
  simp at s6
  have hbN := hb6
  replace Y3 := Hd.mk (Y3.out.bel hbN)
  replace Y5 := Hd.mk (Y5.out.bel hbN)
  replace BW := Hd.mk (BW.out.trans hbN)
  replace O8 := Hd.mk (own_bel O8.out hbN)
  replace HX := Hd.mk (RdT.bel HX.out hbN)
  replace OX := Hd.mk (OX.out.bel hbN)
  replace X10 := Hd.mk (X10.out.bel hbN)
  replace OM := Hd.mk (own_bel OM.out hbN)
  replace HM1 := Hd.mk (HM1.out.bel hbN)
  replace OE := Hd.mk (own_bel OE.out hbN)
  replace HE1 := Hd.mk (HE1.out.bel hbN)
  replace X12 := Hd.mk (X12.out.bel hbN)
  clear hbN
  have lO13 := Hd.mk (fun q hq => (show w5.heap.size < q from by have h := hown.lt q hq; simp at h; omega))
  have O13 := Hd.mk hown
  clear hown
  have R13 := Hd.mk (own_rd' encI_ok O13.out rfl (by omega)).1
  have R8 := Hd.mk (own_rd' encI_ok O8.out rfl (by omega)).1
  go_wp2_with fail
  refine (eqIntS_same A13 A8 D c13 c8 _ R13.out R8.out).mono ?_
  rintro e w7 ⟨rfl, hb7⟩
  clear R13 R8
  have hbN := hb7
  replace Y3 := Hd.mk (Y3.out.bel hbN)
  replace Y5 := Hd.mk (Y5.out.bel hbN)
  replace BW := Hd.mk (BW.out.trans hbN)
  replace O8 := Hd.mk (own_bel O8.out hbN)
  replace HX := Hd.mk (RdT.bel HX.out hbN)
  replace OX := Hd.mk (OX.out.bel hbN)
  replace X10 := Hd.mk (X10.out.bel hbN)
  replace OM := Hd.mk (own_bel OM.out hbN)
  replace HM1 := Hd.mk (HM1.out.bel hbN)
  replace OE := Hd.mk (own_bel OE.out hbN)
  replace HE1 := Hd.mk (HE1.out.bel hbN)
  replace X12 := Hd.mk (X12.out.bel hbN)
  replace O13 := Hd.mk (own_bel O13.out hbN)
  clear hbN
  go_wp2_with fail
  have HK : Hd (∀ W', Bel w7 W' → W'.cell? ⟨w3.heap.size, 0, none⟩ = some (.slice A0 ts.length c0) ∧ W'.cell? ⟨w.heap.size, 0, none⟩ = some (.slice tA ts.length tc) ∧ Bel w7 W') := ⟨fun W' h => ⟨(X10.out.bel h).cell 0, (Y3.out.bel h).cell 0, h⟩⟩
  go_region_held3 (fun W' => W'.cell? ⟨w3.heap.size, 0, none⟩ = some (.slice A0 ts.length c0) ∧ W'.cell? ⟨w.heap.size, 0, none⟩ = some (.slice tA ts.length tc) ∧ Bel w7 W') (exact HK.out _ (by repeat (first | (with_reducible exact Bel.refl _) | (with_reducible assumption) | (with_reducible apply Bel.alloc) | (with_reducible apply Bel.drewN) | (with_reducible apply Bel.drew) | (with_reducible refine Bel.set ?_ (by simp <;> omega) _) | (refine Bel.trans ?_ (by with_reducible assumption)))))
    (first
      | (go_at_call 8; refine (cP.out _ (BW.out.trans (by repeat (first | (with_reducible exact Bel.refl _) | (with_reducible assumption) | (with_reducible apply Bel.alloc) | (with_reducible apply Bel.drewN) | (with_reducible apply Bel.drew) | (with_reducible refine Bel.set ?_ (by simp <;> omega) _) | (refine Bel.trans ?_ (by with_reducible assumption)))))).mono ?_; rintro e w8 ⟨P0, p0, pp, rfl, -, -, -, hr0, hq0, hbp⟩; (replace hr0 := Hd.mk hr0))
      | (go_at_call 13; refine (eqProgram_same A0 P0 ts c0 p0 _ (RdT.bel HX.out (by repeat (first | (with_reducible exact Bel.refl _) | (with_reducible assumption) | (with_reducible apply Bel.alloc) | (with_reducible apply Bel.drewN) | (with_reducible apply Bel.drew) | (with_reducible refine Bel.set ?_ (by simp <;> omega) _) | (refine Bel.trans ?_ (by with_reducible assumption))))) (RdT.bel hr0.out (by repeat (first | (with_reducible exact Bel.refl _) | (with_reducible assumption) | (with_reducible apply Bel.alloc) | (with_reducible apply Bel.drewN) | (with_reducible apply Bel.drew) | (with_reducible refine Bel.set ?_ (by simp <;> omega) _) | (refine Bel.trans ?_ (by with_reducible assumption)))))).mono ?_; rintro e w9 ⟨rfl, hbq⟩))
  have hbr : Bel w7 w9 := (by repeat (first | (with_reducible exact Bel.refl _) | (with_reducible assumption) | (with_reducible apply Bel.alloc) | (with_reducible apply Bel.drewN) | (with_reducible apply Bel.drew) | (with_reducible refine Bel.set ?_ (by simp <;> omega) _) | (refine Bel.trans ?_ (by with_reducible assumption))))
  clear HK hr0
  have hbN := hbr
  replace Y3 := Hd.mk (Y3.out.bel hbN)
  replace Y5 := Hd.mk (Y5.out.bel hbN)
  replace BW := Hd.mk (BW.out.trans hbN)
  replace O8 := Hd.mk (own_bel O8.out hbN)
  replace HX := Hd.mk (RdT.bel HX.out hbN)
  replace OX := Hd.mk (OX.out.bel hbN)
  replace X10 := Hd.mk (X10.out.bel hbN)
  replace OM := Hd.mk (own_bel OM.out hbN)
  replace HM1 := Hd.mk (HM1.out.bel hbN)
  replace OE := Hd.mk (own_bel OE.out hbN)
  replace HE1 := Hd.mk (HE1.out.bel hbN)
  replace X12 := Hd.mk (X12.out.bel hbN)
  replace O13 := Hd.mk (own_bel O13.out hbN)
  clear hbN
  clear hbr hbp hbq
  go_wp2_with fail
  refine (cM.out _ BW.out).mono ?_
  rintro e w10 ⟨A4, c4, rfl, -, hr4, hc4, hb10⟩
  replace hr4 := Hd.mk hr4
  have hbN := hb10
  replace Y3 := Hd.mk (Y3.out.bel hbN)
  replace Y5 := Hd.mk (Y5.out.bel hbN)
  replace BW := Hd.mk (BW.out.trans hbN)
  replace O8 := Hd.mk (own_bel O8.out hbN)
  replace HX := Hd.mk (RdT.bel HX.out hbN)
  replace OX := Hd.mk (OX.out.bel hbN)
  replace X10 := Hd.mk (X10.out.bel hbN)
  replace OM := Hd.mk (own_bel OM.out hbN)
  replace HM1 := Hd.mk (HM1.out.bel hbN)
  replace OE := Hd.mk (own_bel OE.out hbN)
  replace HE1 := Hd.mk (HE1.out.bel hbN)
  replace X12 := Hd.mk (X12.out.bel hbN)
  replace O13 := Hd.mk (own_bel O13.out hbN)
  clear hbN
  go_wp2_with fail
  refine (eqIntS_same A1 A4 m c1 c4 _ HM1.out hr4.out).mono ?_
  rintro e w11 ⟨rfl, hb11⟩
  clear hr4
  have hbN := hb11
  replace Y3 := Hd.mk (Y3.out.bel hbN)
  replace Y5 := Hd.mk (Y5.out.bel hbN)
  replace BW := Hd.mk (BW.out.trans hbN)
  replace O8 := Hd.mk (own_bel O8.out hbN)
  replace HX := Hd.mk (RdT.bel HX.out hbN)
  replace OX := Hd.mk (OX.out.bel hbN)
  replace X10 := Hd.mk (X10.out.bel hbN)
  replace OM := Hd.mk (own_bel OM.out hbN)
  replace HM1 := Hd.mk (HM1.out.bel hbN)
  replace OE := Hd.mk (own_bel OE.out hbN)
  replace HE1 := Hd.mk (HE1.out.bel hbN)
  replace X12 := Hd.mk (X12.out.bel hbN)
  replace O13 := Hd.mk (own_bel O13.out hbN)
  clear hbN
  go_wp2_with fail
  have HK : Hd (∀ W', Bel w11 W' → W'.cell? ⟨w5.heap.size, 0, none⟩ = some (.slice A2 es.length c2) ∧ W'.cell? ⟨w.heap.size + 1, 0, none⟩ = some (.slice eA es.length ec) ∧ Bel w11 W') := ⟨fun W' h => ⟨(X12.out.bel h).cell 0, (Y5.out.bel h).cell 0, h⟩⟩
  go_region_held3 (fun W' => W'.cell? ⟨w5.heap.size, 0, none⟩ = some (.slice A2 es.length c2) ∧ W'.cell? ⟨w.heap.size + 1, 0, none⟩ = some (.slice eA es.length ec) ∧ Bel w11 W') (exact HK.out _ (by repeat (first | (with_reducible exact Bel.refl _) | (with_reducible assumption) | (with_reducible apply Bel.alloc) | (with_reducible apply Bel.drewN) | (with_reducible apply Bel.drew) | (with_reducible refine Bel.set ?_ (by simp <;> omega) _) | (refine Bel.trans ?_ (by with_reducible assumption)))))
    (first
      | (go_at_call 10; refine (cE.out _ (BW.out.trans (by repeat (first | (with_reducible exact Bel.refl _) | (with_reducible assumption) | (with_reducible apply Bel.alloc) | (with_reducible apply Bel.drewN) | (with_reducible apply Bel.drew) | (with_reducible refine Bel.set ?_ (by simp <;> omega) _) | (refine Bel.trans ?_ (by with_reducible assumption)))))).mono ?_; rintro e w12 ⟨P0, p0, rfl, -, hr0, hq0, hbp⟩; (replace hr0 := Hd.mk hr0))
      | (go_at_call 14; refine (eqRules_same A2 P0 es c2 p0 _ (HE1.out.bel (by repeat (first | (with_reducible exact Bel.refl _) | (with_reducible assumption) | (with_reducible apply Bel.alloc) | (with_reducible apply Bel.drewN) | (with_reducible apply Bel.drew) | (with_reducible refine Bel.set ?_ (by simp <;> omega) _) | (refine Bel.trans ?_ (by with_reducible assumption))))) (hr0.out.bel (by repeat (first | (with_reducible exact Bel.refl _) | (with_reducible assumption) | (with_reducible apply Bel.alloc) | (with_reducible apply Bel.drewN) | (with_reducible apply Bel.drew) | (with_reducible refine Bel.set ?_ (by simp <;> omega) _) | (refine Bel.trans ?_ (by with_reducible assumption)))))).mono ?_; rintro e w13 ⟨rfl, hbq⟩))
  have hbr : Bel w11 w13 := (by repeat (first | (with_reducible exact Bel.refl _) | (with_reducible assumption) | (with_reducible apply Bel.alloc) | (with_reducible apply Bel.drewN) | (with_reducible apply Bel.drew) | (with_reducible refine Bel.set ?_ (by simp <;> omega) _) | (refine Bel.trans ?_ (by with_reducible assumption))))
  clear HK hr0
  have hbN := hbr
  replace Y3 := Hd.mk (Y3.out.bel hbN)
  replace Y5 := Hd.mk (Y5.out.bel hbN)
  replace BW := Hd.mk (BW.out.trans hbN)
  replace O8 := Hd.mk (own_bel O8.out hbN)
  replace HX := Hd.mk (RdT.bel HX.out hbN)
  replace OX := Hd.mk (OX.out.bel hbN)
  replace X10 := Hd.mk (X10.out.bel hbN)
  replace OM := Hd.mk (own_bel OM.out hbN)
  replace HM1 := Hd.mk (HM1.out.bel hbN)
  replace OE := Hd.mk (own_bel OE.out hbN)
  replace HE1 := Hd.mk (HE1.out.bel hbN)
  replace X12 := Hd.mk (X12.out.bel hbN)
  replace O13 := Hd.mk (own_bel O13.out hbN)
  clear hbN
  clear hbr hbp hbq
  have hcx9 := cnt_sml HS.out hps.out
  have kx0 : 0 ≤ 1 + (cnt ps0 : Int) := by omega
  have kx1 : 0 ≤ 1 + (cnt ps0 : Int) + m.length := by omega
  have xX10 := X10.out.cell
  go_wp2_with fail
  refine (markProgram_sml _ A0 ts ps0 c0 1 _ HS.out hps.out OX.out (by omega) (by omega)).mono ?_
  rintro e w14 ⟨rfl, hc14⟩
  have s14 := hc14.size
  clear xX10
  replace Y3 := Hd.mk (Y3.out.chg hc14 (fun h => by have := lX.out _ h; have := lY3; omega))
  replace Y5 := Hd.mk (Y5.out.chg hc14 (fun h => by have := lX.out _ h; have := lY5; omega))
  replace BW := Hd.mk (hc14.toBel BW.out (fun q h => by have := lX.out _ h; have := hwA; omega))
  replace O8 := Hd.mk (hc14.own O8.out (fun q h1 h2 => by have := lO8.out q h1; have := lX.out q h2; omega))
  replace OM := Hd.mk (hc14.own OM.out (fun q h1 h2 => by have := lOM.out q h1; have := lX.out q h2; omega))
  replace OE := Hd.mk (hc14.own OE.out (fun q h1 h2 => by have := lOE.out q h1; have := lX.out q h2; omega))
  replace X12 := Hd.mk (X12.out.chg hc14 (fun h => by have := lX.out _ h; have := lX12; omega))
  replace O13 := Hd.mk (hc14.own O13.out (fun q h1 h2 => by have := lO13.out q h1; have := lX.out q h2; omega))
  go_wp2_with fail
  refine (markIntS_sml _ A1 m c1 _ _ hml OM.out kx0 (by omega)).mono ?_
  rintro e w15 ⟨rfl, hc15⟩
  have s15 := hc15.size
  replace Y3 := Hd.mk (Y3.out.chg hc15 (fun h => by have := lOM.out _ h; have := lY3; omega))
  replace Y5 := Hd.mk (Y5.out.chg hc15 (fun h => by have := lOM.out _ h; have := lY5; omega))
  replace BW := Hd.mk (hc15.toBel BW.out (fun q h => by have := lOM.out _ h; have := hwA; omega))
  replace O8 := Hd.mk (hc15.own O8.out (fun q h1 h2 => by have := lO8.out q h1; have := lOM.out q h2; omega))
  replace OE := Hd.mk (hc15.own OE.out (fun q h1 h2 => by have := lOE.out q h1; have := lOM.out q h2; omega))
  replace X12 := Hd.mk (X12.out.chg hc15 (fun h => by have := lOM.out _ h; have := lX12; omega))
  replace O13 := Hd.mk (hc15.own O13.out (fun q h1 h2 => by have := lO13.out q h1; have := lOM.out q h2; omega))
  have xX12 := X12.out.cell
  go_wp2_with fail
  refine (markRules_any _ A2 es c2 _ _ OE.out kx1 (by omega) hel).mono ?_
  rintro e w16 ⟨rfl, hc16⟩
  have s16 := hc16.size
  clear xX12
  replace Y3 := Hd.mk (Y3.out.chg hc16 (fun h => by have := lOE.out _ h; have := lY3; omega))
  replace Y5 := Hd.mk (Y5.out.chg hc16 (fun h => by have := lOE.out _ h; have := lY5; omega))
  replace BW := Hd.mk (hc16.toBel BW.out (fun q h => by have := lOE.out _ h; have := hwA; omega))
  replace O8 := Hd.mk (hc16.own O8.out (fun q h1 h2 => by have := lO8.out q h1; have := lOE.out q h2; omega))
  replace O13 := Hd.mk (hc16.own O13.out (fun q h1 h2 => by have := lO13.out q h1; have := lOE.out q h2; omega))
  have R13 := Hd.mk (own_rd' encI_ok O13.out rfl (by omega)).1
  have R8 := Hd.mk (own_rd' encI_ok O8.out rfl (by omega)).1
  go_wp2_with fail
  refine (eqIntS_same A13 A8 D c13 c8 _ R13.out R8.out).mono ?_
  rintro e w17 ⟨rfl, hb17⟩
  clear R13 R8
  have hbN := hb17
  replace Y3 := Hd.mk (Y3.out.bel hbN)
  replace Y5 := Hd.mk (Y5.out.bel hbN)
  replace BW := Hd.mk (BW.out.trans hbN)
  replace O8 := Hd.mk (own_bel O8.out hbN)
  replace O13 := Hd.mk (own_bel O13.out hbN)
  clear hbN
  go_wp2_with fail
  refine (markIntS_any _ A13 D c13 1 _ O13.out (by omega) (by omega) (by omega)).mono ?_
  rintro e w18 ⟨rfl, ho18, hc18⟩
  have s18 := hc18.size
  replace Y3 := Hd.mk (Y3.out.chg hc18 (fun h => by have := lO13.out _ h; have := lY3; omega))
  replace Y5 := Hd.mk (Y5.out.chg hc18 (fun h => by have := lO13.out _ h; have := lY5; omega))
  replace BW := Hd.mk (hc18.toBel BW.out (fun q h => by have := lO13.out _ h; have := hwA; omega))
  replace O8 := Hd.mk (hc18.own O8.out (fun q h1 h2 => by have := lO8.out q h1; have := lO13.out q h2; omega))
  replace ho18 := Hd.mk ho18
  have R18 := Hd.mk (own_rd' encI_ok ho18.out (upto_len _ _).symm (by rw [upto_len]; omega)).1
  go_wp2_with fail
  refine (heldIntS_any A13 D.length c13 1 _ R18.out (by omega) (by omega) (by omega)).mono ?_
  rintro e w19 ⟨rfl, hb19⟩
  clear R18
  have hbN := hb19
  replace Y3 := Hd.mk (Y3.out.bel hbN)
  replace Y5 := Hd.mk (Y5.out.bel hbN)
  replace BW := Hd.mk (BW.out.trans hbN)
  replace O8 := Hd.mk (own_bel O8.out hbN)
  replace ho18 := Hd.mk (own_bel ho18.out hbN)
  clear hbN
  go_upto_region 37 with (fail)
  have HK : Hd (∀ W', Bel w19 W' → W'.cell? ⟨w.heap.size, 0, none⟩ = some (.slice tA ts.length tc) ∧ W'.cell? ⟨w.heap.size + 1, 0, none⟩ = some (.slice eA es.length ec) ∧ Bel w19 W') := ⟨fun W' h => ⟨(Y3.out.bel h).cell 0, (Y5.out.bel h).cell 0, h⟩⟩
  refine wp_region_tail' (fun W' => W'.cell? ⟨w.heap.size, 0, none⟩ = some (.slice tA ts.length tc) ∧ W'.cell? ⟨w.heap.size + 1, 0, none⟩ = some (.slice eA es.length ec) ∧ Bel w19 W') 11 (by kernel_rfl) (HK.out _ ((Bel.refl _).drew)) (fun wd hbd hzd hS => ?_)
  clear hzd
  have zd := hbd.size
  refine wpAnyT_take (i := 0) (v := ?_) rfl (by kernel_rfl) (fun _ _ _ h => h) (Or.inl ⟨by rfl, ?_⟩) (by assumption) ?_; rotate_left; (next => (intro w hSw; (try dsimp only at hSw); go_simp <;> with_reducible rfl)); (try simp only [Act.put, List.setIfInBounds_toArray, List.set_cons_zero, List.set_cons_succ])
  refine wpAnyT_take (i := 2) (v := ?_) rfl (by kernel_rfl) (fun _ _ _ h => h) (Or.inl ⟨by rfl, ?_⟩) (by assumption) ?_; rotate_left; (next => (intro w hSw; (try dsimp only at hSw); go_simp <;> with_reducible rfl)); (try simp only [Act.put, List.setIfInBounds_toArray, List.set_cons_zero, List.set_cons_succ])
  refine wpAnyT_take (i := 4) (v := ?_) rfl (by kernel_rfl) (fun _ _ _ h => h) (Or.inl ⟨by rfl, ?_⟩) (by assumption) ?_; rotate_left; (next => (intro w hSw; (try dsimp only at hSw); go_simp <;> with_reducible rfl)); (try simp only [Act.put, List.setIfInBounds_toArray, List.set_cons_zero, List.set_cons_succ])
  refine wpAnyT_step (i := 1) rfl (by kernel_rfl) (fun K hK => ?_)
  go_simp
  go_at_call 8
  refine (cP.out _ (BW.out.trans (by repeat (first | (with_reducible exact Bel.refl _) | (with_reducible assumption) | (with_reducible apply Bel.alloc) | (with_reducible apply Bel.drewN) | (with_reducible apply Bel.drew) | (with_reducible refine Bel.set ?_ (by simp <;> omega) _) | (refine Bel.trans ?_ (by with_reducible assumption)))))).mono ?_
  rintro e xa ⟨P0, p0, pp, rfl, -, -, -, hr0, hq0, hbp⟩
  replace hr0 := Hd.mk hr0
  have zp := hbp.size
  refine hK.out _ _ ?_ (fun hS => ?_)
  · exact HK.out _ (by repeat (first | (with_reducible exact Bel.refl _) | (with_reducible assumption) | (with_reducible apply Bel.alloc) | (with_reducible apply Bel.drewN) | (with_reducible apply Bel.drew) | (with_reducible refine Bel.set ?_ (by simp <;> omega) _) | (refine Bel.trans ?_ (by with_reducible assumption))))
  clear hK K; (try simp only [Act.put, List.setIfInBounds_toArray, List.set_cons_zero, List.set_cons_succ])
  refine wpAnyT_step (i := 3) rfl (by kernel_rfl) (fun K hK => ?_)
  go_simp
  go_at_call 9
  refine (cM.out _ (BW.out.trans (by repeat (first | (with_reducible exact Bel.refl _) | (with_reducible assumption) | (with_reducible apply Bel.alloc) | (with_reducible apply Bel.drewN) | (with_reducible apply Bel.drew) | (with_reducible refine Bel.set ?_ (by simp <;> omega) _) | (refine Bel.trans ?_ (by with_reducible assumption)))))).mono ?_
  rintro e xb ⟨P1, p1, rfl, -, hr1, hq1, hbm⟩
  replace hr1 := Hd.mk hr1
  have zm := hbm.size
  refine hK.out _ _ ?_ (fun hS => ?_)
  · exact HK.out _ (by repeat (first | (with_reducible exact Bel.refl _) | (with_reducible assumption) | (with_reducible apply Bel.alloc) | (with_reducible apply Bel.drewN) | (with_reducible apply Bel.drew) | (with_reducible refine Bel.set ?_ (by simp <;> omega) _) | (refine Bel.trans ?_ (by with_reducible assumption))))
  clear hK K; (try simp only [Act.put, List.setIfInBounds_toArray, List.set_cons_zero, List.set_cons_succ])
  refine wpAnyT_step (i := 5) rfl (by kernel_rfl) (fun K hK => ?_)
  go_simp
  go_at_call 10
  refine (cE.out _ (BW.out.trans (by repeat (first | (with_reducible exact Bel.refl _) | (with_reducible assumption) | (with_reducible apply Bel.alloc) | (with_reducible apply Bel.drewN) | (with_reducible apply Bel.drew) | (with_reducible refine Bel.set ?_ (by simp <;> omega) _) | (refine Bel.trans ?_ (by with_reducible assumption)))))).mono ?_
  rintro e xc ⟨P2, p2, rfl, -, hr2, hq2, hbe⟩
  replace hr2 := Hd.mk hr2
  have ze := hbe.size
  refine hK.out _ _ ?_ (fun hS => ?_)
  · exact HK.out _ (by repeat (first | (with_reducible exact Bel.refl _) | (with_reducible assumption) | (with_reducible apply Bel.alloc) | (with_reducible apply Bel.drewN) | (with_reducible apply Bel.drew) | (with_reducible refine Bel.set ?_ (by simp <;> omega) _) | (refine Bel.trans ?_ (by with_reducible assumption))))
  clear hK K; (try simp only [Act.put, List.setIfInBounds_toArray, List.set_cons_zero, List.set_cons_succ])
  refine wpAnyT_step (i := 6) rfl (by kernel_rfl) (fun K hK => ?_)
  go_simp
  go_at_call 11
  refine (hIm.out P0 P1 P2 p0 p1 p2 _ (RdT.bel hr0.out (by repeat (first | (with_reducible exact Bel.refl _) | (with_reducible assumption) | (with_reducible apply Bel.alloc) | (with_reducible apply Bel.drewN) | (with_reducible apply Bel.drew) | (with_reducible refine Bel.set ?_ (by simp <;> omega) _) | (refine Bel.trans ?_ (by with_reducible assumption))))) (hr1.out.bel (by repeat (first | (with_reducible exact Bel.refl _) | (with_reducible assumption) | (with_reducible apply Bel.alloc) | (with_reducible apply Bel.drewN) | (with_reducible apply Bel.drew) | (with_reducible refine Bel.set ?_ (by simp <;> omega) _) | (refine Bel.trans ?_ (by with_reducible assumption))))) (hr2.out.bel (by repeat (first | (with_reducible exact Bel.refl _) | (with_reducible assumption) | (with_reducible apply Bel.alloc) | (with_reducible apply Bel.drewN) | (with_reducible apply Bel.drew) | (with_reducible refine Bel.set ?_ (by simp <;> omega) _) | (refine Bel.trans ?_ (by with_reducible assumption))))) hq1).mono ?_
  rintro e w20 ⟨v20, rfl, hown, hb20⟩
  obtain ⟨A18, c18, rfl, hc18⟩ := own_shape hown
  replace hown := Hd.mk hown
  refine hK.out _ _ ?_ (fun hS => ?_)
  · exact HK.out _ (by repeat (first | (with_reducible exact Bel.refl _) | (with_reducible assumption) | (with_reducible apply Bel.alloc) | (with_reducible apply Bel.drewN) | (with_reducible apply Bel.drew) | (with_reducible refine Bel.set ?_ (by simp <;> omega) _) | (refine Bel.trans ?_ (by with_reducible assumption))))
  clear hK K; (try simp only [Act.put, List.setIfInBounds_toArray, List.set_cons_zero, List.set_cons_succ])
  refine wpAnyT_take (i := 7) (v := ?_) rfl (by kernel_rfl) (fun _ _ _ h => h) (Or.inl ⟨by rfl, ?_⟩) (by assumption) ?_; rotate_left; (next => (intro w hSw; (try dsimp only at hSw); go_simp <;> with_reducible rfl)); (try simp only [Act.put, List.setIfInBounds_toArray, List.set_cons_zero, List.set_cons_succ])
  refine wpAnyT_take (i := 8) (v := ?_) rfl (by kernel_rfl) (fun _ _ _ h => h) (Or.inl ⟨by rfl, ?_⟩) (by assumption) ?_; rotate_left; (next => (intro w hSw; (try dsimp only at hSw); go_simp <;> with_reducible rfl)); (try simp only [Act.put, List.setIfInBounds_toArray, List.set_cons_zero, List.set_cons_succ])
  refine wpAnyT_take (i := 9) (v := ?_) rfl (by kernel_rfl) (fun _ _ _ h => h) (Or.inl ⟨by rfl, ?_⟩) (by assumption) ?_; rotate_left; (next => (intro w hSw; (try dsimp only at hSw); go_simp <;> with_reducible rfl)); (try simp only [Act.put, List.setIfInBounds_toArray, List.set_cons_zero, List.set_cons_succ])
  refine wpAnyT_take (i := 10) (v := ?_) rfl (by kernel_rfl) (fun _ _ _ h => h) (Or.inl ⟨by rfl, ?_⟩) (by assumption) ?_; rotate_left; (next => (intro w hSw; (try dsimp only at hSw); go_simp <;> with_reducible rfl)); (try simp only [Act.put, List.setIfInBounds_toArray, List.set_cons_zero, List.set_cons_succ])
  refine wpAnyT_tail 11 _ rfl (by kernel_rfl) ?_
  have hbr : Bel w19 w20 := (by repeat (first | (with_reducible exact Bel.refl _) | (with_reducible assumption) | (with_reducible apply Bel.alloc) | (with_reducible apply Bel.drewN) | (with_reducible apply Bel.drew) | (with_reducible refine Bel.set ?_ (by simp <;> omega) _) | (refine Bel.trans ?_ (by with_reducible assumption))))
  clear HK hS hr0 hr1 hr2
  have hbN := hbr
  replace Y3 := Hd.mk (Y3.out.bel hbN)
  replace Y5 := Hd.mk (Y5.out.bel hbN)
  replace BW := Hd.mk (BW.out.trans hbN)
  replace O8 := Hd.mk (own_bel O8.out hbN)
  replace ho18 := Hd.mk (own_bel ho18.out hbN)
  clear hbN
  have R20 := Hd.mk (own_rd' encI_ok hown.out rfl (by omega)).1
  have R8 := Hd.mk (own_rd' encI_ok O8.out rfl (by omega)).1
  clear hown hbr hb20 hbp hbm hbe
  go_wp2_with fail
  refine (eqIntS_same A18 A8 D c18 c8 _ R20.out R8.out).mono ?_
  rintro e w21 ⟨rfl, hb21⟩
  clear R20 R8
  have hbN := hb21
  replace Y3 := Hd.mk (Y3.out.bel hbN)
  replace Y5 := Hd.mk (Y5.out.bel hbN)
  replace BW := Hd.mk (BW.out.trans hbN)
  replace O8 := Hd.mk (own_bel O8.out hbN)
  replace ho18 := Hd.mk (own_bel ho18.out hbN)
  clear hbN
  have R18 := Hd.mk (own_rd' encI_ok ho18.out (upto_len _ _).symm (by rw [upto_len]; omega)).1
  go_wp2_with fail
  refine (heldIntS_any A13 D.length c13 1 _ R18.out (by omega) (by omega) (by omega)).mono ?_
  rintro e w22 ⟨rfl, hb22⟩
  clear R18
  have hbN := hb22
  replace Y3 := Hd.mk (Y3.out.bel hbN)
  replace Y5 := Hd.mk (Y5.out.bel hbN)
  replace BW := Hd.mk (BW.out.trans hbN)
  replace O8 := Hd.mk (own_bel O8.out hbN)
  replace ho18 := Hd.mk (own_bel ho18.out hbN)
  clear hbN
  go_wp2
  go_ret
  exact ⟨rfl, BW.out⟩
end Go.Proofs.YtgodbldchaonpaaGreat

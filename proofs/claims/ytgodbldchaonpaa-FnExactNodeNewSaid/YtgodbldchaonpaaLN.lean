/- The law FnExactNodeNew: its walk. No condition. -/
import Derived.Test.YtgodbldchaonpaaLNB
import Derived.Deep.DeepCutAuto
namespace Go.Proofs.Ytgodbldchaonpaa
open Go.RowKit
set_option linter.unusedVariables false
set_option linter.unusedSimpArgs false
set_option maxRecDepth 100000
set_option maxHeartbeats 16000000 in
theorem lawNodeNew_any (tA : Option Addr) (ts : List Tk) (tc : Nat) (vA : Option Addr) (vars : List Int) (vc : Nat) (rA : Option Addr) (rd : List Int) (rc : Nat) (s : Sr) (w : World) (htc : ts.length ≤ tc) (ht : RdT w tA ts) (hvc : vars.length ≤ vc) (hv : RdI w vA vars) (hrc : rd.length ≤ rc) (hr : RdI w rA rd) :
    Calls Try.prog 3 #[.agg #[.slice tA ts.length tc], .slice vA vars.length vc, .slice rA rd.length rc, .agg #[.int .i64 s.chg, .int .i64 s.cap, .int .i64 s.on, .int .i64 s.leak]] w (Bl (.bool true) w) := by
  have lt := RdL.len ht
  have lv := hv.len
  have lr := hr.len
  have HT := Hd.mk ht
  have HV := Hd.mk hv
  have HR := Hd.mk hr
  have hsz := fun W h => szProgram_any tA ts tc 1048576 W h (by omega) (by omega)
  clear ht hv hr htc hvc hrc
  by_cases kv : 1048576 < vars.length
  · go_enter Try.func3, Try.ntmps3
    go_wp2_with fail
    go_ret
    exact ⟨rfl, (by repeat (first | (with_reducible exact Bel.refl _) | (with_reducible assumption) | (with_reducible apply Bel.alloc) | (with_reducible apply Bel.drewN) | (with_reducible apply Bel.drew) | (with_reducible refine Bel.set ?_ (by simp <;> omega) _) | (refine Bel.trans ?_ (by with_reducible assumption))))⟩
  by_cases kr : 1048576 < rd.length
  · go_enter Try.func3, Try.ntmps3
    go_wp2_with fail
    go_ret
    exact ⟨rfl, (by repeat (first | (with_reducible exact Bel.refl _) | (with_reducible assumption) | (with_reducible apply Bel.alloc) | (with_reducible apply Bel.drewN) | (with_reducible apply Bel.drew) | (with_reducible refine Bel.set ?_ (by simp <;> omega) _) | (refine Bel.trans ?_ (by with_reducible assumption))))⟩
  by_cases hz : (1048576 : Int) - tot ts < 0
  · rw [szL_neg hz] at hsz
    go_enter Try.func3, Try.ntmps3
    go_wp2_with (go_at_call 5; refine (hsz _ (RdT.bel HT.out (by repeat (first | (with_reducible exact Bel.refl _) | (with_reducible assumption) | (with_reducible apply Bel.alloc) | (with_reducible apply Bel.drewN) | (with_reducible apply Bel.drew) | (with_reducible refine Bel.set ?_ (by simp <;> omega) _) | (refine Bel.trans ?_ (by with_reducible assumption)))))).mono ?_; rintro e w' ⟨rfl, hb⟩; have hB : Bel w w' := (by repeat (first | exact Bel.refl _ | assumption | apply Bel.alloc | apply Bel.drewN | apply Bel.drew | (refine Bel.trans ?_ (by assumption)))); obtain ⟨hc0, hf0⟩ := hB.rd; obtain ⟨hc, hf⟩ := hb.rd; have hz := hb.size; (try simp at hz); (first | (have hz0 : w.heap.size < w'.heap.size := by omega) | skip); (first | (have hz1 : w.heap.size + 1 < w'.heap.size := by omega) | skip))
    go_ret
    exact ⟨rfl, (by repeat (first | (with_reducible exact Bel.refl _) | (with_reducible assumption) | (with_reducible apply Bel.alloc) | (with_reducible apply Bel.drewN) | (with_reducible apply Bel.drew) | (with_reducible refine Bel.set ?_ (by simp <;> omega) _) | (refine Bel.trans ?_ (by with_reducible assumption))))⟩
  rw [szL_pos hz] at hsz
  have HS := Hd.mk (SmT.of (ts := ts) (n := 1048576) (by omega) (by omega))
  have hz0 : 0 ≤ (1048576 : Int) - tot ts := by omega
  generalize (1048576 : Int) - tot ts = L at hsz hz0
  clear hz
  have hvl : vars.length ≤ 1048576 := by omega
  have hrl : rd.length ≤ 1048576 := by omega
  have cP := Hd.mk (fun W (h : Bel w W) => (toProgram_any tA ts tc W (RdT.bel HT.out h) HS.out.small (by have := HS.out.len; omega)).mono fun _ _ h => MkPr.sml HS.out h)
  have cV := Hd.mk (fun W (h : Bel w W) => (toIntS_any vA vars vc W (HV.out.bel h)).mono fun _ _ h => Mk.sml (by omega) h)
  have cR := Hd.mk (fun W (h : Bel w W) => (toIntS_any rA rd rc W (HR.out.bel h)).mono fun _ _ h => Mk.sml (by omega) h)
  go_enter Try.func3, Try.ntmps3
  go_wp2_with fail
  obtain ⟨W0, hW, Y4, Y7, hb0⟩ : ∃ W0, W0 = ((w.alloc (.cells #[.slice tA ts.length tc] 24)).alloc (.cells #[.int .i64 s.chg, .int .i64 s.cap, .int .i64 s.on, .int .i64 s.leak] 27)) ∧ Hd (Bx W0 w.heap.size 24 #[.slice tA ts.length tc]) ∧ Hd (Bx W0 (w.heap.size + 1) 27 #[.int .i64 s.chg, .int .i64 s.cap, .int .i64 s.on, .int .i64 s.leak]) ∧ Bel w W0 := ⟨_, rfl, ⟨(Bx.new _ _ _).alloc _⟩, ⟨Bx.new' _ _ _ _ (by simp)⟩, ((Bel.refl _).alloc _).alloc _⟩
  rw [← hW]
  clear hW
  refine (hsz _ (RdT.bel HT.out hb0)).mono ?_
  rintro e w1 ⟨rfl, hb1⟩
  have x4 := (Y4.out.bel hb1).cell
  have B1 : Bel w w1 := hb0.trans hb1
  go_upto_region 9 with (fail)
  have BW := Hd.mk B1
  replace Y4 := Hd.mk (Y4.out.bel hb1)
  replace Y7 := Hd.mk (Y7.out.bel hb1)
  have hsW : w.heap.size + 1 < w1.heap.size := Y7.out.lt
  clear x4
  go_cut [10, 11] (fun sP sB wx => ∃ (g : Nat) (a : NA) (ps : List (Value × Tk)), sP = .pointer (some ⟨g, 0, none⟩) ∧ sB = .bool (newOk ts vars rd s) ∧ Bel w1 wx ∧ Hd (NBx g w1.heap.size wx.heap.size a ps (nodeNew ts vars rd s) wx))
  case first =>
    refine lawNN_r9 tA ts tc vA vars vc rA rd rc s w w1 _ _ _ _ _ _ _ _ _ _ _ _ _ _ _ _ _ _ _ _ _ _ _ _ _ _ _ _ _ _ _ _ _ _ _ _ _ _ _ _ _ _ _ _ _ _ _ _ _ _ _ _ _ _ _ _ _ _ _ _ _ _ _ _ _ _ _ _ _ _ _ _ _ _ _ _ _ _ _ _ _ _ _ _ _ _ _ _ _ _ _ _ _ _ _ _ _ _ _ _ _ _ _ _ _ _ _ _ _ _ _ _ _ _ _ _ _ _ _ _ _ _ _ _ _ _ _ _ _ _ _ _ _ _ _ _ _ _ _ _ _ _ _ HS hvl hrl cP cV cR BW Y4 Y7 Y7.out.lt ?_
    intro g a ps u33 u34 u35 u36 u37 u38 u39 u40 u41 u42 u43 u44 w' hbx hNx
    go_step
    go_meet
    case rel => exact ⟨g, a, ps, rfl, rfl, hbx, hNx⟩
  case rest =>
    obtain ⟨g10, a0, ps0, rfl, rfl, hb9, N0⟩ := hcut
    have hbN := hb9
    replace Y4 := Hd.mk (Y4.out.bel hbN)
    replace Y7 := Hd.mk (Y7.out.bel hbN)
    replace BW := Hd.mk (BW.out.trans hbN)
    clear hbN
    have HSm := Hd.mk (sml_new (ts := ts) (vars := vars) (rd := rd) (s := s) HS.out hrl)
    generalize hn : nodeNew ts vars rd s = n at N0 HSm
    replace hn := Hd.mk hn
    generalize hok : newOk ts vars rd s = ok
    replace hok := Hd.mk hok
    have s9 := hb9.size
    have lo0 := N0.out.gh
    have xY4 := Y4.out.cell
    go_wp2_with fail
    refine (cP.out _ BW.out).mono ?_
    rintro e w10 ⟨A0, c0, psx, rfl, hplx, hpsx, hox, hrx, hcx, hb10⟩
    have s10 := hb10.size
    replace hplx := Hd.mk hplx
    replace hpsx := Hd.mk hpsx
    clear xY4
    have hbN := hb10
    replace Y4 := Hd.mk (Y4.out.bel hbN)
    replace Y7 := Hd.mk (Y7.out.bel hbN)
    replace BW := Hd.mk (BW.out.trans hbN)
    replace N0 := Hd.mk (N0.out.bel hbN)
    clear hbN
    have HX := Hd.mk hrx
    have OX := Hd.mk hox
    clear hrx hox
    go_wp2_with fail
    have hal : Bel w10 (w10.alloc (.cells #[.slice A0 ts.length c0] 31)) := (Bel.refl _).alloc _
    have X12 := Hd.mk (Bx.new w10 31 #[.slice A0 ts.length c0])
    have hbN := hal
    replace Y4 := Hd.mk (Y4.out.bel hbN)
    replace Y7 := Hd.mk (Y7.out.bel hbN)
    replace BW := Hd.mk (BW.out.trans hbN)
    replace N0 := Hd.mk (N0.out.bel hbN)
    replace HX := Hd.mk (RdT.bel HX.out hbN)
    replace OX := Hd.mk (OX.out.bel hbN)
    clear hbN
    refine (cV.out _ BW.out).mono ?_
    rintro e w11 ⟨A1, c1, rfl, hov, hrv, hcv, hb11⟩
    have s11 := hb11.size
    simp at s11
    have hbN := hb11
    replace Y4 := Hd.mk (Y4.out.bel hbN)
    replace Y7 := Hd.mk (Y7.out.bel hbN)
    replace BW := Hd.mk (BW.out.trans hbN)
    replace N0 := Hd.mk (N0.out.bel hbN)
    replace HX := Hd.mk (RdT.bel HX.out hbN)
    replace OX := Hd.mk (OX.out.bel hbN)
    replace X12 := Hd.mk (X12.out.bel hbN)
    clear hbN
    have lV := Hd.mk (fun q hq => (show w10.heap.size < q ∧ q < w11.heap.size from by have h := hov.lt q hq; simp at h; omega))
    have OV := Hd.mk hov
    have HV1 := Hd.mk hrv
    clear hov hrv
    go_wp2_with fail
    refine (cR.out _ BW.out).mono ?_
    rintro e w12 ⟨A2, c2, rfl, hor, hrr, hcr, hb12⟩
    have s12 := hb12.size
    have hbN := hb12
    replace Y4 := Hd.mk (Y4.out.bel hbN)
    replace Y7 := Hd.mk (Y7.out.bel hbN)
    replace BW := Hd.mk (BW.out.trans hbN)
    replace N0 := Hd.mk (N0.out.bel hbN)
    replace HX := Hd.mk (RdT.bel HX.out hbN)
    replace OX := Hd.mk (OX.out.bel hbN)
    replace X12 := Hd.mk (X12.out.bel hbN)
    replace OV := Hd.mk (own_bel OV.out hbN)
    replace HV1 := Hd.mk (HV1.out.bel hbN)
    clear hbN
    have OR := Hd.mk hor
    have HR1 := Hd.mk hrr
    clear hor hrr
    have lX := Hd.mk (fun q hq => OX.out.tree q hq)
    have hX0 := Hd.mk (fun q (hq : TreeB (.slice A0 psx.length c0) psx q) => (lX.out q hq).1)
    have lR0 := Hd.mk (fun q hq => (OR.out.lt q hq))
    go_upto_region 13 with (fail)
    go_cut [15, 16] (fun sP sB wx => ∃ (g : Nat) (a : NA) (ps : List (Value × Tk)), sP = .pointer (some ⟨g, 0, none⟩) ∧ sB = .bool (ok) ∧ Bel w12 wx ∧ Hd (NBx g w12.heap.size wx.heap.size a ps (n) wx))
    case first =>
      have e1 := hn.out
      have e2 := hok.out
      clear hn hok
      subst e1 e2
      refine lawNN_r13 A0 A1 A2 ts c0 c1 c2 vars rd s w w10 w12 _ _ _ _ _ _ _ _ _ _ _ _ _ _ _ _ _ _ _ _ _ _ _ _ _ _ _ _ _ _ _ _ _ _ _ _ _ _ _ _ _ _ _ _ _ _ _ _ _ _ _ _ _ _ _ _ _ _ _ _ _ _ _ _ _ _ _ _ _ _ _ _ _ _ _ _ _ _ _ _ _ _ _ _ _ _ _ _ _ _ _ _ _ _ _ _ _ _ _ _ _ _ _ _ _ _ _ _ _ _ _ _ _ _ _ _ _ _ _ _ _ _ _ _ _ _ _ _ _ _ _ _ _ _ _ _ _ _ _ _ _ _ _ HS hvl hrl X12 Y7 HX HV1 HR1 Y7.out.lt X12.out.lt ?_
      intro g a ps u51 u52 u53 u54 u55 u56 u57 u58 u59 w' hbx hNx
      go_step
      go_meet
      case rel => exact ⟨g, a, ps, rfl, rfl, hbx, hNx⟩
    case rest =>
      obtain ⟨g15, a1, ps1, rfl, rfl, hb13, N1⟩ := hcut
      have s13 := hb13.size
      have hi1 := N1.out.gl
      have hbN := hb13
      replace Y4 := Hd.mk (Y4.out.bel hbN)
      replace Y7 := Hd.mk (Y7.out.bel hbN)
      replace BW := Hd.mk (BW.out.trans hbN)
      replace N0 := Hd.mk (N0.out.bel hbN)
      replace HX := Hd.mk (RdT.bel HX.out hbN)
      replace OX := Hd.mk (OX.out.bel hbN)
      replace X12 := Hd.mk (X12.out.bel hbN)
      replace OV := Hd.mk (own_bel OV.out hbN)
      replace HV1 := Hd.mk (HV1.out.bel hbN)
      replace OR := Hd.mk (own_bel OR.out hbN)
      replace HR1 := Hd.mk (HR1.out.bel hbN)
      clear hbN
      have xN0 := N0.out.b.cell
      have xN1 := N1.out.b.cell
      have xX12 := X12.out.cell
      have xY4 := Y4.out.cell
      go_wp2_with fail
      refine (eqNode_same a1 a0 n _ (N1.out.o.read HSm.out) (N0.out.o.read HSm.out)).mono ?_
      rintro e w14 ⟨rfl, hb14⟩
      have s14 := hb14.size
      clear xN0 xN1 xX12 xY4
      have hbN := hb14
      replace Y4 := Hd.mk (Y4.out.bel hbN)
      replace Y7 := Hd.mk (Y7.out.bel hbN)
      replace BW := Hd.mk (BW.out.trans hbN)
      replace N0 := Hd.mk (N0.out.bel hbN)
      replace HX := Hd.mk (RdT.bel HX.out hbN)
      replace OX := Hd.mk (OX.out.bel hbN)
      replace X12 := Hd.mk (X12.out.bel hbN)
      replace OV := Hd.mk (own_bel OV.out hbN)
      replace HV1 := Hd.mk (HV1.out.bel hbN)
      replace OR := Hd.mk (own_bel OR.out hbN)
      replace HR1 := Hd.mk (HR1.out.bel hbN)
      replace N1 := Hd.mk (N1.out.bel hbN)
      clear hbN
      go_wp2_with fail
      have HK : Hd (∀ W', Bel w14 W' → W'.cell? ⟨w10.heap.size, 0, none⟩ = some (.slice A0 ts.length c0) ∧ W'.cell? ⟨w.heap.size, 0, none⟩ = some (.slice tA ts.length tc) ∧ Bel w14 W') := ⟨fun W' h => ⟨(X12.out.bel h).cell 0, (Y4.out.bel h).cell 0, h⟩⟩
      go_region_held3 (fun W' => W'.cell? ⟨w10.heap.size, 0, none⟩ = some (.slice A0 ts.length c0) ∧ W'.cell? ⟨w.heap.size, 0, none⟩ = some (.slice tA ts.length tc) ∧ Bel w14 W') (exact HK.out _ (by repeat (first | (with_reducible exact Bel.refl _) | (with_reducible assumption) | (with_reducible apply Bel.alloc) | (with_reducible apply Bel.drewN) | (with_reducible apply Bel.drew) | (with_reducible refine Bel.set ?_ (by simp <;> omega) _) | (refine Bel.trans ?_ (by with_reducible assumption)))))
        (first
          | (go_at_call 7; refine (cP.out _ (BW.out.trans (by repeat (first | (with_reducible exact Bel.refl _) | (with_reducible assumption) | (with_reducible apply Bel.alloc) | (with_reducible apply Bel.drewN) | (with_reducible apply Bel.drew) | (with_reducible refine Bel.set ?_ (by simp <;> omega) _) | (refine Bel.trans ?_ (by with_reducible assumption)))))).mono ?_; rintro e w15 ⟨A3, c3, ps3, rfl, hp3, hq3, ho3, hr3, hc3, hb15⟩; (replace ho3 := Hd.mk ho3); (replace hr3 := Hd.mk hr3); (replace hp3 := Hd.mk hp3); (replace hq3 := Hd.mk hq3))
          | (go_at_call 12; refine (eqProgram_same A0 A3 ts c0 c3 _ (RdT.bel HX.out (by repeat (first | (with_reducible exact Bel.refl _) | (with_reducible assumption) | (with_reducible apply Bel.alloc) | (with_reducible apply Bel.drewN) | (with_reducible apply Bel.drew) | (with_reducible refine Bel.set ?_ (by simp <;> omega) _) | (refine Bel.trans ?_ (by with_reducible assumption))))) (RdT.bel hr3.out (by repeat (first | (with_reducible exact Bel.refl _) | (with_reducible assumption) | (with_reducible apply Bel.alloc) | (with_reducible apply Bel.drewN) | (with_reducible apply Bel.drew) | (with_reducible refine Bel.set ?_ (by simp <;> omega) _) | (refine Bel.trans ?_ (by with_reducible assumption)))))).mono ?_; rintro e w16 ⟨rfl, hb16⟩))
      clear HK
      have hb1416 : Bel w14 w16 := (by repeat (first | (with_reducible exact Bel.refl _) | (with_reducible assumption) | (with_reducible apply Bel.alloc) | (with_reducible apply Bel.drewN) | (with_reducible apply Bel.drew) | (with_reducible refine Bel.set ?_ (by simp <;> omega) _) | (refine Bel.trans ?_ (by with_reducible assumption))))
      have s16 := hb1416.size
      have hbN := hb1416
      replace Y4 := Hd.mk (Y4.out.bel hbN)
      replace Y7 := Hd.mk (Y7.out.bel hbN)
      replace BW := Hd.mk (BW.out.trans hbN)
      replace N0 := Hd.mk (N0.out.bel hbN)
      replace HX := Hd.mk (RdT.bel HX.out hbN)
      replace OX := Hd.mk (OX.out.bel hbN)
      replace X12 := Hd.mk (X12.out.bel hbN)
      replace OV := Hd.mk (own_bel OV.out hbN)
      replace HV1 := Hd.mk (HV1.out.bel hbN)
      replace OR := Hd.mk (own_bel OR.out hbN)
      replace HR1 := Hd.mk (HR1.out.bel hbN)
      replace N1 := Hd.mk (N1.out.bel hbN)
      clear hbN
      clear hb1416 hb16 hb15
      go_wp2_with fail
      refine (cV.out _ BW.out).mono ?_
      rintro e w17 ⟨A4, c4, rfl, ho4, hr4, hc4, hb17⟩
      have s17 := hb17.size
      replace hr4 := Hd.mk hr4
      clear ho4
      have hbN := hb17
      replace Y4 := Hd.mk (Y4.out.bel hbN)
      replace Y7 := Hd.mk (Y7.out.bel hbN)
      replace BW := Hd.mk (BW.out.trans hbN)
      replace N0 := Hd.mk (N0.out.bel hbN)
      replace HX := Hd.mk (RdT.bel HX.out hbN)
      replace OX := Hd.mk (OX.out.bel hbN)
      replace X12 := Hd.mk (X12.out.bel hbN)
      replace OV := Hd.mk (own_bel OV.out hbN)
      replace HV1 := Hd.mk (HV1.out.bel hbN)
      replace OR := Hd.mk (own_bel OR.out hbN)
      replace HR1 := Hd.mk (HR1.out.bel hbN)
      replace N1 := Hd.mk (N1.out.bel hbN)
      clear hbN
      go_wp2_with fail
      refine (eqIntS_same A1 A4 vars c1 c4 _ HV1.out hr4.out).mono ?_
      rintro e w18 ⟨rfl, hb18⟩
      have s18 := hb18.size
      have hbN := hb18
      replace Y4 := Hd.mk (Y4.out.bel hbN)
      replace Y7 := Hd.mk (Y7.out.bel hbN)
      replace BW := Hd.mk (BW.out.trans hbN)
      replace N0 := Hd.mk (N0.out.bel hbN)
      replace HX := Hd.mk (RdT.bel HX.out hbN)
      replace OX := Hd.mk (OX.out.bel hbN)
      replace X12 := Hd.mk (X12.out.bel hbN)
      replace OV := Hd.mk (own_bel OV.out hbN)
      replace HV1 := Hd.mk (HV1.out.bel hbN)
      replace OR := Hd.mk (own_bel OR.out hbN)
      replace HR1 := Hd.mk (HR1.out.bel hbN)
      replace N1 := Hd.mk (N1.out.bel hbN)
      clear hbN
      go_wp2_with fail
      refine (cR.out _ BW.out).mono ?_
      rintro e w19 ⟨A5, c5, rfl, ho5, hr5, hc5, hb19⟩
      have s19 := hb19.size
      replace hr5 := Hd.mk hr5
      clear ho5
      have hbN := hb19
      replace Y4 := Hd.mk (Y4.out.bel hbN)
      replace Y7 := Hd.mk (Y7.out.bel hbN)
      replace BW := Hd.mk (BW.out.trans hbN)
      replace N0 := Hd.mk (N0.out.bel hbN)
      replace HX := Hd.mk (RdT.bel HX.out hbN)
      replace OX := Hd.mk (OX.out.bel hbN)
      replace X12 := Hd.mk (X12.out.bel hbN)
      replace OV := Hd.mk (own_bel OV.out hbN)
      replace HV1 := Hd.mk (HV1.out.bel hbN)
      replace OR := Hd.mk (own_bel OR.out hbN)
      replace HR1 := Hd.mk (HR1.out.bel hbN)
      replace N1 := Hd.mk (N1.out.bel hbN)
      clear hbN
      go_wp2_with fail
      refine (eqIntS_same A2 A5 rd c2 c5 _ HR1.out hr5.out).mono ?_
      rintro e w20 ⟨rfl, hb20⟩
      have s20 := hb20.size
      have hbN := hb20
      replace Y4 := Hd.mk (Y4.out.bel hbN)
      replace Y7 := Hd.mk (Y7.out.bel hbN)
      replace BW := Hd.mk (BW.out.trans hbN)
      replace N0 := Hd.mk (N0.out.bel hbN)
      replace HX := Hd.mk (RdT.bel HX.out hbN)
      replace OX := Hd.mk (OX.out.bel hbN)
      replace X12 := Hd.mk (X12.out.bel hbN)
      replace OV := Hd.mk (own_bel OV.out hbN)
      replace HV1 := Hd.mk (HV1.out.bel hbN)
      replace OR := Hd.mk (own_bel OR.out hbN)
      replace HR1 := Hd.mk (HR1.out.bel hbN)
      replace N1 := Hd.mk (N1.out.bel hbN)
      clear hbN
      have hcx9 := cnt_sml HS.out hpsx.out
      have kx0 : 0 ≤ 1 + (cnt psx : Int) := by omega
      have kx1 : 0 ≤ 1 + (cnt psx : Int) + vars.length := by omega
      have kx2 : 0 ≤ 1 + (cnt psx : Int) + vars.length + rd.length := by omega
      have xX12 := X12.out.cell
      go_wp2_with fail
      refine (markProgram_sml _ A0 ts psx c0 1 _ HS.out hpsx.out OX.out (by omega) (by omega)).mono ?_
      rintro e w21 ⟨rfl, hc21⟩
      have s21 := hc21.size
      have r21 := Hd.mk (fun q (hq : TreeB (.slice A0 psx.length c0) psx q) => lX.out q hq)
      clear xX12
      have neV := Hd.mk (fun q hq => tree_ne' OX.out OV.out q hq)
      have neR := Hd.mk (fun q hq => tree_ne' OX.out OR.out q hq)
      replace Y4 := Hd.mk (Y4.out.chg hc21 (fun h => by have := r21.out _ h; have := Y4.out.lt; omega))
      replace Y7 := Hd.mk (Y7.out.chg hc21 (fun h => by have := r21.out _ h; have := Y7.out.lt; omega))
      replace BW := Hd.mk (hc21.toBel BW.out (fun q h => by have := r21.out _ h; omega))
      replace N0 := Hd.mk (N0.out.chg hc21 (fun q h => by have := r21.out _ h; omega))
      replace OV := Hd.mk (hc21.own OV.out neV.out)
      replace OR := Hd.mk (hc21.own OR.out neR.out)
      replace N1 := Hd.mk (N1.out.chg hc21 (fun q h => by have := r21.out _ h; omega))
      go_wp2_with fail
      refine (markIntS_sml _ A1 vars c1 _ _ hvl OV.out kx0 (by omega)).mono ?_
      rintro e w22 ⟨rfl, hc22⟩
      have s22 := hc22.size
      have r22 := Hd.mk (fun q (hq : (Value.slice A1 vars.length c1).ownBlock = some q) => lV.out q hq)
      replace Y4 := Hd.mk (Y4.out.chg hc22 (fun h => by have := r22.out _ h; have := Y4.out.lt; omega))
      replace Y7 := Hd.mk (Y7.out.chg hc22 (fun h => by have := r22.out _ h; have := Y7.out.lt; omega))
      replace BW := Hd.mk (hc22.toBel BW.out (fun q h => by have := r22.out _ h; omega))
      replace N0 := Hd.mk (N0.out.chg hc22 (fun q h => by have := r22.out _ h; omega))
      replace OR := Hd.mk (hc22.own OR.out (fun q h1 h2 => by have := (lR0.out q h1).1; have := (lV.out q h2).2; omega))
      replace N1 := Hd.mk (N1.out.chg hc22 (fun q h => by have := r22.out _ h; omega))
      go_wp2_with fail
      refine (markIntS_sml _ A2 rd c2 _ _ hrl OR.out kx1 (by omega)).mono ?_
      rintro e w23 ⟨rfl, hc23⟩
      have s23 := hc23.size
      have r23 := Hd.mk (fun q (hq : (Value.slice A2 rd.length c2).ownBlock = some q) => lR0.out q hq)
      replace Y4 := Hd.mk (Y4.out.chg hc23 (fun h => by have := r23.out _ h; have := Y4.out.lt; omega))
      replace Y7 := Hd.mk (Y7.out.chg hc23 (fun h => by have := r23.out _ h; have := Y7.out.lt; omega))
      replace BW := Hd.mk (hc23.toBel BW.out (fun q h => by have := r23.out _ h; omega))
      replace N0 := Hd.mk (N0.out.chg hc23 (fun q h => by have := r23.out _ h; omega))
      replace N1 := Hd.mk (N1.out.chg hc23 (fun q h => by have := r23.out _ h; omega))
      have xN0 := N0.out.b.cell
      have xN1 := N1.out.b.cell
      go_wp2_with fail
      refine (eqNode_same a1 a0 n _ (N1.out.o.read HSm.out) (N0.out.o.read HSm.out)).mono ?_
      rintro e w24 ⟨rfl, hb24⟩
      have s24 := hb24.size
      clear xN0 xN1
      have hbN := hb24
      replace Y4 := Hd.mk (Y4.out.bel hbN)
      replace Y7 := Hd.mk (Y7.out.bel hbN)
      replace BW := Hd.mk (BW.out.trans hbN)
      replace N0 := Hd.mk (N0.out.bel hbN)
      replace N1 := Hd.mk (N1.out.bel hbN)
      clear hbN
      have xN1 := N1.out.b.cell
      have hcn := cntN_sml (ps := ps1) HSm.out N1.out.o.eq
      have kn0 : 0 ≤ 1 + (cntN ps1 n : Int) := by omega
      have hps1 := Hd.mk N1.out.o.eq
      have X15 := Hd.mk N1.out.b
      have lN1 := Hd.mk (fun q (hq : NdB a1 ps1 n q) => (N1.out.o.node q hq))
      have nN1 := Hd.mk (fun q (hq : NdB a1 ps1 n q) => N1.out.o.box_ne N1.out.b (by decide) (by decide) (by decide) q hq)
      go_wp2_with fail
      refine (markNode_sml' _ a1 ps1 n _ HSm.out N1.out.o).mono ?_
      rintro e w25 ⟨rfl, hm25, hc25⟩
      have s25 := hc25.size
      replace hm25 := Hd.mk hm25
      clear xN1
      replace X15 := Hd.mk (X15.out.chg hc25 (fun h => nN1.out _ h rfl))
      clear N1
      replace Y4 := Hd.mk (Y4.out.chg hc25 (fun h => by have := lN1.out _ h; have := Y4.out.lt; omega))
      replace Y7 := Hd.mk (Y7.out.chg hc25 (fun h => by have := lN1.out _ h; have := Y7.out.lt; omega))
      replace BW := Hd.mk (hc25.toBel BW.out (fun q h => by have := lN1.out _ h; omega))
      replace N0 := Hd.mk (N0.out.chg hc25 (fun q h => by have := lN1.out _ h; omega))
      have xX15 := X15.out.cell
      go_wp2_with fail
      refine (heldNode_sml _ a1 ps1 n _ HSm.out hps1.out hm25.out).mono ?_
      rintro e w26 ⟨rfl, hb26⟩
      have s26 := hb26.size
      clear xX15
      have hbN := hb26
      replace Y4 := Hd.mk (Y4.out.bel hbN)
      replace Y7 := Hd.mk (Y7.out.bel hbN)
      replace BW := Hd.mk (BW.out.trans hbN)
      replace N0 := Hd.mk (N0.out.bel hbN)
      replace X15 := Hd.mk (X15.out.bel hbN)
      replace hm25 := Hd.mk (hm25.out.bel hbN)
      clear hbN
      go_upto_region 36 with (fail)
      go_cut [20, 21] (fun sP sB wx => ∃ (g : Nat) (a : NA) (ps : List (Value × Tk)), sP = .pointer (some ⟨g, 0, none⟩) ∧ sB = .bool (ok) ∧ Bel w26 wx ∧ Hd (NBx g w26.heap.size wx.heap.size a ps (n) wx))
      case first =>
        have e1 := hn.out
        have e2 := hok.out
        clear hn hok
        subst e1 e2
        refine lawNN_r36 tA ts tc vA vars vc rA rd rc s w w26 _ _ _ _ _ _ _ _ _ _ _ _ _ _ _ _ _ _ _ _ _ _ _ _ _ _ _ _ _ _ _ _ _ _ _ _ _ _ _ _ _ _ _ _ _ _ _ _ _ _ _ _ _ _ _ _ _ _ _ _ _ _ _ _ _ _ _ _ _ _ _ _ _ _ _ _ _ _ _ _ _ _ _ _ _ _ _ _ _ _ _ _ _ _ _ _ _ _ _ _ _ _ _ _ _ _ _ _ _ _ _ _ _ _ _ _ _ _ _ _ _ _ _ _ _ _ _ _ _ _ _ _ _ _ _ _ _ _ _ _ _ _ _ HS hvl hrl cP cV cR BW Y4 Y7 Y7.out.lt ?_
        intro g a ps u117 u118 u119 u120 u121 u122 u123 u124 u125 u126 u127 u128 w' hbx hNx
        go_step
        go_meet
        case rel => exact ⟨g, a, ps, rfl, rfl, hbx, hNx⟩
      case rest =>
        obtain ⟨g20, a2, ps2, rfl, rfl, hb27, N2⟩ := hcut
        have s27 := hb27.size
        have hbN := hb27
        replace Y4 := Hd.mk (Y4.out.bel hbN)
        replace Y7 := Hd.mk (Y7.out.bel hbN)
        replace BW := Hd.mk (BW.out.trans hbN)
        replace N0 := Hd.mk (N0.out.bel hbN)
        replace X15 := Hd.mk (X15.out.bel hbN)
        replace hm25 := Hd.mk (hm25.out.bel hbN)
        clear hbN
        have xN0 := N0.out.b.cell
        have xN2 := N2.out.b.cell
        have xX15 := X15.out.cell
        go_wp2_with fail
        refine (eqNode_same a2 a0 n _ (N2.out.o.read HSm.out) (N0.out.o.read HSm.out)).mono ?_
        rintro e w28 ⟨rfl, hb28⟩
        have s28 := hb28.size
        clear xN0 xN2 xX15
        have hbN := hb28
        replace Y4 := Hd.mk (Y4.out.bel hbN)
        replace Y7 := Hd.mk (Y7.out.bel hbN)
        replace BW := Hd.mk (BW.out.trans hbN)
        replace N0 := Hd.mk (N0.out.bel hbN)
        replace X15 := Hd.mk (X15.out.bel hbN)
        replace hm25 := Hd.mk (hm25.out.bel hbN)
        replace N2 := Hd.mk (N2.out.bel hbN)
        clear hbN
        have xX15 := X15.out.cell
        go_wp2_with fail
        refine (heldNode_sml _ a1 ps1 n _ HSm.out hps1.out hm25.out).mono ?_
        rintro e w29 ⟨rfl, hb29⟩
        clear xX15
        have hbN := hb29
        replace Y4 := Hd.mk (Y4.out.bel hbN)
        replace Y7 := Hd.mk (Y7.out.bel hbN)
        replace BW := Hd.mk (BW.out.trans hbN)
        replace N0 := Hd.mk (N0.out.bel hbN)
        replace X15 := Hd.mk (X15.out.bel hbN)
        replace hm25 := Hd.mk (hm25.out.bel hbN)
        replace N2 := Hd.mk (N2.out.bel hbN)
        clear hbN
        go_wp2
        go_ret
        exact ⟨rfl, BW.out⟩
end Go.Proofs.Ytgodbldchaonpaa

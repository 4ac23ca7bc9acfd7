/- The law FnExactSentBy: its walk. No condition. -/
import Derived.Test.YtgodbldchaonpaaRO
namespace Go.Proofs.Ytgodbldchaonpaa
open Go.RowKit
set_option linter.unusedVariables false
set_option maxRecDepth 100000
theorem box_all (w : World) (cs : Array Value) (t : TypeId) : ∀ o, (w.alloc (.cells cs t)).cell? ⟨w.heap.size, o, none⟩ = cs[o]? := fun o => cell_of_row _ _ _ cs t (0, 0) (heap_alloc_new w _)
theorem box_bel {W w' : World} {g : Nat} {cs : Array Value} (h : ∀ o, W.cell? ⟨g, o, none⟩ = cs[o]?) (hb : Bel W w') (hg : g < W.heap.size) : ∀ o, w'.cell? ⟨g, o, none⟩ = cs[o]? := fun o => (hb.out.cell (p := ⟨g, o, none⟩) hg).trans (h o)
theorem OwN.bel {lo : Nat} {w w' : World} {vt vm vr vg : Value} {ps : List (Value × Tk)} {n : Nd} (h : OwN lo w vt vm vr vg ps n) (hb : Bel w w') : OwN lo w' vt vm vr vg ps n :=
  ⟨h.ts.bel hb, own_bel h.mem hb, own_bel h.rd hb, own_bel h.got hb, h.mr, h.mg, h.rg, h.eq⟩
/-- A node made anew and small is marked. -/
theorem markNode_sml (lo : Nat) (a : NA) (ps : List (Value × Tk)) (n : Nd) (w : World) (hpl : ps.length = n.ts.length) (hs : Sml n)
    (ho : OwN lo w (.slice a.tA ps.length a.tc) (.slice a.mA n.mem.length a.mc) (.slice a.rA n.rd.length a.rc) (.slice a.gA n.got.length a.gc) ps n) :
    Calls Try.prog 16 #[.agg #[.slice a.tA n.ts.length a.tc, .slice a.mA n.mem.length a.mc, .slice a.rA n.rd.length a.rc, .int .i64 n.at', .int .i64 n.sr.chg, .int .i64 n.sr.cap, .int .i64 n.sr.on, .int .i64 n.sr.leak, .int .i64 n.lo, .int .i64 n.hi, .int .i64 n.ack, .slice a.gA n.got.length a.gc, .int .i64 n.done], .int .i64 1] w (Mrk (.slice a.tA ps.length a.tc) 1 (cntN ps n) (fun w' => OwN lo w' (.slice a.tA ps.length a.tc) (.slice a.mA n.mem.length a.mc) (.slice a.rA n.rd.length a.rc) (.slice a.gA n.got.length a.gc) (mkTs 1 ps) (mkN 1 ps n)) (NodeB (.slice a.tA ps.length a.tc) (.slice a.mA n.mem.length a.mc) (.slice a.rA n.rd.length a.rc) (.slice a.gA n.got.length a.gc) ps) w) := by
  have hc : cntN ps n ≤ 20000000 := by
    unfold cntN; rw [cnt_eq, ho.eq, hpl]
    have := hs.bods; have := hs.ts; have := hs.mem; have := hs.rd; have := hs.got; omega
  have h := markNode_any lo a.tA a.mA a.rA a.gA a.tc a.mc a.rc a.gc ps n 1 w ho (by omega) (by omega) (by rw [hpl]; have := hs.ts; omega) (fun p hp => by have := hs.body p.2 (by rw [← ho.eq]; exact List.mem_map.2 ⟨p, hp, rfl⟩); omega) (by have := hs.mem; omega) (by have := hs.rd; omega) (by have := hs.got; omega)
  unfold valN at h
  rw [hpl] at h ⊢
  exact h
theorem Bel.trans' {S : Nat → Prop} {w a b : World} (h : Bel w a) (hc : Chg S a b) (hS : ∀ k, S k → w.heap.size ≤ k) : Bel w b :=
  ⟨⟨hc.os.trans h.out.os, hc.tape.trans h.out.tape, hc.output.trans h.out.output, Nat.le_trans h.out.size hc.size, fun k hk => (hc.block k (Nat.lt_of_lt_of_le hk h.out.size) (fun e => by have := hS k e; omega)).trans (h.out.block k hk)⟩⟩
theorem Chg.toBel {S : Nat → Prop} {w a b : World} (hc : Chg S a b) (h : Bel w a) (hS : ∀ k, S k → w.heap.size ≤ k) : Bel w b :=
  h.trans' hc hS
theorem sent_by_len (n : Nd) : (sentBy n).length ≤ 24 := by
  unfold sentBy; split
  · exact sent_len _
  · simp
set_option maxHeartbeats 4000000 in
theorem lawSentBy_any (a : NA) (n : Nd) (w : World) (hN : RdN w a n) : Calls Try.prog 4 #[.agg #[.slice a.tA n.ts.length a.tc, .slice a.mA n.mem.length a.mc, .slice a.rA n.rd.length a.rc, .int .i64 n.at', .int .i64 n.sr.chg, .int .i64 n.sr.cap, .int .i64 n.sr.on, .int .i64 n.sr.leak, .int .i64 n.lo, .int .i64 n.hi, .int .i64 n.ack, .slice a.gA n.got.length a.gc, .int .i64 n.done]] w (Bl (.bool true) w) := by
  have HN := Hd.mk hN
  have hsz := fun W h => szNode_any a n 1048576 W h (by omega) (by omega)
  clear hN
  by_cases hz : (1048576 : Int) - totN n < 0
  · rw [szL_neg hz] at hsz
    go_enter Try.func4, Try.ntmps4
    go_wp2_with (go_at_call 18; refine (hsz _ (HN.out.bel (by repeat (first | (with_reducible exact Bel.refl _) | (with_reducible assumption) | (with_reducible apply Bel.alloc) | (with_reducible apply Bel.drewN) | (with_reducible apply Bel.drew) | (with_reducible refine Bel.set ?_ (by simp <;> omega) _) | (refine Bel.trans ?_ (by with_reducible assumption)))))).mono ?_; rintro e w' ⟨rfl, hb⟩; have hB : Bel w w' := (by repeat (first | exact Bel.refl _ | assumption | apply Bel.alloc | apply Bel.drewN | apply Bel.drew | (refine Bel.trans ?_ (by assumption)))); obtain ⟨hc0, hf0⟩ := hB.rd; obtain ⟨hc, hf⟩ := hb.rd; have hz := hb.size; (try simp at hz); (first | (have hz0 : w.heap.size < w'.heap.size := by omega) | skip); (first | (have hz1 : w.heap.size + 1 < w'.heap.size := by omega) | skip))
    go_ret
    exact ⟨rfl, (by repeat (first | (with_reducible exact Bel.refl _) | (with_reducible assumption) | (with_reducible apply Bel.alloc) | (with_reducible apply Bel.drewN) | (with_reducible apply Bel.drew) | (with_reducible refine Bel.set ?_ (by simp <;> omega) _) | (refine Bel.trans ?_ (by with_reducible assumption))))⟩
  · rw [szL_pos hz] at hsz
    have HS := Hd.mk (Sml.of hz)
    have hz0 : 0 ≤ (1048576 : Int) - totN n := by omega
    generalize (1048576 : Int) - totN n = L at hsz hz0
    clear hz
    go_enter Try.func4, Try.ntmps4
    go_wp2_with fail
    refine (hsz _ (HN.out.bel (by repeat (first | (with_reducible exact Bel.refl _) | (with_reducible assumption) | (with_reducible apply Bel.alloc) | (with_reducible apply Bel.drewN) | (with_reducible apply Bel.drew) | (with_reducible refine Bel.set ?_ (by simp <;> omega) _) | (refine Bel.trans ?_ (by with_reducible assumption)))))).mono ?_
    rintro e w1 ⟨rfl, hb1⟩
    have x1 := box_bel (box_all w #[.slice a.tA n.ts.length a.tc, .slice a.mA n.mem.length a.mc, .slice a.rA n.rd.length a.rc, .int .i64 n.at', .int .i64 n.sr.chg, .int .i64 n.sr.cap, .int .i64 n.sr.on, .int .i64 n.sr.leak, .int .i64 n.lo, .int .i64 n.hi, .int .i64 n.ack, .slice a.gA n.got.length a.gc, .int .i64 n.done] 58) hb1 (by simp)
    have s1 := hb1.size
    simp at s1
    have B1 : Bel w w1 := by repeat (first | (with_reducible exact Bel.refl _) | (with_reducible assumption) | (with_reducible apply Bel.alloc) | (with_reducible apply Bel.drewN) | (with_reducible apply Bel.drew) | (with_reducible refine Bel.set ?_ (by simp <;> omega) _) | (refine Bel.trans ?_ (by with_reducible assumption)))
    replace hb1 := Hd.mk hb1
    go_wp2_with fail
    refine (toNode_sml a n _ (HN.out.bel B1) HS.out).mono ?_
    rintro e w2 ⟨xa, psa, rfl, hpla, hoa, hra, hb2⟩
    have x2 := box_bel x1 hb2 (by omega)
    have s2 := hb2.size
    have B2 : Bel w w2 := by repeat (first | (with_reducible exact Bel.refl _) | (with_reducible assumption) | (with_reducible apply Bel.alloc) | (with_reducible apply Bel.drewN) | (with_reducible apply Bel.drew) | (with_reducible refine Bel.set ?_ (by simp <;> omega) _) | (refine Bel.trans ?_ (by with_reducible assumption)))
    clear x1
    replace hoa := Hd.mk hoa
    replace hra := Hd.mk hra
    replace hpla := Hd.mk hpla
    go_wp2_with fail
    refine (sSentBy_any xa n _ hra.out).mono ?_
    rintro e w3 ⟨v4, rfl, ho4, hb3⟩
    obtain ⟨A4, c4, rfl, hc4⟩ := own_shape ho4
    have x3 := box_bel x2 hb3 (by omega)
    have s3 := hb3.size
    have B3 : Bel w w3 := by repeat (first | (with_reducible exact Bel.refl _) | (with_reducible assumption) | (with_reducible apply Bel.alloc) | (with_reducible apply Bel.drewN) | (with_reducible apply Bel.drew) | (with_reducible refine Bel.set ?_ (by simp <;> omega) _) | (refine Bel.trans ?_ (by with_reducible assumption)))
    clear x2
    replace ho4 := Hd.mk ho4
    go_wp2_with fail
    refine (toNode_sml a n _ (HN.out.bel B3) HS.out).mono ?_
    rintro e w4 ⟨xb, psb, rfl, hplb, hob, hrb, hb4⟩
    have x4 := box_bel x3 hb4 (by omega)
    have s4 := hb4.size
    have B4 : Bel w w4 := by repeat (first | (with_reducible exact Bel.refl _) | (with_reducible assumption) | (with_reducible apply Bel.alloc) | (with_reducible apply Bel.drewN) | (with_reducible apply Bel.drew) | (with_reducible refine Bel.set ?_ (by simp <;> omega) _) | (refine Bel.trans ?_ (by with_reducible assumption)))
    clear x3
    have hoA := Hd.mk hob
    replace hob := Hd.mk hob
    replace hrb := Hd.mk hrb
    replace hplb := Hd.mk hplb
    go_wp2_with fail
    have y4 := box_all w4 #[.slice xb.tA n.ts.length xb.tc, .slice xb.mA n.mem.length xb.mc, .slice xb.rA n.rd.length xb.rc, .int .i64 n.at', .int .i64 n.sr.chg, .int .i64 n.sr.cap, .int .i64 n.sr.on, .int .i64 n.sr.leak, .int .i64 n.lo, .int .i64 n.hi, .int .i64 n.ack, .slice xb.gA n.got.length xb.gc, .int .i64 n.done] 40
    have hal : Bel w4 (w4.alloc (.cells #[.slice xb.tA n.ts.length xb.tc, .slice xb.mA n.mem.length xb.mc, .slice xb.rA n.rd.length xb.rc, .int .i64 n.at', .int .i64 n.sr.chg, .int .i64 n.sr.cap, .int .i64 n.sr.on, .int .i64 n.sr.leak, .int .i64 n.lo, .int .i64 n.hi, .int .i64 n.ack, .slice xb.gA n.got.length xb.gc, .int .i64 n.done] 40)) := (Bel.refl w4).alloc _
    have x4' := box_bel x4 hal (by omega)
    refine (SentBy_any xb n _ (hrb.out.bel hal)).mono ?_
    rintro e w5 ⟨v6, rfl, ho6, hb5⟩
    obtain ⟨A6, c6, rfl, hc6⟩ := own_shape ho6
    have x5 := box_bel x4' hb5 (by simp; omega)
    have y5 := box_bel y4 hb5 (by simp)
    have s5 := hb5.size
    simp at s5
    have B5 : Bel w w5 := by repeat (first | (with_reducible exact Bel.refl _) | (with_reducible assumption) | (with_reducible apply Bel.alloc) | (with_reducible apply Bel.drewN) | (with_reducible apply Bel.drew) | (with_reducible refine Bel.set ?_ (by simp <;> omega) _) | (refine Bel.trans ?_ (by with_reducible assumption)))
    have B45 : Bel w4 w5 := hal.trans hb5
    clear x4 x4' y4
    replace ho6 := Hd.mk ho6
    have hsl := sent_by_len n
    have r4 := Hd.mk (own_rd' encI_ok ho4.out rfl (by omega)).1
    have r6 := Hd.mk (own_rd' encI_ok ho6.out rfl (by omega)).1
    have B35 : Bel w3 w5 := (Hd.mk hb4).out.trans B45
    go_wp2_with fail
    refine (eqIntS_same A6 A4 (sentBy n) c6 c4 _ r6.out (r4.out.bel B35)).mono ?_
    rintro e w6 ⟨rfl, hb6⟩
    have x6 := box_bel x5 hb6 (by omega)
    have y6 := box_bel y5 hb6 (by omega)
    have s6 := hb6.size
    have B6 : Bel w w6 := by repeat (first | (with_reducible exact Bel.refl _) | (with_reducible assumption) | (with_reducible apply Bel.alloc) | (with_reducible apply Bel.drewN) | (with_reducible apply Bel.drew) | (with_reducible refine Bel.set ?_ (by simp <;> omega) _) | (refine Bel.trans ?_ (by with_reducible assumption)))
    have B56 : Bel w5 w6 := hb6
    clear x5 y5
    go_wp2_with fail
    have g1 : w.heap.size < w6.drew.heap.size := by show w.heap.size < w6.heap.size; omega
    have g5 : w4.heap.size < w6.drew.heap.size := by show w4.heap.size < w6.heap.size; omega
    go_region_held3 (fun W' => (∀ o, W'.cell? ⟨w.heap.size, o, none⟩ = (#[.slice a.tA n.ts.length a.tc, .slice a.mA n.mem.length a.mc, .slice a.rA n.rd.length a.rc, .int .i64 n.at', .int .i64 n.sr.chg, .int .i64 n.sr.cap, .int .i64 n.sr.on, .int .i64 n.sr.leak, .int .i64 n.lo, .int .i64 n.hi, .int .i64 n.ack, .slice a.gA n.got.length a.gc, .int .i64 n.done] : Array Value)[o]?) ∧ (∀ o, W'.cell? ⟨w4.heap.size, o, none⟩ = (#[.slice xb.tA n.ts.length xb.tc, .slice xb.mA n.mem.length xb.mc, .slice xb.rA n.rd.length xb.rc, .int .i64 n.at', .int .i64 n.sr.chg, .int .i64 n.sr.cap, .int .i64 n.sr.on, .int .i64 n.sr.leak, .int .i64 n.lo, .int .i64 n.hi, .int .i64 n.ack, .slice xb.gA n.got.length xb.gc, .int .i64 n.done] : Array Value)[o]?) ∧ Bel w6 W')
      (refine ⟨?_, ?_, ?_⟩ <;> first | exact x6 | exact y6 | exact (Bel.refl _).drew | exact x7 | exact y7 | exact B67 | exact x8 | exact y8 | exact B68)
      (first | (go_at_call 20; refine (toNode_sml a n _ (HN.out.bel B6.drew) HS.out).mono ?_; rintro e w7 ⟨xc, psc, rfl, hplc, hoc, hrc, hb7⟩; have x7 := box_bel (W := w6.drew) x6 hb7 g1; have y7 := box_bel (W := w6.drew) y6 hb7 g5; have B67 : Bel w6 w7 := ((Bel.refl w6).drew).trans hb7; have s7 := B67.size; replace hoc := Hd.mk hoc; replace hrc := Hd.mk hrc; replace hplc := Hd.mk hplc) | (go_at_call 11; refine (eqNode_same xb xc n _ (hrb.out.bel ((B45.trans B56).trans B67)) hrc.out).mono ?_; rintro e w8 ⟨rfl, hb8⟩; have x8 := box_bel x7 hb8 (by omega); have y8 := box_bel y7 hb8 (by omega); have B68 : Bel w6 w8 := B67.trans hb8; have s8 := B68.size))
    all_goals clear x6 y6 x7 y7
    go_wp2_with fail
    have B48 : Bel w4 w8 := (B45.trans B56).trans B68
    refine (markNode_sml w3.heap.size xb psb n _ hplb.out HS.out (hob.out.bel B48)).mono ?_
    rintro e w9 ⟨rfl, hm9, hc9⟩
    have hcn : 0 ≤ 1 + (cntN psb n : Int) := by omega
    have nb9 : Hd (∀ b, NodeB (.slice xb.tA psb.length xb.tc) (.slice xb.mA n.mem.length xb.mc) (.slice xb.rA n.rd.length xb.rc) (.slice xb.gA n.got.length xb.gc) psb b → w3.heap.size ≤ b ∧ b < w4.heap.size) := ⟨fun b hb => hob.out.node b hb⟩
    have x9 := fun o => (hc9.rd w.heap.size (by omega) (fun h => by have := nb9.out _ h; omega) o).trans (x8 o)
    have ho49 := Hd.mk (hc9.own (own_bel ho4.out (B35.trans (B56.trans B68))) (fun k hk h => by have h1 := (ho4.out.lt k hk).2; have := nb9.out k h; omega))
    have ho69 := Hd.mk (hc9.own (own_bel ho6.out (B56.trans B68)) (fun k hk h => by have h1 := (ho6.out.lt k hk).1; have := nb9.out k h; simp at h1; omega))
    have s9 := hc9.size
    have r49 := Hd.mk (own_rd' encI_ok ho49.out rfl (by omega)).1
    have r69 := Hd.mk (own_rd' encI_ok ho69.out rfl (by omega)).1
    replace hc9 := Hd.mk hc9
    clear x8 y8 hm9
    go_wp2_with fail
    refine (eqIntS_same A6 A4 (sentBy n) c6 c4 _ r69.out r49.out).mono ?_
    rintro e w10 ⟨rfl, hb10⟩
    have g9 : w.heap.size < w9.heap.size := by omega
    have x10 := box_bel x9 hb10 g9
    have s10 := hb10.size
    have ho6a := Hd.mk (own_bel ho69.out hb10)
    have ho4a := Hd.mk (own_bel ho49.out hb10)
    clear x9
    go_wp2_with fail
    refine (markIntS_any _ A6 (sentBy n) c6 1 _ ho6a.out (by omega) (by omega) (by omega)).mono ?_
    rintro e w11 ⟨rfl, hm11, hc11⟩
    have lo6 := Hd.mk (fun k hk => (ho6.out.lt k hk))
    have lo4 := Hd.mk (fun k hk => (ho4.out.lt k hk))
    have x11 := fun o => (hc11.rd w.heap.size (by omega) (fun h => by have := (lo6.out _ h).1; simp at this; omega) o).trans (x10 o)
    have ho4b := Hd.mk (hc11.own ho4a.out (fun k hk h => by have h1 := (lo4.out k hk).2; have h2 := (lo6.out k h).1; simp at h2; omega))
    have s11 := hc11.size
    replace hm11 := Hd.mk hm11
    replace hc11 := Hd.mk hc11
    clear x10
    have B8 : Bel w w8 := B6.trans B68
    have B9 : Bel w w9 := hc9.out.toBel B8 (fun k hk => by have := (nb9.out k hk).1; omega)
    have B10 : Bel w w10 := B9.trans hb10
    have B11 : Bel w w11 := hc11.out.toBel B10 (fun k hk => by have := (lo6.out k hk).1; simp at this; omega)
    have hul : (upto 1 (sentBy n).length).length = (sentBy n).length := upto_len _ _
    have r611 := Hd.mk (own_rd' encI_ok hm11.out hul.symm (by rw [hul]; omega)).1
    clear hul
    go_wp2_with fail
    refine (heldIntS_any A6 (sentBy n).length c6 1 _ r611.out (by omega) (by omega) (by omega)).mono ?_
    rintro e w12 ⟨rfl, hb12⟩
    have g11 : w.heap.size < w11.heap.size := by omega
    have x12 := box_bel x11 hb12 g11
    have s12 := hb12.size
    have B12 : Bel w w12 := B11.trans hb12
    have hq0 : 0 ≤ 1 + ((sentBy n).length : Int) := by omega
    clear x11
    go_wp2_with fail
    refine (toNode_sml a n _ (HN.out.bel B12) HS.out).mono ?_
    rintro e w13 ⟨xd, psd, rfl, hpld, hod, hrd, hb13⟩
    have B13 : Bel w w13 := B12.trans hb13
    replace hod := Hd.mk hod
    replace hrd := Hd.mk hrd
    replace hpld := Hd.mk hpld
    clear x12
    go_wp2_with fail
    refine (SentBy_any xd n _ hrd.out).mono ?_
    rintro e w14 ⟨v10, rfl, ho10, hb14⟩
    obtain ⟨A10, c10, rfl, hc10⟩ := own_shape ho10
    have B1114 : Bel w11 w14 := (hb12.trans hb13).trans hb14
    have r10 := Hd.mk (own_rd' encI_ok ho10 rfl (by omega)).1
    have r414 := Hd.mk (own_rd' encI_ok (own_bel ho4b.out B1114) rfl (by omega)).1
    replace ho10 := Hd.mk ho10
    go_wp2_with fail
    refine (eqIntS_same A10 A4 (sentBy n) c10 c4 _ r10.out r414.out).mono ?_
    rintro e w15 ⟨rfl, hb15⟩
    have r615 := Hd.mk (r611.out.bel (B1114.trans hb15))
    have B15 : Bel w w15 := (B13.trans hb14).trans hb15
    go_wp2_with fail
    refine (heldIntS_any A6 (sentBy n).length c6 1 _ r615.out (by omega) (by omega) (by omega)).mono ?_
    rintro e w16 ⟨rfl, hb16⟩
    have B16 : Bel w w16 := B15.trans hb16
    go_wp2
    go_ret
    exact ⟨rfl, B16⟩
end Go.Proofs.Ytgodbldchaonpaa

/- New nodes. No condition. -/
import Derived.Test.YtgodbldchaonpaaND
namespace Go.Proofs.Ytgodbldchaonpaa
open Go.RowKit
set_option linter.unusedVariables false
set_option linter.unusedSimpArgs false
set_option maxRecDepth 100000
def newOk (ts : List Tk) (vars rd : List Int) (s : Sr) : Bool := varsOk vars && (progOk ts && (srOk s && rd.all vOk))
def zeroN : Nd := ⟨[], [], [], 0, ⟨0, 0, 0, 0⟩, 0, 0, 0, [], 0⟩
def nodeNew (ts : List Tk) (vars rd : List Int) (s : Sr) : Nd := if newOk ts vars rd s = true then ⟨ts, memNew vars, rd, 0, s, 0, 0, 0, [], 0⟩ else zeroN
/-- A node made anew, beside a bool. -/
def MkNP (n : Nd) (b : Bool) (w : World) (e : Ending) (w' : World) : Prop := ∃ (a : NA) (ps : List (Value × Tk)), e = .returned (.tuple #[.agg #[.slice a.tA n.ts.length a.tc, .slice a.mA n.mem.length a.mc, .slice a.rA n.rd.length a.rc, .int .i64 n.at', .int .i64 n.sr.chg, .int .i64 n.sr.cap, .int .i64 n.sr.on, .int .i64 n.sr.leak, .int .i64 n.lo, .int .i64 n.hi, .int .i64 n.ack, .slice a.gA n.got.length a.gc, .int .i64 n.done], .bool b]) ∧ ps.length = n.ts.length ∧ OwN w.heap.size w' (.slice a.tA ps.length a.tc) (.slice a.mA n.mem.length a.mc) (.slice a.rA n.rd.length a.rc) (.slice a.gA n.got.length a.gc) ps n ∧ Bel w w'
def nilA : NA := ⟨none, 0, none, 0, none, 0, none, 0⟩
theorem ownN_nil (lo : Nat) (w : World) : OwN lo w (.slice none 0 0) (.slice none 0 0) (.slice none 0 0) (.slice none 0 0) [] zeroN :=
  ⟨⟨own_nil _ _ _ _, by simp, List.Pairwise.nil, by simp⟩, own_nil _ _ _ _, own_nil _ _ _ _, own_nil _ _ _ _, (by intro k h; cases h), (by intro k h; cases h), (by intro k h; cases h), rfl⟩
theorem OwN.lower {lo lo' : Nat} {w : World} {vt vm vr vg : Value} {ps : List (Value × Tk)} {n : Nd} (h : OwN lo w vt vm vr vg ps n) (hl : lo' ≤ lo) : OwN lo' w vt vm vr vg ps n :=
  ⟨h.ts.lower hl, own_raise h.mem (fun k e => Nat.le_trans hl (h.mem.lt k e).1), own_raise h.rd (fun k e => Nat.le_trans hl (h.rd.lt k e).1), own_raise h.got (fun k e => Nat.le_trans hl (h.got.lt k e).1), h.mr, h.mg, h.rg, h.eq⟩
theorem newOk_no1 {ts : List Tk} {vars rd : List Int} {s : Sr} (h : ¬ varsOk vars = true) : newOk ts vars rd s = false := by unfold newOk; simp [h]
theorem newOk_no2 {ts : List Tk} {vars rd : List Int} {s : Sr} (h : ¬ progOk ts = true) : newOk ts vars rd s = false := by unfold newOk; simp [h]
theorem newOk_no3 {ts : List Tk} {vars rd : List Int} {s : Sr} (h : ¬ srOk s = true) : newOk ts vars rd s = false := by unfold newOk; simp [h]
theorem newOk_no4 {ts : List Tk} {vars rd : List Int} {s : Sr} (h : (!rd.all vOk) = true) : newOk ts vars rd s = false := by
  have h' : rd.all vOk = false := by simpa using h
  unfold newOk; rw [h']; simp
theorem newOk_yes {ts : List Tk} {vars rd : List Int} {s : Sr} (h1 : varsOk vars = true) (h2 : progOk ts = true) (h3 : srOk s = true) (h4 : (!rd.all vOk) = false) : newOk ts vars rd s = true := by
  have h' : rd.all vOk = true := by simpa using h4
  unfold newOk; rw [h1, h2, h3, h']; rfl
theorem nodeNew_no {ts : List Tk} {vars rd : List Int} {s : Sr} (h : newOk ts vars rd s = false) : nodeNew ts vars rd s = zeroN := by unfold nodeNew; rw [h]; rfl
theorem nodeNew_yes {ts : List Tk} {vars rd : List Int} {s : Sr} (h : newOk ts vars rd s = true) : nodeNew ts vars rd s = ⟨ts, memNew vars, rd, 0, s, 0, 0, 0, [], 0⟩ := by unfold nodeNew; rw [h]; rfl
theorem memNewR_yes {vars : List Int} (h : varsOk vars = true) : memNewR vars = memNew vars := by unfold memNewR; rw [h]; rfl
set_option maxHeartbeats 4000000 in
theorem NodeNew_any (tA vA rA : Option Addr) (ts : List Tk) (vars rd : List Int) (s : Sr) (tc vc rc : Nat) (w : World) (ht : RdT w tA ts) (hv : RdI w vA vars) (hr : RdI w rA rd) (hs : small ts) (hsz : ts.length ≤ 1099511627776) :
    Calls Try.prog 10 #[.agg #[.slice tA ts.length tc], .slice vA vars.length vc, .slice rA rd.length rc, .agg #[.int .i64 s.chg, .int .i64 s.cap, .int .i64 s.on, .int .i64 s.leak]] w (MkNP (nodeNew ts vars rd s) (newOk ts vars rd s) w) := by
  have HT := Hd.mk ht
  have HV := Hd.mk hv
  have HR := Hd.mk hr
  have HS := Hd.mk hs
  clear ht hv hr hs
  go_enter Try.func10, Try.ntmps10
  go_wp2_with fail
  obtain ⟨W0, hW, Y4, Y7, Y8, hb0⟩ : ∃ W0, W0 = (((w.alloc (.cells #[.slice tA ts.length tc] 31)).alloc (.cells #[.int .i64 s.chg, .int .i64 s.cap, .int .i64 s.on, .int .i64 s.leak] 32)).alloc (.cells #[.slice none 0 0, .slice none 0 0, .slice none 0 0, .int .i64 0, .int .i64 0, .int .i64 0, .int .i64 0, .int .i64 0, .int .i64 0, .int .i64 0, .int .i64 0, .slice none 0 0, .int .i64 0] 40)) ∧ Hd (Bx W0 w.heap.size 31 #[.slice tA ts.length tc]) ∧ Hd (Bx W0 (w.heap.size + 1) 32 #[.int .i64 s.chg, .int .i64 s.cap, .int .i64 s.on, .int .i64 s.leak]) ∧ Hd (Bx W0 (w.heap.size + 1 + 1) 40 #[.slice none 0 0, .slice none 0 0, .slice none 0 0, .int .i64 0, .int .i64 0, .int .i64 0, .int .i64 0, .int .i64 0, .int .i64 0, .int .i64 0, .int .i64 0, .slice none 0 0, .int .i64 0]) ∧ Bel w W0 := ⟨_, rfl, ⟨((Bx.new _ _ _).alloc _).alloc _⟩, ⟨(Bx.new' _ _ _ _ (by simp)).alloc _⟩, ⟨Bx.new' _ _ _ _ (by simp)⟩, (((Bel.refl _).alloc _).alloc _).alloc _⟩
  rw [← hW]
  clear hW
  refine (MemNew_any vA vars vc _ (HV.out.bel hb0)).mono ?_
  rintro e w1 ⟨v, rfl, hown, B1⟩
  obtain ⟨mA, mc, rfl, hmc⟩ := own_shape hown
  replace hown := Hd.mk hown
  have x4 := (Y4.out.bel B1).cell; have x7 := (Y7.out.bel B1).cell; have x8 := (Y8.out.bel B1).cell; have f8 := (Y8.out.bel B1).frz; have l8 := (Y8.out.bel B1).lt
  go_wp2_with (first
    | (go_at_call 31; refine (ProgramOk_any tA ts tc _ (RdT.bel HT.out (hb0.trans B1))).mono ?_; rintro e w2 ⟨rfl, hb2⟩; have B2 : Bel W0 w2 := B1.trans hb2; have x4 := (Y4.out.bel B2).cell; have x7 := (Y7.out.bel B2).cell; have x8 := (Y8.out.bel B2).cell; have f8 := (Y8.out.bel B2).frz; have l8 := (Y8.out.bel B2).lt)
    | (go_at_call 32; refine (StoreOk_any s _).mono ?_; rintro e w3 ⟨rfl, hb3⟩; have B3 : Bel W0 w3 := B2.trans hb3; have x4 := (Y4.out.bel B3).cell; have x7 := (Y7.out.bel B3).cell; have x8 := (Y8.out.bel B3).cell; have f8 := (Y8.out.bel B3).frz; have l8 := (Y8.out.bel B3).lt)
    | (go_at_call 33; refine (areValues_any rA rd rc _ (HR.out.bel (hb0.trans B3))).mono ?_; rintro e w4 ⟨rfl, hb4⟩; have B4 : Bel W0 w4 := B3.trans hb4; have x4 := (Y4.out.bel B4).cell; have x7 := (Y7.out.bel B4).cell; have x8 := (Y8.out.bel B4).cell; have f8 := (Y8.out.bel B4).frz; have l8 := (Y8.out.bel B4).lt))
  all_goals first
    | (have e : newOk ts vars rd s = false := (by first | exact newOk_no1 (by assumption) | exact newOk_no2 (by assumption) | exact newOk_no3 (by assumption) | exact newOk_no4 (by assumption))
       rw [e, nodeNew_no e]
       refine bodyPost_ret (v := .tuple #[.agg #[.slice none 0 0, .slice none 0 0, .slice none 0 0, .int .i64 0, .int .i64 0, .int .i64 0, .int .i64 0, .int .i64 0, .int .i64 0, .int .i64 0, .int .i64 0, .slice none 0 0, .int .i64 0], .bool false]) ?_ rfl ⟨nilA, [], rfl, rfl, ownN_nil _ _, ?_⟩
       · simp [results, Try.results10, go_sem, x8, l8]
       · repeat (first | (with_reducible exact Bel.refl _) | (with_reducible assumption) | (with_reducible apply Bel.alloc) | (with_reducible apply Bel.drewN) | (with_reducible apply Bel.drew) | (with_reducible refine Bel.set ?_ (by simp <;> omega) _) | (refine Bel.trans ?_ (by with_reducible assumption))))
    | skip
  have k1 : varsOk vars = true := by assumption
  have E := Hd.mk (newOk_yes k1 (by assumption) (by assumption) (by assumption) (ts := ts) (vars := vars) (rd := rd) (s := s))
  rw [memNewR_yes k1] at hown ⊢
  clear k1
  have HK : Hd (∀ W', Bel w4 W' → W'.cell? ⟨w.heap.size, 0, none⟩ = some (.slice tA ts.length tc) ∧ W'.cell? ⟨w.heap.size + 1, 0, none⟩ = some (.int .i64 s.chg) ∧ W'.cell? ⟨w.heap.size + 1, 1, none⟩ = some (.int .i64 s.cap) ∧ W'.cell? ⟨w.heap.size + 1, 2, none⟩ = some (.int .i64 s.on) ∧ W'.cell? ⟨w.heap.size + 1, 3, none⟩ = some (.int .i64 s.leak) ∧ Bel w4 W') :=
    ⟨fun W' h => ⟨(Y4.out.bel (B4.trans h)).cell 0, (Y7.out.bel (B4.trans h)).cell 0, (Y7.out.bel (B4.trans h)).cell 1, (Y7.out.bel (B4.trans h)).cell 2, (Y7.out.bel (B4.trans h)).cell 3, h⟩⟩
  refine wp_region_tail (fun W' => W'.cell? ⟨w.heap.size, 0, none⟩ = some (.slice tA ts.length tc) ∧ W'.cell? ⟨w.heap.size + 1, 0, none⟩ = some (.int .i64 s.chg) ∧ W'.cell? ⟨w.heap.size + 1, 1, none⟩ = some (.int .i64 s.cap) ∧ W'.cell? ⟨w.heap.size + 1, 2, none⟩ = some (.int .i64 s.on) ∧ W'.cell? ⟨w.heap.size + 1, 3, none⟩ = some (.int .i64 s.leak) ∧ Bel w4 W') 7 (by kernel_rfl) (HK.out _ (by repeat (first | (with_reducible exact Bel.refl _) | (with_reducible assumption) | (with_reducible apply Bel.alloc) | (with_reducible apply Bel.drewN) | (with_reducible apply Bel.drew) | (with_reducible refine Bel.set ?_ (by simp <;> omega) _) | (refine Bel.trans ?_ (by with_reducible assumption))))) (fun hS => ?_)
  refine wpAnyT_take (i := 0) (v := ?_) rfl (by kernel_rfl) (fun _ _ _ h => h) (Or.inl ⟨by rfl, ?_⟩) (by assumption) ?_; rotate_left; (next => (intro w hSw; (try dsimp only at hSw); go_simp <;> with_reducible rfl)); (try simp only [Act.put, List.setIfInBounds_toArray, List.set_cons_zero, List.set_cons_succ])
  refine wpAnyT_take (i := 2) (v := ?_) rfl (by kernel_rfl) (fun _ _ _ h => h) (Or.inl ⟨by rfl, ?_⟩) (by assumption) ?_; rotate_left; (next => (intro w hSw; (try dsimp only at hSw); go_simp <;> with_reducible rfl)); (try simp only [Act.put, List.setIfInBounds_toArray, List.set_cons_zero, List.set_cons_succ])
  refine wpAnyT_take (i := 3) (v := ?_) rfl (by kernel_rfl) (fun _ _ _ h => h) (Or.inl ⟨by rfl, ?_⟩) (by assumption) ?_; rotate_left; (next => (intro w hSw; (try dsimp only at hSw); go_simp <;> with_reducible rfl)); (try simp only [Act.put, List.setIfInBounds_toArray, List.set_cons_zero, List.set_cons_succ])
  refine wpAnyT_take (i := 5) (v := ?_) rfl (by kernel_rfl) (fun _ _ _ h => h) (Or.inl ⟨by rfl, ?_⟩) (by assumption) ?_; rotate_left; (next => (intro w hSw; (try dsimp only at hSw); go_simp <;> with_reducible rfl)); (try simp only [Act.put, List.setIfInBounds_toArray, List.set_cons_zero, List.set_cons_succ])
  refine wpAnyT_step (i := 1) rfl (by kernel_rfl) (fun K hK => ?_)
  go_simp
  go_at_call 34
  refine (copyProgram_any tA ts tc _ (RdT.bel HT.out ((hb0.trans B4).trans (by repeat (first | (with_reducible exact Bel.refl _) | (with_reducible assumption) | (with_reducible apply Bel.alloc) | (with_reducible apply Bel.drewN) | (with_reducible apply Bel.drew) | (with_reducible refine Bel.set ?_ (by simp <;> omega) _) | (refine Bel.trans ?_ (by with_reducible assumption)))))) HS.out hsz).mono ?_
  rintro e w5 ⟨vt, ps, rfl, hps, hot, hb5⟩
  obtain ⟨tA', tc', rfl, htc⟩ := hot.shape
  replace hot := Hd.mk hot
  replace hps := Hd.mk hps
  refine hK.out _ _ ?_ (fun hS => ?_)
  · exact HK.out _ (by repeat (first | (with_reducible exact Bel.refl _) | (with_reducible assumption) | (with_reducible apply Bel.alloc) | (with_reducible apply Bel.drewN) | (with_reducible apply Bel.drew) | (with_reducible refine Bel.set ?_ (by simp <;> omega) _) | (refine Bel.trans ?_ (by with_reducible assumption))))
  clear hK K; (try simp only [Act.put, List.setIfInBounds_toArray, List.set_cons_zero, List.set_cons_succ])
  refine wpAnyT_step (i := 4) rfl (by kernel_rfl) (fun K hK => ?_)
  go_simp
  go_at_call 35
  refine (CloneI_any rA rd rc _ (HR.out.bel ((hb0.trans B4).trans (by repeat (first | (with_reducible exact Bel.refl _) | (with_reducible assumption) | (with_reducible apply Bel.alloc) | (with_reducible apply Bel.drewN) | (with_reducible apply Bel.drew) | (with_reducible refine Bel.set ?_ (by simp <;> omega) _) | (refine Bel.trans ?_ (by with_reducible assumption))))))).mono ?_
  rintro e w6 ⟨vr, rfl, hor, hb6⟩
  obtain ⟨rA', rc', rfl, hrc⟩ := own_shape hor
  replace hor := Hd.mk hor
  refine hK.out _ _ ?_ (fun hS => ?_)
  · exact HK.out _ (by repeat (first | (with_reducible exact Bel.refl _) | (with_reducible assumption) | (with_reducible apply Bel.alloc) | (with_reducible apply Bel.drewN) | (with_reducible apply Bel.drew) | (with_reducible refine Bel.set ?_ (by simp <;> omega) _) | (refine Bel.trans ?_ (by with_reducible assumption))))
  clear hK K; (try simp only [Act.put, List.setIfInBounds_toArray, List.set_cons_zero, List.set_cons_succ])
  refine wpAnyT_take (i := 6) (v := ?_) rfl (by kernel_rfl) (fun _ _ _ h => h) (Or.inl ⟨by rfl, ?_⟩) (by assumption) ?_; rotate_left; (next => (intro w hSw; (try dsimp only at hSw); go_simp <;> with_reducible rfl)); (try simp only [Act.put, List.setIfInBounds_toArray, List.set_cons_zero, List.set_cons_succ])
  have B6 : Bel W0 w6 := B4.trans (by repeat (first | (with_reducible exact Bel.refl _) | (with_reducible assumption) | (with_reducible apply Bel.alloc) | (with_reducible apply Bel.drewN) | (with_reducible apply Bel.drew) | (with_reducible refine Bel.set ?_ (by simp <;> omega) _) | (refine Bel.trans ?_ (by with_reducible assumption))))
  have x8 := (Y8.out.bel B6).cell
  have f8 := (Y8.out.bel B6).frz
  have l8 := (Y8.out.bel B6).lt
  refine wpAnyT_tail 7 _ rfl (by kernel_rfl) ?_
  go_wp2
  rw [E.out, nodeNew_yes E.out]
  have B15 : Bel w1 w5 := (((hb2.trans hb3).trans hb4).drew).trans hb5
  have B16 : Bel w1 w6 := B15.trans hb6
  have hs5 := B15.size
  have hs4 := B4.size
  have w8 : w.heap.size + 1 + 1 < W0.heap.size := Y8.out.lt
  have hpl : ps.length = ts.length := by rw [← hps.out, List.length_map]
  have HT' : Hd (OwT (w.heap.size + 3) w6 (.slice tA' ps.length tc') ps) := ⟨(hot.out.bel hb6).lower (by show _ ≤ w4.heap.size; omega)⟩
  have HM' : Hd (World.ownsRow w6 (w.heap.size + 3) 3 1 (.slice mA (memNew vars).length mc) (memNew vars).length ((memNew vars).flatMap encI)) := ⟨own_raise (own_bel hown.out B16) (fun k hk => by have := (hown.out.lt k hk).1; omega)⟩
  have HR' : Hd (World.ownsRow w6 (w.heap.size + 3) 3 1 (.slice rA' rd.length rc') rd.length (rd.flatMap encI)) := ⟨own_raise hor.out (fun k hk => by have := (hor.out.lt k hk).1; have := hb5.size; have : w4.heap.size ≤ w5.heap.size := this; omega)⟩
  refine bodyPost_ret (v := .tuple #[.agg #[.slice tA' ps.length tc', .slice mA (memNew vars).length mc, .slice rA' rd.length rc', .int .i64 0, .int .i64 s.chg, .int .i64 s.cap, .int .i64 s.on, .int .i64 s.leak, .int .i64 0, .int .i64 0, .int .i64 0, .slice none 0 0, .int .i64 0], .bool true]) ?_ rfl ⟨⟨tA', tc', mA, mc, rA', rc', none, 0⟩, ps, ?_, hpl, OwN.lower (lo := w.heap.size + 3) ⟨?_, ?_, ?_, own_nil _ _ _ _, ?_, (by intro k _ h; cases h), (by intro k _ h; cases h), hps.out⟩ (by omega), ?_⟩
  · simp [results, Try.results10, go_sem, x8, l8]
  · simp [hpl]
  · repeat (first | (with_reducible exact HT'.out) | (with_reducible refine OwT.set ?_ _ (by omega)))
  · repeat (first | (with_reducible exact HM'.out) | (with_reducible refine own_set ?_ _ (by omega)))
  · repeat (first | (with_reducible exact HR'.out) | (with_reducible refine own_set ?_ _ (by omega)))
  · intro k h1 h2
    have a1 := (hown.out.lt k h1).2
    have a2 := (hor.out.lt k h2).1
    omega
  · repeat (first | (with_reducible exact Bel.refl _) | (with_reducible assumption) | (with_reducible apply Bel.alloc) | (with_reducible apply Bel.drewN) | (with_reducible apply Bel.drew) | (with_reducible refine Bel.set ?_ (by simp <;> omega) _) | (refine Bel.trans ?_ (by with_reducible assumption)))
end Go.Proofs.Ytgodbldchaonpaa

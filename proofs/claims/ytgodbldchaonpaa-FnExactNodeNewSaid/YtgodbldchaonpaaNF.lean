/- New nodes: the reference. No condition. -/
import Derived.Test.YtgodbldchaonpaaNE
namespace Go.Proofs.Ytgodbldchaonpaa
open Go.RowKit
set_option linter.unusedVariables false
set_option linter.unusedSimpArgs false
set_option maxRecDepth 100000
set_option maxHeartbeats 4000000 in
theorem sNodeNew_any (tA vA rA : Option Addr) (ts : List Tk) (vars rd : List Int) (s : Sr) (tc vc rc : Nat) (w : World) (ht : RdT w tA ts) (hv : RdI w vA vars) (hr : RdI w rA rd) (hs : small ts) (hsz : ts.length ≤ 1099511627776) :
    Calls Try.prog 6 #[.agg #[.slice tA ts.length tc], .slice vA vars.length vc, .slice rA rd.length rc, .agg #[.int .i64 s.chg, .int .i64 s.cap, .int .i64 s.on, .int .i64 s.leak]] w (MkNP (nodeNew ts vars rd s) (newOk ts vars rd s) w) := by
  have HT := Hd.mk ht
  have HV := Hd.mk hv
  have HR := Hd.mk hr
  have HS := Hd.mk hs
  clear ht hv hr hs
  go_enter Try.func6, Try.ntmps6
  go_wp2_with fail
  obtain ⟨W0, hW, Y4, Y7, Y8, hb0⟩ : ∃ W0, W0 = (((w.alloc (.cells #[.slice tA ts.length tc] 31)).alloc (.cells #[.int .i64 s.chg, .int .i64 s.cap, .int .i64 s.on, .int .i64 s.leak] 32)).alloc (.cells #[.slice none 0 0, .slice none 0 0, .slice none 0 0, .int .i64 0, .int .i64 0, .int .i64 0, .int .i64 0, .int .i64 0, .int .i64 0, .int .i64 0, .int .i64 0, .slice none 0 0, .int .i64 0] 40)) ∧ Hd (Bx W0 w.heap.size 31 #[.slice tA ts.length tc]) ∧ Hd (Bx W0 (w.heap.size + 1) 32 #[.int .i64 s.chg, .int .i64 s.cap, .int .i64 s.on, .int .i64 s.leak]) ∧ Hd (Bx W0 (w.heap.size + 1 + 1) 40 #[.slice none 0 0, .slice none 0 0, .slice none 0 0, .int .i64 0, .int .i64 0, .int .i64 0, .int .i64 0, .int .i64 0, .int .i64 0, .int .i64 0, .int .i64 0, .slice none 0 0, .int .i64 0]) ∧ Bel w W0 := ⟨_, rfl, ⟨((Bx.new _ _ _).alloc _).alloc _⟩, ⟨(Bx.new' _ _ _ _ (by simp)).alloc _⟩, ⟨Bx.new' _ _ _ _ (by simp)⟩, (((Bel.refl _).alloc _).alloc _).alloc _⟩
  rw [← hW]
  clear hW
  refine (sMemNew_any vA vars vc _ (HV.out.bel hb0)).mono ?_
  rintro e w1 ⟨v, rfl, hown, B1⟩
  obtain ⟨mA, mc, rfl, hmc⟩ := own_shape hown
  replace hown := Hd.mk hown
  have x4 := (Y4.out.bel B1).cell; have x7 := (Y7.out.bel B1).cell; have x8 := (Y8.out.bel B1).cell; have f8 := (Y8.out.bel B1).frz; have l8 := (Y8.out.bel B1).lt
  go_wp2_with (first
    | (go_at_call 25; refine (sProgramOk_any tA ts tc _ (RdT.bel HT.out (hb0.trans B1))).mono ?_; rintro e w2 ⟨rfl, hb2⟩; have B2 : Bel W0 w2 := B1.trans hb2; have x4 := (Y4.out.bel B2).cell; have x7 := (Y7.out.bel B2).cell; have x8 := (Y8.out.bel B2).cell; have f8 := (Y8.out.bel B2).frz; have l8 := (Y8.out.bel B2).lt)
    | (go_at_call 26; refine (sStoreOk_any s _).mono ?_; rintro e w3 ⟨rfl, hb3⟩; have B3 : Bel W0 w3 := B2.trans hb3; have x4 := (Y4.out.bel B3).cell; have x7 := (Y7.out.bel B3).cell; have x8 := (Y8.out.bel B3).cell; have f8 := (Y8.out.bel B3).frz; have l8 := (Y8.out.bel B3).lt)
    | (go_at_call 27; refine (l09Values_any rA rd rc _ (HR.out.bel (hb0.trans B3))).mono ?_; rintro e w4 ⟨rfl, hb4⟩; have B4 : Bel W0 w4 := B3.trans hb4; have x4 := (Y4.out.bel B4).cell; have x7 := (Y7.out.bel B4).cell; have x8 := (Y8.out.bel B4).cell; have f8 := (Y8.out.bel B4).frz; have l8 := (Y8.out.bel B4).lt))
  all_goals first
    | (have e : newOk ts vars rd s = false := (by first | exact newOk_no1 (by assumption) | exact newOk_no2 (by assumption) | exact newOk_no3 (by assumption) | exact newOk_no4 (by assumption))
       rw [e, nodeNew_no e]
       refine bodyPost_ret (v := .tuple #[.agg #[.slice none 0 0, .slice none 0 0, .slice none 0 0, .int .i64 0, .int .i64 0, .int .i64 0, .int .i64 0, .int .i64 0, .int .i64 0, .int .i64 0, .int .i64 0, .slice none 0 0, .int .i64 0], .bool false]) ?_ rfl ⟨nilA, [], rfl, rfl, ownN_nil _ _, ?_⟩
       · simp [results, Try.results6, go_sem, x8, l8]
       · repeat (first | (with_reducible exact Bel.refl _) | (with_reducible assumption) | (with_reducible apply Bel.alloc) | (with_reducible apply Bel.drewN) | (with_reducible apply Bel.drew) | (with_reducible refine Bel.set ?_ (by simp <;> omega) _) | (refine Bel.trans ?_ (by with_reducible assumption))))
    | skip
  have k1 : varsOk vars = true := by assumption
  have E := Hd.mk (newOk_yes k1 (by assumption) (by assumption) (by assumption) (ts := ts) (vars := vars) (rd := rd) (s := s))
  rw [memNewR_yes k1] at hown ⊢
  clear k1
  have HK : Hd (∀ W', Bel w4 W' → W'.cell? ⟨w.heap.size, 0, none⟩ = some (.slice tA ts.length tc) ∧ W'.cell? ⟨w.heap.size + 1, 0, none⟩ = some (.int .i64 s.chg) ∧ W'.cell? ⟨w.heap.size + 1, 1, none⟩ = some (.int .i64 s.cap) ∧ W'.cell? ⟨w.heap.size + 1, 2, none⟩ = some (.int .i64 s.on) ∧ W'.cell? ⟨w.heap.size + 1, 3, none⟩ = some (.int .i64 s.leak) ∧ Bel w4 W') :=
    ⟨fun W' h => ⟨(Y4.out.bel (B4.trans h)).cell 0, (Y7.out.bel (B4.trans h)).cell 0, (Y7.out.bel (B4.trans h)).cell 1, (Y7.out.bel (B4.trans h)).cell 2, (Y7.out.bel (B4.trans h)).cell 3, h⟩⟩
  refine wp_region_tail (fun W' => W'.cell? ⟨w.heap.size, 0, none⟩ = some (.slice tA ts.length tc) ∧ W'.cell? ⟨w.heap.size + 1, 0, none⟩ = some (.int .i64 s.chg) ∧ W'.cell? ⟨w.heap.size + 1, 1, none⟩ = some (.int .i64 s.cap) ∧ W'.cell? ⟨w.heap.size + 1, 2, none⟩ = some (.int .i64 s.on) ∧ W'.cell? ⟨w.heap.size + 1, 3, none⟩ = some (.int .i64 s.leak) ∧ Bel w4 W') 8 (by kernel_rfl) (HK.out _ (by repeat (first | (with_reducible exact Bel.refl _) | (with_reducible assumption) | (with_reducible apply Bel.alloc) | (with_reducible apply Bel.drewN) | (with_reducible apply Bel.drew) | (with_reducible refine Bel.set ?_ (by simp <;> omega) _) | (refine Bel.trans ?_ (by with_reducible assumption))))) (fun hS => ?_)
  refine wpAnyT_take (i := 0) (v := ?_) rfl (by kernel_rfl) (fun _ _ _ h => h) (Or.inl ⟨by rfl, ?_⟩) (by assumption) ?_; rotate_left; (next => (intro w hSw; (try dsimp only at hSw); go_simp <;> with_reducible rfl)); (try simp only [Act.put, List.setIfInBounds_toArray, List.set_cons_zero, List.set_cons_succ])
  refine wpAnyT_take (i := 2) (v := ?_) rfl (by kernel_rfl) (fun _ _ _ h => h) (Or.inl ⟨by rfl, ?_⟩) (by assumption) ?_; rotate_left; (next => (intro w hSw; (try dsimp only at hSw); go_simp <;> with_reducible rfl)); (try simp only [Act.put, List.setIfInBounds_toArray, List.set_cons_zero, List.set_cons_succ])
  refine wpAnyT_take (i := 4) (v := ?_) rfl (by kernel_rfl) (fun _ _ _ h => h) (Or.inl ⟨by rfl, ?_⟩) (by assumption) ?_; rotate_left; (next => (intro w hSw; (try dsimp only at hSw); go_simp <;> with_reducible rfl)); (try simp only [Act.put, List.setIfInBounds_toArray, List.set_cons_zero, List.set_cons_succ])
  refine wpAnyT_take (i := 6) (v := ?_) rfl (by kernel_rfl) (fun _ _ _ h => h) (Or.inl ⟨by rfl, ?_⟩) (by assumption) ?_; rotate_left; (next => (intro w hSw; (try dsimp only at hSw); go_simp <;> with_reducible rfl)); (try simp only [Act.put, List.setIfInBounds_toArray, List.set_cons_zero, List.set_cons_succ])
  refine wpAnyT_step2 (i := 1) (i' := 3) (by kernel_rfl) rfl rfl (fun K hK => ?_) (fun K hK => ?_)
  · go_simp
    go_at_call 28
    refine (l06Copy_any tA ts tc _ (RdT.bel HT.out ((hb0.trans B4).trans (by repeat (first | (with_reducible exact Bel.refl _) | (with_reducible assumption) | (with_reducible apply Bel.alloc) | (with_reducible apply Bel.drewN) | (with_reducible apply Bel.drew) | (with_reducible refine Bel.set ?_ (by simp <;> omega) _) | (refine Bel.trans ?_ (by with_reducible assumption)))))) HS.out hsz).mono ?_
    rintro e w5 ⟨vt, ps, rfl, hps, hot, hb5⟩
    obtain ⟨tA', tc', rfl, htc⟩ := hot.shape
    replace hot := Hd.mk hot
    replace hps := Hd.mk hps
    refine hK.out _ _ ?_ (fun hS => ?_)
    · exact HK.out _ (by repeat (first | (with_reducible exact Bel.refl _) | (with_reducible assumption) | (with_reducible apply Bel.alloc) | (with_reducible apply Bel.drewN) | (with_reducible apply Bel.drew) | (with_reducible refine Bel.set ?_ (by simp <;> omega) _) | (refine Bel.trans ?_ (by with_reducible assumption))))
    clear hK K; (try simp only [Act.put, List.setIfInBounds_toArray, List.set_cons_zero, List.set_cons_succ])
    refine wpAnyT_step (i := 3) rfl (by kernel_rfl) (fun K hK => ?_)
    go_simp
    refine hK.out _ _ ?_ (fun hS => ?_)
    · exact HK.out _ (by repeat (first | (with_reducible exact Bel.refl _) | (with_reducible assumption) | (with_reducible apply Bel.alloc) | (with_reducible apply Bel.drewN) | (with_reducible apply Bel.drew) | (with_reducible refine Bel.set ?_ (by simp <;> omega) _) | (refine Bel.trans ?_ (by with_reducible assumption))))
    clear hK K; (try simp only [Act.put, List.setIfInBounds_toArray, List.set_cons_zero, List.set_cons_succ])
    refine wpAnyT_step (i := 5) rfl (by kernel_rfl) (fun K hK => ?_)
    refine step_app_row encI 1 encI_ok (by decide) w4.heap.size rfl (.tmp 38) (.tmp 39) 25 3 (.int .i64 0) 8 rfl Try.underlying25 infoI rfl (by decide) _ [] rd _ _ rfl rfl (own_lit0 _ _ _ _ (by have : w4.heap.size ≤ w5.heap.size := hb5.size; exact this)) (HR.out.bel ((hb0.trans B4).trans (by repeat (first | (with_reducible exact Bel.refl _) | (with_reducible assumption) | (with_reducible apply Bel.alloc) | (with_reducible apply Bel.drewN) | (with_reducible apply Bel.drew) | (with_reducible refine Bel.set ?_ (by simp <;> omega) _) | (refine Bel.trans ?_ (by with_reducible assumption)))))) (by have : w4.heap.size ≤ w5.heap.size := hb5.size; simp; omega) (by have := HR.out.len; simp only [List.length_nil]; omega) ?_
    intro vr w6 hor hgr hatr
    simp only [List.nil_append] at hor
    obtain ⟨rA', rc', rfl, hrc⟩ := own_shape hor
    have hb46 : Bel w4 w6 := Bel.grownB hgr (by repeat (first | (with_reducible exact Bel.refl _) | (with_reducible assumption) | (with_reducible apply Bel.alloc) | (with_reducible apply Bel.drewN) | (with_reducible apply Bel.drew) | (with_reducible refine Bel.set ?_ (by simp <;> omega) _) | (refine Bel.trans ?_ (by with_reducible assumption)))) (by intro k hk; cases hk; have : w4.heap.size ≤ w5.heap.size := hb5.size; exact this)
    have hotF : OwT w4.heap.size w6 (.slice tA' ps.length tc') ps := (hot.out.bel (Bel.grownB hgr ((Bel.refl _).alloc _) (by intro k hk; cases hk; exact Nat.le_refl _))).lower (Nat.le_refl _)
    replace hor := Hd.mk hor
    clear hgr hatr
    refine hK.out _ _ ?_ (fun hS => ?_)
    · exact HK.out _ hb46
    clear hK K; (try simp only [Act.put, List.setIfInBounds_toArray, List.set_cons_zero, List.set_cons_succ])
    refine wpAnyT_take (i := 7) (v := ?_) rfl (by kernel_rfl) (fun _ _ _ h => h) (Or.inl ⟨by rfl, ?_⟩) (by assumption) ?_; rotate_left; (next => (intro w hSw; (try dsimp only at hSw); go_simp <;> with_reducible rfl)); (try simp only [Act.put, List.setIfInBounds_toArray, List.set_cons_zero, List.set_cons_succ])
    have B6 : Bel W0 w6 := B4.trans hb46
    have x8 := (Y8.out.bel B6).cell
    have f8 := (Y8.out.bel B6).frz
    have l8 := (Y8.out.bel B6).lt
    refine wpAnyT_tail 8 _ rfl (by kernel_rfl) ?_
    go_wp2
    rw [E.out, nodeNew_yes E.out]
    have B14 : Bel w1 w4 := (hb2.trans hb3).trans hb4
    have B16 : Bel w1 w6 := B14.trans hb46
    have hs5 := B14.size
    have hs4 := B4.size
    have w8 : w.heap.size + 1 + 1 < W0.heap.size := Y8.out.lt
    have hpl : ps.length = ts.length := by rw [← hps.out, List.length_map]
    have HT' : Hd (OwT (w.heap.size + 3) w6 (.slice tA' ps.length tc') ps) := ⟨hotF.lower (by omega)⟩
    have HM' : Hd (World.ownsRow w6 (w.heap.size + 3) 3 1 (.slice mA (memNew vars).length mc) (memNew vars).length ((memNew vars).flatMap encI)) := ⟨own_raise (own_bel hown.out B16) (fun k hk => by have := (hown.out.lt k hk).1; omega)⟩
    have HR' : Hd (World.ownsRow w6 (w.heap.size + 3) 3 1 (.slice rA' rd.length rc') rd.length (rd.flatMap encI)) := ⟨own_raise hor.out (fun k hk => by have := (hor.out.lt k hk).1; omega)⟩
    refine bodyPost_ret (v := .tuple #[.agg #[.slice tA' ps.length tc', .slice mA (memNew vars).length mc, .slice rA' rd.length rc', .int .i64 0, .int .i64 s.chg, .int .i64 s.cap, .int .i64 s.on, .int .i64 s.leak, .int .i64 0, .int .i64 0, .int .i64 0, .slice none 0 0, .int .i64 0], .bool true]) ?_ rfl ⟨⟨tA', tc', mA, mc, rA', rc', none, 0⟩, ps, ?_, hpl, OwN.lower (lo := w.heap.size + 3) ⟨?_, ?_, ?_, own_nil _ _ _ _, ?_, (by intro k _ h; cases h), (by intro k _ h; cases h), hps.out⟩ (by omega), ?_⟩
    · simp [results, Try.results6, go_sem, x8, l8]
    · simp [hpl]
    · repeat (first | (with_reducible exact HT'.out) | (with_reducible refine OwT.set ?_ _ (by omega)))
    · repeat (first | (with_reducible exact HM'.out) | (with_reducible refine own_set ?_ _ (by omega)))
    · repeat (first | (with_reducible exact HR'.out) | (with_reducible refine own_set ?_ _ (by omega)))
    · intro k h1 h2
      have a1 := (hown.out.lt k h1).2
      have a2 := (hor.out.lt k h2).1
      omega
    · repeat (first | (with_reducible exact Bel.refl _) | (with_reducible assumption) | (with_reducible apply Bel.alloc) | (with_reducible apply Bel.drewN) | (with_reducible apply Bel.drew) | (with_reducible refine Bel.set ?_ (by simp <;> omega) _) | (refine Bel.trans ?_ (by with_reducible assumption)))
  · go_simp
    refine hK.out _ _ ?_ (fun hS => ?_)
    · exact HK.out _ (by repeat (first | (with_reducible exact Bel.refl _) | (with_reducible assumption) | (with_reducible apply Bel.alloc) | (with_reducible apply Bel.drewN) | (with_reducible apply Bel.drew) | (with_reducible refine Bel.set ?_ (by simp <;> omega) _) | (refine Bel.trans ?_ (by with_reducible assumption))))
    clear hK K; (try simp only [Act.put, List.setIfInBounds_toArray, List.set_cons_zero, List.set_cons_succ])
    refine wpAnyT_step (i := 1) rfl (by kernel_rfl) (fun K hK => ?_)
    go_simp
    go_at_call 28
    refine (l06Copy_any tA ts tc _ (RdT.bel HT.out ((hb0.trans B4).trans (by repeat (first | (with_reducible exact Bel.refl _) | (with_reducible assumption) | (with_reducible apply Bel.alloc) | (with_reducible apply Bel.drewN) | (with_reducible apply Bel.drew) | (with_reducible refine Bel.set ?_ (by simp <;> omega) _) | (refine Bel.trans ?_ (by with_reducible assumption)))))) HS.out hsz).mono ?_
    rintro e w5 ⟨vt, ps, rfl, hps, hot, hb5⟩
    obtain ⟨tA', tc', rfl, htc⟩ := hot.shape
    replace hot := Hd.mk hot
    replace hps := Hd.mk hps
    refine hK.out _ _ ?_ (fun hS => ?_)
    · exact HK.out _ (by repeat (first | (with_reducible exact Bel.refl _) | (with_reducible assumption) | (with_reducible apply Bel.alloc) | (with_reducible apply Bel.drewN) | (with_reducible apply Bel.drew) | (with_reducible refine Bel.set ?_ (by simp <;> omega) _) | (refine Bel.trans ?_ (by with_reducible assumption))))
    clear hK K; (try simp only [Act.put, List.setIfInBounds_toArray, List.set_cons_zero, List.set_cons_succ])
    refine wpAnyT_step (i := 5) rfl (by kernel_rfl) (fun K hK => ?_)
    refine step_app_row encI 1 encI_ok (by decide) w4.heap.size rfl (.tmp 38) (.tmp 39) 25 3 (.int .i64 0) 8 rfl Try.underlying25 infoI rfl (by decide) _ [] rd _ _ rfl rfl (own_bel (own_lit0 w4.drew w4.heap.size 3 1 (Nat.le_refl _)) hb5) (HR.out.bel ((hb0.trans B4).trans (by repeat (first | (with_reducible exact Bel.refl _) | (with_reducible assumption) | (with_reducible apply Bel.alloc) | (with_reducible apply Bel.drewN) | (with_reducible apply Bel.drew) | (with_reducible refine Bel.set ?_ (by simp <;> omega) _) | (refine Bel.trans ?_ (by with_reducible assumption)))))) (by have := hb5.size; simp at this; omega) (by have := HR.out.len; simp only [List.length_nil]; omega) ?_
    intro vr w6 hor hgr hatr
    simp only [List.nil_append] at hor
    obtain ⟨rA', rc', rfl, hrc⟩ := own_shape hor
    have hb46 : Bel w4 w6 := Bel.grownB hgr (by repeat (first | (with_reducible exact Bel.refl _) | (with_reducible assumption) | (with_reducible apply Bel.alloc) | (with_reducible apply Bel.drewN) | (with_reducible apply Bel.drew) | (with_reducible refine Bel.set ?_ (by simp <;> omega) _) | (refine Bel.trans ?_ (by with_reducible assumption)))) (by intro k hk; cases hk; exact Nat.le_refl _)
    have hotF : OwT w4.heap.size w6 (.slice tA' ps.length tc') ps := ((Chg.grown (Chg.refl (fun q => q = w4.heap.size) w5) hgr (by intro k hk; cases hk; rfl)).ownT hot.out (fun q hq h => by have := (hot.out.tree q hq).1; simp at this; omega)).lower (by simp)
    replace hor := Hd.mk hor
    clear hgr hatr
    refine hK.out _ _ ?_ (fun hS => ?_)
    · exact HK.out _ hb46
    clear hK K; (try simp only [Act.put, List.setIfInBounds_toArray, List.set_cons_zero, List.set_cons_succ])
    refine wpAnyT_take (i := 7) (v := ?_) rfl (by kernel_rfl) (fun _ _ _ h => h) (Or.inl ⟨by rfl, ?_⟩) (by assumption) ?_; rotate_left; (next => (intro w hSw; (try dsimp only at hSw); go_simp <;> with_reducible rfl)); (try simp only [Act.put, List.setIfInBounds_toArray, List.set_cons_zero, List.set_cons_succ])
    have B6 : Bel W0 w6 := B4.trans hb46
    have x8 := (Y8.out.bel B6).cell
    have f8 := (Y8.out.bel B6).frz
    have l8 := (Y8.out.bel B6).lt
    refine wpAnyT_tail 8 _ rfl (by kernel_rfl) ?_
    go_wp2
    rw [E.out, nodeNew_yes E.out]
    have B14 : Bel w1 w4 := (hb2.trans hb3).trans hb4
    have B16 : Bel w1 w6 := B14.trans hb46
    have hs5 := B14.size
    have hs4 := B4.size
    have w8 : w.heap.size + 1 + 1 < W0.heap.size := Y8.out.lt
    have hpl : ps.length = ts.length := by rw [← hps.out, List.length_map]
    have HT' : Hd (OwT (w.heap.size + 3) w6 (.slice tA' ps.length tc') ps) := ⟨hotF.lower (by omega)⟩
    have HM' : Hd (World.ownsRow w6 (w.heap.size + 3) 3 1 (.slice mA (memNew vars).length mc) (memNew vars).length ((memNew vars).flatMap encI)) := ⟨own_raise (own_bel hown.out B16) (fun k hk => by have := (hown.out.lt k hk).1; omega)⟩
    have HR' : Hd (World.ownsRow w6 (w.heap.size + 3) 3 1 (.slice rA' rd.length rc') rd.length (rd.flatMap encI)) := ⟨own_raise hor.out (fun k hk => by have := (hor.out.lt k hk).1; omega)⟩
    refine bodyPost_ret (v := .tuple #[.agg #[.slice tA' ps.length tc', .slice mA (memNew vars).length mc, .slice rA' rd.length rc', .int .i64 0, .int .i64 s.chg, .int .i64 s.cap, .int .i64 s.on, .int .i64 s.leak, .int .i64 0, .int .i64 0, .int .i64 0, .slice none 0 0, .int .i64 0], .bool true]) ?_ rfl ⟨⟨tA', tc', mA, mc, rA', rc', none, 0⟩, ps, ?_, hpl, OwN.lower (lo := w.heap.size + 3) ⟨?_, ?_, ?_, own_nil _ _ _ _, ?_, (by intro k _ h; cases h), (by intro k _ h; cases h), hps.out⟩ (by omega), ?_⟩
    · simp [results, Try.results6, go_sem, x8, l8]
    · simp [hpl]
    · repeat (first | (with_reducible exact HT'.out) | (with_reducible refine OwT.set ?_ _ (by omega)))
    · repeat (first | (with_reducible exact HM'.out) | (with_reducible refine own_set ?_ _ (by omega)))
    · repeat (first | (with_reducible exact HR'.out) | (with_reducible refine own_set ?_ _ (by omega)))
    · intro k h1 h2
      have a1 := (hown.out.lt k h1).2
      have a2 := (hor.out.lt k h2).1
      omega
    · repeat (first | (with_reducible exact Bel.refl _) | (with_reducible assumption) | (with_reducible apply Bel.alloc) | (with_reducible apply Bel.drewN) | (with_reducible apply Bel.drew) | (with_reducible refine Bel.set ?_ (by simp <;> omega) _) | (refine Bel.trans ?_ (by with_reducible assumption)))
end Go.Proofs.Ytgodbldchaonpaa

/- The reference's copies of programs; new nodes. No condition. -/
import Derived.Test.YtgodbldchaonpaaNC
import Derived.Test.YtgodbldchaonpaaRO
import Derived.Test.YtgodbldchaonpaaSP
import Derived.Deep.RegionHeld3
namespace Go.Proofs.Ytgodbldchaonpaa
open Go.RowKit
set_option linter.unusedVariables false
set_option linter.unusedSimpArgs false
set_option maxRecDepth 100000
set_option maxHeartbeats 4000000 in
theorem l06Copy_any (A : Option Addr) (ts : List Tk) (c : Nat) (w : World) (ha : RdT w A ts) (hs : small ts) (hsz : ts.length ≤ 1099511627776) : Calls Try.prog 28 #[.agg #[.slice A ts.length c]] w (MkPr ts w) := by
  have hlen := RdL.len ha
  have HA := Hd.mk ha
  have HS := Hd.mk hs
  clear ha hs
  obtain ⟨i0, hi0, hz0, hz1, hz2⟩ := info_parts infoT
  go_enter Try.func28, Try.ntmps28
  go_wp2_with fail
  go_loopw [4] (fun i wr => ∃ k : Nat, k ≤ ts.length ∧ i = .int .i64 k ∧ Bel w wr ∧ w.heap.size + 3 ≤ wr.heap.size ∧ Hd (Bx wr w.heap.size 31 #[.slice A ts.length c]) ∧ Hd (Bx wr (w.heap.size + 1) 31 #[.slice none 0 0]) ∧ Hd (∃ v ps, Bx wr (w.heap.size + 1 + 1) 31 #[v] ∧ ps.length = k ∧ ps.map (·.2) = ts.take k ∧ OwT (w.heap.size + 3) wr v ps)) (fun i _ => ts.length - (intOf i).toNat)
  case atStart => exact ⟨0, Nat.zero_le _, rfl, (by repeat (first | (with_reducible exact Bel.refl _) | (with_reducible assumption) | (with_reducible apply Bel.alloc) | (with_reducible apply Bel.drewN) | (with_reducible apply Bel.drew) | (with_reducible refine Bel.set ?_ (by simp <;> omega) _) | (refine Bel.trans ?_ (by with_reducible assumption)))), (by simp), ⟨((Bx.new _ _ _).alloc _).alloc _⟩, ⟨(Bx.new' _ _ _ _ (by simp)).alloc _⟩, ⟨_, [], Bx.new' _ _ _ _ (by simp), rfl, rfl, ⟨own_nil _ _ _ _, by simp, List.Pairwise.nil, by simp⟩⟩⟩
  case round =>
    obtain ⟨k, hk, rfl, HBL, hsz3, X0, X1, ⟨v, ps, hx2, hpl, hpm, hot⟩⟩ := hrel
    have X2 := Hd.mk hx2
    have HPL := Hd.mk hpl
    have HPM := Hd.mk hpm
    have HOT := Hd.mk hot
    clear hx2 hpl hpm hot
    have d0 := X0.out.cell
    by_cases hlt : k < ts.length
    · obtain ⟨b, off, B, c', rfl, hcc, HB, c0, c1, c2, c3⟩ := HA.out.atT k hlt
      have hbw := World.block_lt_of_cell? _ _ c0
      replace c0 := HBL.cell c0
      replace c1 := HBL.cell c1
      replace c2 := HBL.cell c2
      replace c3 := HBL.cell c3
      have hsm := HS.out ts[k] (List.getElem_mem _)
      go_wp2_with fail
      have d2 := X2.out.cell
      have g2 := X2.out.frz
      have hl0 := X0.out.lt
      have hl2 := X2.out.lt
      have hbz := World.block_lt_of_cell? _ _ c0
      have HK : Hd (∀ W', Chg (fun q => wr.heap.size ≤ q ∨ v.ownBlock = some q) wr W' → W'.cell? ⟨w.heap.size, 0, none⟩ = some (.slice (some ⟨b, off, none⟩) ts.length c) ∧ W'.cell? ⟨w.heap.size + 1 + 1, 0, none⟩ = some v ∧ W'.cell? ⟨b, off + k * 4, none⟩ = some (.slice B ts[k].body.length c') ∧ W'.cell? ⟨b, off + k * 4 + 1, none⟩ = some (.int .i64 ts[k].op) ∧ W'.cell? ⟨b, off + k * 4 + 2, none⟩ = some (.int .i64 ts[k].a) ∧ W'.cell? ⟨b, off + k * 4 + 3, none⟩ = some (.int .i64 ts[k].b) ∧ Chg (fun q => wr.heap.size ≤ q ∨ v.ownBlock = some q) wr W') := by
        have hns : ∀ q, q < w.heap.size + 3 → ¬ (wr.heap.size ≤ q ∨ v.ownBlock = some q) := by
          rintro q h1 (h | h)
          · omega
          · have := (HOT.out.row.lt q h).1; omega
        refine ⟨fun W' hC => ⟨hC.cell4 (d0 0) (hns _ (by simp)), hC.cell4 (d2 0) (hns _ (by simp)), hC.cell4 c0 (hns _ (by show b < _; omega)), hC.cell4 c1 (hns _ (by show b < _; omega)), hC.cell4 c2 (hns _ (by show b < _; omega)), hC.cell4 c3 (hns _ (by show b < _; omega)), hC⟩⟩
      refine wp_region_tail (fun W' => W'.cell? ⟨w.heap.size, 0, none⟩ = some (.slice (some ⟨b, off, none⟩) ts.length c) ∧ W'.cell? ⟨w.heap.size + 1 + 1, 0, none⟩ = some v ∧ W'.cell? ⟨b, off + k * 4, none⟩ = some (.slice B ts[k].body.length c') ∧ W'.cell? ⟨b, off + k * 4 + 1, none⟩ = some (.int .i64 ts[k].op) ∧ W'.cell? ⟨b, off + k * 4 + 2, none⟩ = some (.int .i64 ts[k].a) ∧ W'.cell? ⟨b, off + k * 4 + 3, none⟩ = some (.int .i64 ts[k].b) ∧ Chg (fun q => wr.heap.size ≤ q ∨ v.ownBlock = some q) wr W') 19 (by kernel_rfl) (HK.out _ (by repeat (first | (with_reducible exact Chg.refl _ _) | (with_reducible assumption) | (with_reducible apply Chg.alloc) | (with_reducible apply Chg.drew)))) (fun hS => ?_)
      refine wpAnyT_take (i := 0) (v := ?_) rfl (by kernel_rfl) (fun _ _ _ h => h) (Or.inl ⟨by rfl, ?_⟩) (by assumption) ?_; rotate_left; (next => (intro w hSw; (try dsimp only at hSw); go_simp <;> with_reducible rfl)); (try simp only [Act.put, List.setIfInBounds_toArray, List.set_cons_zero, List.set_cons_succ])
      refine wpAnyT_take (i := 1) (v := ?_) rfl (by kernel_rfl) (fun _ _ _ h => h) (Or.inl ⟨by rfl, ?_⟩) (by assumption) ?_; rotate_left; (next => (intro w hSw; (try dsimp only at hSw); go_simp <;> with_reducible rfl)); (try simp only [Act.put, List.setIfInBounds_toArray, List.set_cons_zero, List.set_cons_succ])
      refine wpAnyT_take (i := 3) (v := ?_) rfl (by kernel_rfl) (fun _ _ _ h => h) (Or.inl ⟨by rfl, ?_⟩) (by assumption) ?_; rotate_left; (next => (intro w hSw; (try dsimp only at hSw); go_simp <;> with_reducible rfl)); (try simp only [Act.put, List.setIfInBounds_toArray, List.set_cons_zero, List.set_cons_succ])
      refine wpAnyT_take (i := 4) (v := ?_) rfl (by kernel_rfl) (fun _ _ _ h => h) (Or.inl ⟨by rfl, ?_⟩) (by assumption) ?_; rotate_left; (next => (intro w hSw; (try dsimp only at hSw); go_simp <;> with_reducible rfl)); (try simp only [Act.put, List.setIfInBounds_toArray, List.set_cons_zero, List.set_cons_succ])
      refine wpAnyT_take (i := 5) (v := ?_) rfl (by kernel_rfl) (fun _ _ _ h => h) (Or.inl ⟨by rfl, ?_⟩) (by assumption) ?_; rotate_left; (next => (intro w hSw; (try dsimp only at hSw); go_simp <;> with_reducible rfl)); (try simp only [Act.put, List.setIfInBounds_toArray, List.set_cons_zero, List.set_cons_succ])
      refine wpAnyT_take (i := 6) (v := ?_) rfl (by kernel_rfl) (fun _ _ _ h => h) (Or.inl ⟨by rfl, ?_⟩) (by assumption) ?_; rotate_left; (next => (intro w hSw; (try dsimp only at hSw); go_simp <;> with_reducible rfl)); (try simp only [Act.put, List.setIfInBounds_toArray, List.set_cons_zero, List.set_cons_succ])
      refine wpAnyT_take (i := 7) (v := ?_) rfl (by kernel_rfl) (fun _ _ _ h => h) (Or.inl ⟨by rfl, ?_⟩) (by assumption) ?_; rotate_left; (next => (intro w hSw; (try dsimp only at hSw); go_simp <;> with_reducible rfl)); (try simp only [Act.put, List.setIfInBounds_toArray, List.set_cons_zero, List.set_cons_succ])
      refine wpAnyT_take (i := 8) (v := ?_) rfl (by kernel_rfl) (fun _ _ _ h => h) (Or.inl ⟨by rfl, ?_⟩) (by assumption) ?_; rotate_left; (next => (intro w hSw; (try dsimp only at hSw); go_simp <;> with_reducible rfl)); (try simp only [Act.put, List.setIfInBounds_toArray, List.set_cons_zero, List.set_cons_succ])
      refine wpAnyT_take (i := 10) (v := ?_) rfl (by kernel_rfl) (fun _ _ _ h => h) (Or.inl ⟨by rfl, ?_⟩) (by assumption) ?_; rotate_left; (next => (intro w hSw; (try dsimp only at hSw); go_simp <;> with_reducible rfl)); (try simp only [Act.put, List.setIfInBounds_toArray, List.set_cons_zero, List.set_cons_succ])
      refine wpAnyT_take (i := 11) (v := ?_) rfl (by kernel_rfl) (fun _ _ _ h => h) (Or.inl ⟨by rfl, ?_⟩) (by assumption) ?_; rotate_left; (next => (intro w hSw; (try dsimp only at hSw); go_simp <;> with_reducible rfl)); (try simp only [Act.put, List.setIfInBounds_toArray, List.set_cons_zero, List.set_cons_succ])
      refine wpAnyT_take (i := 12) (v := ?_) rfl (by kernel_rfl) (fun _ _ _ h => h) (Or.inl ⟨by rfl, ?_⟩) (by assumption) ?_; rotate_left; (next => (intro w hSw; (try dsimp only at hSw); go_simp <;> with_reducible rfl)); (try simp only [Act.put, List.setIfInBounds_toArray, List.set_cons_zero, List.set_cons_succ])
      refine wpAnyT_take (i := 13) (v := ?_) rfl (by kernel_rfl) (fun _ _ _ h => h) (Or.inl ⟨by rfl, ?_⟩) (by assumption) ?_; rotate_left; (next => (intro w hSw; (try dsimp only at hSw); go_simp <;> with_reducible rfl)); (try simp only [Act.put, List.setIfInBounds_toArray, List.set_cons_zero, List.set_cons_succ])
      refine wpAnyT_take (i := 14) (v := ?_) rfl (by kernel_rfl) (fun _ _ _ h => h) (Or.inl ⟨by rfl, ?_⟩) (by assumption) ?_; rotate_left; (next => (intro w hSw; (try dsimp only at hSw); go_simp <;> with_reducible rfl)); (try simp only [Act.put, List.setIfInBounds_toArray, List.set_cons_zero, List.set_cons_succ])
      refine wpAnyT_take (i := 15) (v := ?_) rfl (by kernel_rfl) (fun _ _ _ h => h) (Or.inl ⟨by rfl, ?_⟩) (by assumption) ?_; rotate_left; (next => (intro w hSw; (try dsimp only at hSw); go_simp <;> with_reducible rfl)); (try simp only [Act.put, List.setIfInBounds_toArray, List.set_cons_zero, List.set_cons_succ])
      refine wpAnyT_step (i := 2) rfl (by kernel_rfl) (fun K hK => ?_)
      go_simp
      refine hK.out _ _ ?_ (fun hS => ?_)
      · exact HK.out _ (by repeat (first | (with_reducible exact Chg.refl _ _) | (with_reducible assumption) | (with_reducible apply Chg.alloc) | (with_reducible apply Chg.drew)))
      clear hK K; (try simp only [Act.put, List.setIfInBounds_toArray, List.set_cons_zero, List.set_cons_succ])
      refine wpAnyT_step (i := 9) rfl (by kernel_rfl) (fun K hK => ?_)
      refine step_app_row encS 6 encS_ok (by decide) wr.heap.size rfl (.tmp 15) (.tmp 21) 88 114 (.agg #[.int .i64 0, .int .i64 0, .int .i64 0, .int .i64 0, .int .i64 0, .int .i64 0]) 48 rfl Try.underlying88 infoS rfl (by decide) _ [] ts[k].body _ _ rfl rfl (own_lit0 _ _ _ _ (by simp)) (HB.out.bel (HBL.trans (by repeat (first | (with_reducible exact Bel.refl _) | (with_reducible assumption) | (with_reducible apply Bel.alloc) | (with_reducible apply Bel.drewN) | (with_reducible apply Bel.drew) | (with_reducible refine Bel.set ?_ (by simp <;> omega) _) | (refine Bel.trans ?_ (by with_reducible assumption)))))) (by simp) (by simp only [List.length_nil]; omega) ?_
      intro v4 w4 hown4 hgrow4 hat4
      simp only [List.nil_append] at hown4
      obtain ⟨A4, c4, rfl, hcc4⟩ := own_shape hown4
      have hb4 : Bel wr w4 := Bel.grownB hgrow4 (by repeat (first | (with_reducible exact Bel.refl _) | (with_reducible assumption) | (with_reducible apply Bel.alloc) | (with_reducible apply Bel.drewN) | (with_reducible apply Bel.drew) | (with_reducible refine Bel.set ?_ (by simp <;> omega) _) | (refine Bel.trans ?_ (by with_reducible assumption)))) (by intro k hk; cases hk; simp)
      have hC4 : Chg (fun q => wr.heap.size ≤ q ∨ v.ownBlock = some q) wr w4 := (Chg.refl _ _).bel hb4
      replace hown4 := Hd.mk hown4
      clear hgrow4 hat4
      refine hK.out _ _ ?_ (fun hS => ?_)
      · exact HK.out _ hC4
      clear hK K; (try simp only [Act.put, List.setIfInBounds_toArray, List.set_cons_zero, List.set_cons_succ])
      refine wpAnyT_take (i := 16) (v := ?_) rfl (by kernel_rfl) (fun _ _ _ h => h) (Or.inl ⟨by rfl, ?_⟩) (by assumption) ?_; rotate_left; (next => (intro w hSw; (try dsimp only at hSw); go_simp <;> with_reducible rfl)); (try simp only [Act.put, List.setIfInBounds_toArray, List.set_cons_zero, List.set_cons_succ])
      refine wpAnyT_step (i := 17) rfl (by kernel_rfl) (fun K hK => ?_)
      go_simp
      refine hK.out _ _ ?_ (fun hS => ?_)
      · exact HK.out _ (by repeat (first | (with_reducible exact Chg.refl _ _) | (with_reducible assumption) | (with_reducible apply Chg.alloc) | (with_reducible apply Chg.drew)))
      clear hK K; (try simp only [Act.put, List.setIfInBounds_toArray, List.set_cons_zero, List.set_cons_succ])
      refine wpAnyT_step (i := 18) rfl (by kernel_rfl) (fun K hK => ?_)
      refine step_append_lies _ (by rfl) (.tmp 14) (.tmp 30) 29 (by rfl) (w.heap.size + 3) 91 i0 _ 4 48 Try.underlying29 hi0 hz0 hz1 hz2 rfl (by omega) v ps.length (ps.flatMap encP) (by rfl) ((HOT.out.bel (by repeat (first | (with_reducible exact Bel.refl _) | (with_reducible assumption) | (with_reducible apply Bel.alloc) | (with_reducible apply Bel.drewN) | (with_reducible apply Bel.drew) | (with_reducible refine Bel.set ?_ (by simp <;> omega) _) | (refine Bel.trans ?_ (by with_reducible assumption))))).row) ⟨w4.heap.size, 0, none⟩ 1 1 (encP (.slice A4 ts[k].body.length c4, ts[k])) (by rfl) (by rfl) (World.news_of_block (cs := #[.slice A4 ts[k].body.length c4, .int .i64 ts[k].op, .int .i64 ts[k].a, .int .i64 ts[k].b]) (t := 91) (fr := (0, 0)) (heap_alloc_new w4 _)) (by simp [encP, Value.oneCell']) (by omega) (by have := HPL.out; simp only [maxLen]; omega) (by have := HPL.out; omega) (by have := hb4.size; simp at this ⊢; omega) _ rfl ?_
      intro gg cap w6 hown6 hgrow6 hat6 hlt6
      have X5 := Hd.mk (X2.out.grownB hgrow6 (by repeat (first | (with_reducible exact Bel.refl _) | (with_reducible assumption) | (with_reducible apply Bel.alloc) | (with_reducible apply Bel.drewN) | (with_reducible apply Bel.drew) | (with_reducible refine Bel.set ?_ (by simp <;> omega) _) | (refine Bel.trans ?_ (by with_reducible assumption)))) (own_bx HOT.out.row (by omega)))
      have X6 := Hd.mk (X1.out.grownB hgrow6 (by repeat (first | (with_reducible exact Bel.refl _) | (with_reducible assumption) | (with_reducible apply Bel.alloc) | (with_reducible apply Bel.drewN) | (with_reducible apply Bel.drew) | (with_reducible refine Bel.set ?_ (by simp <;> omega) _) | (refine Bel.trans ?_ (by with_reducible assumption)))) (own_bx HOT.out.row (by omega)))
      have X7 := Hd.mk (X0.out.grownB hgrow6 (by repeat (first | (with_reducible exact Bel.refl _) | (with_reducible assumption) | (with_reducible apply Bel.alloc) | (with_reducible apply Bel.drewN) | (with_reducible apply Bel.drew) | (with_reducible refine Bel.set ?_ (by simp <;> omega) _) | (refine Bel.trans ?_ (by with_reducible assumption)))) (own_bx HOT.out.row (by omega)))
      have hC6 : Chg (fun q => wr.heap.size ≤ q ∨ v.ownBlock = some q) wr w6 := Chg.grown ((Chg.refl _ _).bel (by repeat (first | (with_reducible exact Bel.refl _) | (with_reducible assumption) | (with_reducible apply Bel.alloc) | (with_reducible apply Bel.drewN) | (with_reducible apply Bel.drew) | (with_reducible refine Bel.set ?_ (by simp <;> omega) _) | (refine Bel.trans ?_ (by with_reducible assumption))))) hgrow6 (fun q h => .inr h)
      refine hK.out _ _ ?_ (fun hS => ?_)
      · exact HK.out _ hC6
      clear hK K; (try simp only [Act.put, List.setIfInBounds_toArray, List.set_cons_zero, List.set_cons_succ])
      have y6 := X5.out.cell
      have z6 := X5.out.frz
      replace hown6 := Hd.mk hown6
      replace hgrow6 := Hd.mk hgrow6
      replace hat6 := Hd.mk hat6
      refine wpAnyT_tail 19 _ rfl (by kernel_rfl) ?_
      go_wp2
      go_roundw
      case rel =>
        refine ⟨k + 1, by omega, by go_num, ?_, ?_, ⟨X7.out.far _ (by omega)⟩, ⟨X6.out.far _ (by omega)⟩, ⟨_, ps ++ [(.slice A4 ts[k].body.length c4, ts[k])], X5.out.set1 _, ?_, ?_, ?_⟩⟩
        · exact (Bel.grownB hgrow6.out (HBL.trans (by repeat (first | (with_reducible exact Bel.refl _) | (with_reducible assumption) | (with_reducible apply Bel.alloc) | (with_reducible apply Bel.drewN) | (with_reducible apply Bel.drew) | (with_reducible refine Bel.set ?_ (by simp <;> omega) _) | (refine Bel.trans ?_ (by with_reducible assumption))))) (fun k hk => by have := (HOT.out.row.lt k hk).1; omega)).set (by simp; omega) _
        · have := X5.out.lt; simp; omega
        · rw [List.length_append, HPL.out]; rfl
        · rw [List.map_append, HPM.out, List.take_succ_eq_append_getElem hlt]; rfl
        · refine OwT.set (OwT.snoc (w0 := wr) (hg := hgrow6.out) HOT.out (by repeat (first | (with_reducible exact Bel.refl _) | (with_reducible assumption) | (with_reducible apply Bel.alloc) | (with_reducible apply Bel.drewN) | (with_reducible apply Bel.drew) | (with_reducible refine Bel.set ?_ (by simp <;> omega) _) | (refine Bel.trans ?_ (by with_reducible assumption)))) (own_bel hown4.out ((Bel.refl _).alloc _)) (by omega) (by simp) hown6.out ?_ (Nat.le_refl _)) _ (by omega)
          rcases hat6.out with h | h
          · exact .inl (by rw [h]; rfl)
          · exact .inr (by rw [h]; rfl)
      case measure => simp [intOf]; omega
    · obtain ⟨A3, c3, rfl, hcc3⟩ := HOT.out.shape
      have d1 := X1.out.cell
      have g1 := X1.out.frz
      have d2 := X2.out.cell
      have l1 := X1.out.lt
      have hfin : Hd (ps.map (·.2) = ts) := ⟨by rw [HPM.out, List.take_of_length_le (by omega)]⟩
      go_wp2
      refine bodyPost_ret (v := .agg #[.slice A3 ps.length c3]) ?_ rfl ⟨_, ps, rfl, hfin.out, OwT.lower (lo := w.heap.size + 3) ?_ (by omega), ?_⟩
      · simp [results, Try.results28, go_sem, l1, d1]
      · exact HOT.out.set _ (by omega)
      · exact HBL.set (by simp) _
end Go.Proofs.Ytgodbldchaonpaa

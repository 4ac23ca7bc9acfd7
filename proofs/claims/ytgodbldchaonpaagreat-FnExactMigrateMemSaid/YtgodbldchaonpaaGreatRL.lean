/- The laws' own sizes, copies, comparisons and marks on rules. No condition. -/
import Derived.Test.YtgodbldchaonpaaGreatRG
import Derived.Test.YtgodbldchaonpaaGreatMU
import Derived.Test.YtgodbldchaonpaaGreatW
namespace Go.Proofs.YtgodbldchaonpaaGreat
open Go.RowKit
set_option linter.unusedVariables false
set_option linter.unusedSimpArgs false
set_option maxRecDepth 100000
theorem infoX : (Tryz.prog.info? 114).map (fun i => (i.zero, i.size, i.bytes)) = some (some (.agg #[.int .i64 0, .int .i64 0, .int .i64 0]), 3, 24) := by kernel_rfl
theorem own_three {W : World} {base g n cap : Nat} {e : TypeId} {cells : List Value} (h : W.ownsRow base e 3 (.slice (some ⟨g, 0, none⟩) n cap) n cells) (k : Nat) (hk : k < n) :
    ∃ v0 v1 v2, W.cell? ⟨g, k * 3, none⟩ = some v0 ∧ W.cell? ⟨g, k * 3 + 1, none⟩ = some v1 ∧ W.cell? ⟨g, k * 3 + 2, none⟩ = some v2
      ∧ W.frozen? ⟨g, k * 3, none⟩ = false ∧ W.frozen? ⟨g, k * 3 + 1, none⟩ = false ∧ W.frozen? ⟨g, k * 3 + 2, none⟩ = false := by
  obtain ⟨v0, h0⟩ := own_cells h (k * 3) (by omega)
  obtain ⟨v1, h1⟩ := own_cells h (k * 3 + 1) (by omega)
  obtain ⟨v2, h2⟩ := own_cells h (k * 3 + 2) (by omega)
  exact ⟨v0, v1, v2, h0, h1, h2, h.frozenAt _, h.frozenAt _, h.frozenAt _⟩
theorem szExprS_any (A : Option Addr) (n c : Nat) (l : Int) (w : World) (h0 : 0 ≤ l) (h1 : l ≤ 1048576) (hn : n ≤ 17592186044416) : Calls Tryz.prog 30 #[.slice A n c, .int .i64 l] w (Bl (.int .i64 (szL l n)) w) := by
  go_enter Tryz.func30, Tryz.ntmps30
  go_wp2
  all_goals (go_ret; refine ⟨retI ?_, Bel.refl _⟩; unfold szL; first | (simp_all; done) | (rw [if_pos (by omega)]) | (rw [if_neg (by omega)]))
theorem szRules_any (A : Option Addr) (n c : Nat) (l : Int) (w : World) (h0 : 0 ≤ l) (h1 : l ≤ 1048576) (hn : n ≤ 17592186044416) : Calls Tryz.prog 6 #[.agg #[.slice A n c], .int .i64 l] w (Bl (.int .i64 (szL l n)) w) := by
  have hcall := fun W => szExprS_any A n c l W h0 h1 hn
  by_cases h : l - n < 0
  · rw [szL_neg h] at hcall ⊢
    go_enter Tryz.func6, Tryz.ntmps6
    go_wp2_with (go_at_call 30; refine (hcall _).mono ?_; rintro e w' ⟨rfl, hb⟩; obtain ⟨hc, hf⟩ := hb.rd)
    all_goals (go_ret; exact ⟨rfl, (by repeat (first | exact Bel.refl _ | assumption | apply Bel.alloc | apply Bel.drewN | apply Bel.drew | (refine Bel.trans ?_ (by assumption))))⟩)
  · rw [szL_pos h] at hcall ⊢
    go_enter Tryz.func6, Tryz.ntmps6
    go_wp2_with (go_at_call 30; refine (hcall _).mono ?_; rintro e w' ⟨rfl, hb⟩; obtain ⟨hc, hf⟩ := hb.rd)
    all_goals (go_ret; exact ⟨rfl, (by repeat (first | exact Bel.refl _ | assumption | apply Bel.alloc | apply Bel.drewN | apply Bel.drew | (refine Bel.trans ?_ (by assumption))))⟩)
set_option maxHeartbeats 4000000 in
theorem toExprS_any (A : Option Addr) (xs : List Ex) (c : Nat) (w : World) (ha : RdX w A xs) (hsz : xs.length ≤ 1099511627776) : Calls Tryz.prog 39 #[.slice A xs.length c] w (Mk encX 114 3 xs w) := by
  have hlen := RdF.len ha
  have HA := Hd.mk ha
  clear ha
  have hmk := make_run (P := Tryz.prog) 38 114 (.agg #[.int .i64 0, .int .i64 0, .int .i64 0]) 3 24 Tryz.underlying38 infoX xs.length (by omega) (by omega)
  go_enter Tryz.func39, Tryz.ntmps39
  go_wp2
  clear hmk
  have hb0 : Bel w (w.alloc (.cells (madeCells #[.int .i64 0, .int .i64 0, .int .i64 0] (xs.length * 3)) 114)) := (Bel.refl w).alloc _
  have ho0 := Hd.mk (own_made w w.heap.size 114 #[.int .i64 0, .int .i64 0, .int .i64 0] 3 xs.length (Nat.le_refl _) (by omega))
  go_loopw [4] (fun i wr => ∃ k : Nat, k ≤ xs.length ∧ i = .int .i64 k ∧ Bel w wr ∧ Hd (∃ cells, wr.ownsRow w.heap.size 114 3 (.slice (some ⟨w.heap.size, 0, none⟩) xs.length xs.length) xs.length cells ∧ Filled encX 3 xs cells k)) (fun i _ => xs.length - (intOf i).toNat)
  case atStart => exact ⟨0, Nat.zero_le _, rfl, hb0, ⟨_, ho0.out, filled_zero _ _ _ _⟩⟩
  case round =>
    obtain ⟨k, hk, rfl, HBL, ⟨cells, hown, hfil⟩⟩ := hrel
    have HO := Hd.mk hown
    have HF := Hd.mk hfil
    clear hown hfil hb0 ho0
    by_cases hlt : k < xs.length
    · obtain ⟨b, off, rfl, c0, c1, c2⟩ := (HA.out.bel HBL).atX k hlt
      go_wp2_with (go_at_call 79; refine (toExpr_any xs[k] _).mono ?_; rintro e w' ⟨rfl, hb⟩; have HO2 := Hd.mk (own_bel HO.out hb); obtain ⟨v0, v1, v2, q0, q1, q2, z0, z1, z2⟩ := own_three HO2.out k hlt)
      go_roundw
      case rel =>
        have hl : cells.length = xs.length * 3 := HO.out.1
        have hl3 : k * 3 + 2 < cells.length := by omega
        have hbl := HBL.trans hb
        refine ⟨k + 1, by omega, by go_num, ?_, ⟨_, ((((HO2.out.stored (k * 3) _).1.stored (k * 3 + 1) _).1.stored (k * 3 + 2) _).1), filled_succ HF.out hlt ?_ ?_⟩⟩
        · repeat (first | exact hbl | refine Bel.set ?_ (Nat.le_refl _) _)
        · intro i hi
          have hi3 : i = 0 ∨ i = 1 ∨ i = 2 := by omega
          rcases hi3 with rfl | rfl | rfl <;> simp [encX, List.getElem?_set, hl] <;> omega
        · intro p hp
          simp only [List.getElem?_set, List.length_set]
          repeat (rw [if_neg (by omega)])
      case measure => simp [intOf]; omega
    · have e : k = xs.length := by omega
      subst e
      have hfin := Hd.mk (filled_all encX_ok (by decide) HF.out HO.out.1)
      go_wp2
      go_ret
      exact ⟨_, rfl, by rw [← hfin.out]; exact HO.out, HBL⟩
/-- Rules made anew. -/
def MkX (xs : List Ex) (w : World) (e : Ending) (w' : World) : Prop := ∃ A c, e = .returned (.agg #[.slice A xs.length c]) ∧ w'.ownsRow w.heap.size 114 3 (.slice A xs.length c) xs.length (xs.flatMap encX) ∧ RdX w' A xs ∧ xs.length ≤ c ∧ Bel w w'
set_option maxHeartbeats 2000000 in
theorem toRules_any (A : Option Addr) (xs : List Ex) (c : Nat) (w : World) (ha : RdX w A xs) (hsz : xs.length ≤ 1048576) : Calls Tryz.prog 10 #[.agg #[.slice A xs.length c]] w (MkX xs w) := by
  have HA := Hd.mk ha
  clear ha
  go_enter Tryz.func10, Tryz.ntmps10
  go_wp2_with fail
  refine (toExprS_any A xs c _ (HA.out.bel (by repeat (first | (with_reducible exact Bel.refl _) | (with_reducible assumption) | (with_reducible apply Bel.alloc) | (with_reducible apply Bel.drewN) | (with_reducible apply Bel.drew) | (with_reducible refine Bel.set ?_ (by simp <;> omega) _) | (refine Bel.trans ?_ (by with_reducible assumption))))) (by omega)).mono ?_
  rintro e w' ⟨v, rfl, hown, hb⟩
  obtain ⟨A', c', rfl, hcc⟩ := own_shape hown
  have X1 := Hd.mk (((Bx.new' (w.alloc (.cells #[.slice A xs.length c] 28)) 40 #[.slice none 0 0] (w.heap.size + 1) (by simp)).alloc _).bel hb)
  have X2 := Hd.mk ((Bx.new' ((w.alloc (.cells #[.slice A xs.length c] 28)).alloc (.cells #[.slice none 0 0] 40)) 40 #[.slice none 0 0] (w.heap.size + 1 + 1) (by simp)).bel hb)
  have x1 := X1.out.cell
  have f1 := X1.out.frz
  have x2 := X2.out.cell
  have f2 := X2.out.frz
  have hlo := fun k hk => (hown.lt k hk).1
  have hne : ∀ g, g ≤ w.heap.size + 1 + 1 → (Value.slice A' xs.length c').ownBlock ≠ some g := fun g hg e => by have := hlo g e; simp at this; omega
  replace hown := Hd.mk (own_raise (b' := w.heap.size) hown (fun k hk => by have := hlo k hk; simp at this; omega))
  replace hb := Hd.mk hb
  go_wp2
  have hb1 := hb.out
  have hfin := Hd.mk (show World.ownsRow (((w'.setCell ⟨w.heap.size + 1 + 1, 0, none⟩ (.slice A' xs.length c'))).setCell ⟨w.heap.size + 1, 0, none⟩ (.slice A' xs.length c')) w.heap.size 114 3 (.slice A' xs.length c') xs.length (xs.flatMap encX) from (by repeat (first | (with_reducible exact hown.out) | (with_reducible refine World.ownsRow.alloc ?_ _) | (with_reducible refine own_far ?_ _ (hne _ (by simp <;> omega))))))
  refine bodyPost_ret (v := .agg #[.slice A' xs.length c']) ?_ rfl ⟨A', c', rfl, ?_, ?_, hcc, ?_⟩
  · simp [results, Tryz.results10, go_sem, x1, x2]
  · exact hfin.out
  · obtain ⟨A2, c2, e2, _, h2⟩ := own_rd encX_ok hfin.out (by omega)
    cases e2
    exact h2
  · repeat (first | (with_reducible exact Bel.refl _) | (with_reducible assumption) | (with_reducible apply Bel.alloc) | (with_reducible apply Bel.drewN) | (with_reducible apply Bel.drew) | (with_reducible refine Bel.set ?_ (by simp <;> omega) _) | (refine Bel.trans ?_ (by with_reducible assumption)))
set_option maxHeartbeats 2000000 in
theorem eqExprS_same (A B : Option Addr) (xs : List Ex) (c d : Nat) (w : World) (ha : RdX w A xs) (hb : RdX w B xs) :
   Calls Tryz.prog 48 #[.slice A xs.length c, .slice B xs.length d] w (Bl (.bool true) w) := by
  have hlen := RdF.len ha
  have HA := Hd.mk ha
  have HB := Hd.mk hb
  clear ha hb
  go_enter Tryz.func48, Tryz.ntmps48
  go_wp2
  go_loopw [5] (fun i wr => ∃ k : Nat, k ≤ xs.length ∧ i = .int .i64 k ∧ Bel w wr) (fun i _ => xs.length - (intOf i).toNat)
  case atStart => exact ⟨0, Nat.zero_le _, rfl, Bel.refl _⟩
  case round =>
    obtain ⟨k, hk, rfl, HBL⟩ := hrel
    by_cases hlt : k < xs.length
    · obtain ⟨b, off, rfl, c0, c1, c2⟩ := (HA.out.bel HBL).atX k hlt
      obtain ⟨b', off', rfl, d0, d1, d2⟩ := (HB.out.bel HBL).atX k hlt
      go_wp2
      go_still_tail 8, (by kernel_rfl)
      change wpList _ _ _ _ _ wr.drew
      have hdr := (Bel.refl wr).drew
      generalize wr.drew = w2 at hdr ⊢
      go_wp2_with (go_at_call 94; refine (eqExpr_same xs[k] _).mono ?_; rintro e w' ⟨rfl, hb⟩)
      go_roundw
      case rel => exact ⟨k + 1, by omega, by go_num, (by repeat (first | exact Bel.refl _ | assumption | apply Bel.alloc | apply Bel.drewN | apply Bel.drew | (refine Bel.trans ?_ (by assumption))))⟩
      case measure => simp [intOf]; omega
    · go_wp2
      go_ret
      exact ⟨rfl, (by repeat (first | exact Bel.refl _ | assumption | apply Bel.alloc | apply Bel.drewN | apply Bel.drew | (refine Bel.trans ?_ (by assumption))))⟩
set_option maxHeartbeats 1000000 in
theorem eqRules_same (A B : Option Addr) (xs : List Ex) (c d : Nat) (w : World) (ha : RdX w A xs) (hb : RdX w B xs) :
   Calls Tryz.prog 14 #[.agg #[.slice A xs.length c], .agg #[.slice B xs.length d]] w (Bl (.bool true) w) := by
  have HA := Hd.mk ha
  have HB := Hd.mk hb
  clear ha hb
  go_enter Tryz.func14, Tryz.ntmps14
  go_wp2_with (go_at_call 48; refine (eqExprS_same _ _ xs _ _ _ (HA.out.bel (by repeat (first | exact Bel.refl _ | assumption | apply Bel.alloc | apply Bel.drewN | apply Bel.drew | (refine Bel.trans ?_ (by assumption))))) (HB.out.bel (by repeat (first | exact Bel.refl _ | assumption | apply Bel.alloc | apply Bel.drewN | apply Bel.drew | (refine Bel.trans ?_ (by assumption)))))).mono ?_; rintro e w' ⟨rfl, hb⟩; obtain ⟨hc, hf⟩ := hb.rd)
  all_goals (go_ret; exact ⟨rfl, (by repeat (first | exact Bel.refl _ | assumption | apply Bel.alloc | apply Bel.drewN | apply Bel.drew | (refine Bel.trans ?_ (by assumption))))⟩)
def mkX (k : Int) : Ex := ⟨k, k + 1, k + 2⟩
def mkXs (k : Int) (n : Nat) : List Ex := (List.range n).map (fun (i : Nat) => mkX (k + 3 * (i : Int)))
theorem mkXs_len (k : Int) (n : Nat) : (mkXs k n).length = n := by simp [mkXs]
theorem mkXs_get (k : Int) (n i : Nat) (h : i < (mkXs k n).length) : (mkXs k n)[i] = mkX (k + 3 * (i : Int)) := by simp [mkXs]
set_option maxHeartbeats 4000000 in
theorem markExprS_any (lo : Nat) (A : Option Addr) (n : Nat) (cs : List Value) (c : Nat) (k : Int) (w : World) (ho : w.ownsRow lo 114 3 (.slice A n c) n cs) (h0 : 0 ≤ k) (hk : k + 3 * n ≤ 4611686018427387904) (hl : n ≤ 1099511627776) :
    Calls Tryz.prog 50 #[.slice A n c, .int .i64 k] w (Mrk (.slice A n c) k (3 * n) (fun w' => w'.ownsRow lo 114 3 (.slice A n c) n ((mkXs k n).flatMap encX)) (fun b => (Value.slice A n c).ownBlock = some b) w) := by
  have HO0 := Hd.mk ho
  clear ho
  go_enter Tryz.func50, Tryz.ntmps50
  go_wp2
  go_loopw [1, 5] (fun x i wr => ∃ j : Nat, j ≤ n ∧ i = .int .i64 j ∧ x = .int .i64 (k + 3 * j) ∧ Chg (fun b => (Value.slice A n c).ownBlock = some b) w wr ∧ Hd (∃ cells, wr.ownsRow lo 114 3 (.slice A n c) n cells ∧ Filled encX 3 (mkXs k n) cells j)) (fun _ i _ => n - (intOf i).toNat)
  case atStart => exact ⟨0, Nat.zero_le _, rfl, by simp, Chg.refl _ _, ⟨_, HO0.out, filled_zero _ _ _ _⟩⟩
  case round =>
    obtain ⟨j, hj, rfl, rfl, HC, ⟨cells, hown, hfil⟩⟩ := hrel
    have HO := Hd.mk hown
    have HF := Hd.mk hfil
    clear hown hfil
    by_cases hlt : j < n
    · obtain ⟨g, rfl⟩ := own_some HO.out (by omega)
      obtain ⟨v0, v1, v2, q0, q1, q2, z0, z1, z2⟩ := own_three HO.out j hlt
      go_wp2
      go_roundw
      case rel =>
        have hl : cells.length = n * 3 := HO.out.1
        refine ⟨j + 1, by omega, by go_num, by go_num, ((HC.set _ rfl).set _ rfl).set _ rfl, ⟨_, ((((HO.out.stored (j * 3) _).1.stored (j * 3 + 1) _).1.stored (j * 3 + 2) _).1), filled_succ HF.out (by rw [mkXs_len]; exact hlt) ?_ ?_⟩⟩
        · intro i hi
          have hi3 : i = 0 ∨ i = 1 ∨ i = 2 := by omega
          rcases hi3 with rfl | rfl | rfl <;> simp [encX, List.getElem?_set, hl, mkXs_get, mkX] <;> omega
        · intro p hp
          simp only [List.getElem?_set, List.length_set]
          repeat (rw [if_neg (by omega)])
      case measure => simp [intOf]; omega
    · have e : j = n := by omega
      have hfin := Hd.mk (filled_all encX_ok (by decide) (xs := mkXs k n) (by rw [mkXs_len]; exact e ▸ HF.out) (by rw [mkXs_len]; exact HO.out.1))
      go_wp2
      go_ret
      exact ⟨retI (by rw [e]; simp), (by show World.ownsRow _ _ _ _ _ _ _; rw [← hfin.out]; exact HO.out), HC⟩
/-- What a mark returns, and what it may turn. -/
def MrkR (k : Int) (S : Nat → Prop) (w : World) (e : Ending) (w' : World) : Prop := e = .returned (.int .i64 k) ∧ Chg S w w'
set_option maxHeartbeats 1000000 in
theorem markRules_any (lo : Nat) (A : Option Addr) (xs : List Ex) (c : Nat) (k : Int) (w : World) (ho : w.ownsRow lo 114 3 (.slice A xs.length c) xs.length (xs.flatMap encX)) (h0 : 0 ≤ k) (hk : k ≤ 1099511627776) (hl : xs.length ≤ 1048576) :
    Calls Tryz.prog 17 #[.agg #[.slice A xs.length c], .int .i64 k] w (MrkR (k + (3 * xs.length : Nat)) (fun b => (Value.slice A xs.length c).ownBlock = some b) w) := by
  have HO := Hd.mk ho
  clear ho
  go_enter Tryz.func17, Tryz.ntmps17
  go_wp2_with fail
  refine (markExprS_any lo A xs.length _ c k _ (World.ownsRow.alloc HO.out _) h0 (by omega) (by omega)).mono ?_
  rintro e w' ⟨rfl, _, hc⟩
  have hc0 : Chg (fun b => (Value.slice A xs.length c).ownBlock = some b) w w' := Chg.trans ((Chg.refl _ _).alloc _) hc
  clear hc
  go_wp2
  go_ret
  exact ⟨rfl, hc0⟩
end Go.Proofs.YtgodbldchaonpaaGreat

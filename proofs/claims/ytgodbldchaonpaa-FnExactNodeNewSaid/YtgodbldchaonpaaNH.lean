/- The laws' own look at what they have marked. No condition. -/
import Derived.Test.YtgodbldchaonpaaRO
namespace Go.Proofs.Ytgodbldchaonpaa
open Go.RowKit
set_option linter.unusedVariables false
set_option linter.unusedSimpArgs false
set_option maxRecDepth 100000
set_option maxHeartbeats 4000000 in
theorem heldStmtS_any (A : Option Addr) (n c : Nat) (k : Int) (w : World) (ha : RdS w A (mkSs k n)) (h0 : 0 ≤ k) (hk : k + 6 * n ≤ 4611686018427387904) (hl : n ≤ 1099511627776) :
    Calls Try.prog 96 #[.slice A n c, .int .i64 k] w (Bl (.int .i64 (k + 6 * n)) w) := by
  have HA := Hd.mk ha
  clear ha
  go_enter Try.func96, Try.ntmps96
  go_wp2
  go_loopw [1, 5] (fun x i wr => ∃ j : Nat, j ≤ n ∧ i = .int .i64 j ∧ x = .int .i64 (k + 6 * j) ∧ Bel w wr) (fun _ i _ => n - (intOf i).toNat)
  case atStart => exact ⟨0, Nat.zero_le _, rfl, by simp, Bel.refl _⟩
  case round =>
    obtain ⟨j, hj, rfl, rfl, HBL⟩ := hrel
    by_cases hlt : j < n
    · obtain ⟨b, off, rfl, c0, c1, c2, c3, c4, c5⟩ := (HA.out.bel HBL).atS j (by rw [mkSs_len]; exact hlt)
      rw [mkSs_get] at c0 c1 c2 c3 c4 c5
      simp only [mkS] at c0 c1 c2 c3 c4 c5
      have hK0 : 0 ≤ k + 6 * (j : Int) := by omega
      have hKb : k + 6 * (j : Int) + 6 ≤ 4611686018427387904 := by omega
      have hnx : Hd (k + 6 * ((j + 1 : Nat) : Int) = k + 6 * (j : Int) + 1 + 1 + 1 + 1 + 1 + 1) := ⟨by omega⟩
      have e2 : k + 6 * (j : Int) + 2 = k + 6 * (j : Int) + 1 + 1 := by omega
      have e3 : k + 6 * (j : Int) + 3 = k + 6 * (j : Int) + 1 + 1 + 1 := by omega
      have e4 : k + 6 * (j : Int) + 4 = k + 6 * (j : Int) + 1 + 1 + 1 + 1 := by omega
      have e5 : k + 6 * (j : Int) + 5 = k + 6 * (j : Int) + 1 + 1 + 1 + 1 + 1 := by omega
      rw [e2] at c2; rw [e3] at c3; rw [e4] at c4; rw [e5] at c5
      clear e2 e3 e4 e5
      generalize k + 6 * (j : Int) = K at *
      go_wp2
      go_roundw
      case rel => exact ⟨j + 1, by omega, by go_num, by rw [hnx.out], HBL⟩
      case measure => simp [intOf]; omega
    · have e : j = n := by omega
      subst e
      go_wp2
      go_ret
      exact ⟨rfl, HBL⟩
theorem mkTs_get' (k : Int) (ps : List (Value × Tk)) (j : Nat) (hj : j < ((mkTs k ps).map (·.2)).length) : ((mkTs k ps).map (·.2))[j] = mkT (k + (cnt (ps.take j) : Int)) (ps[j]'(by rw [List.length_map, mkTs_len] at hj; exact hj)).2 := by
  have hj' : j < ps.length := by rw [List.length_map, mkTs_len] at hj; exact hj
  have h := mkTs_get k ps j hj'
  rw [List.getElem_map]
  rw [List.getElem?_eq_getElem (by rw [mkTs_len]; exact hj')] at h
  rw [Option.some.inj h]
set_option maxHeartbeats 4000000 in
theorem heldTaskS_any (A : Option Addr) (ps : List (Value × Tk)) (n c : Nat) (k : Int) (w : World) (hn : n = ps.length) (ha : RdT w A ((mkTs k ps).map (·.2))) (h0 : 0 ≤ k) (hk : k + cnt ps ≤ 4611686018427387904) (hl : ps.length ≤ 1099511627776) (hsm : ∀ p ∈ ps, p.2.body.length ≤ 1099511627776) :
    Calls Try.prog 72 #[.slice A n c, .int .i64 k] w (Bl (.int .i64 (k + cnt ps)) w) := by
  subst hn
  have HA := Hd.mk ha
  have HS := Hd.mk hsm
  clear ha hsm
  go_enter Try.func72, Try.ntmps72
  go_wp2
  go_loopw [1, 5] (fun x i wr => ∃ j : Nat, j ≤ ps.length ∧ i = .int .i64 j ∧ x = .int .i64 (k + cnt (ps.take j)) ∧ Bel w wr) (fun _ i _ => ps.length - (intOf i).toNat)
  case atStart => exact ⟨0, Nat.zero_le _, rfl, by simp [cnt], Bel.refl _⟩
  case round =>
    obtain ⟨j, hj, rfl, rfl, HBL⟩ := hrel
    by_cases hlt : j < ps.length
    · obtain ⟨b, off, B, c', rfl, hcc, HB, c0, c1, c2, c3⟩ := (RdT.bel HA.out HBL).atT j (by rw [List.length_map, mkTs_len]; exact hlt)
      have hbz := World.block_lt_of_cell? _ _ c0
      rw [mkTs_get'] at c0 c1 c2 c3
      replace HB := HB.out
      rw [mkTs_get'] at HB
      replace HB := Hd.mk HB
      simp only [mkT] at c0 c1 c2 c3 HB
      rw [mkSs_len] at c0
      have hct := Hd.mk (cnt_take ps j hlt)
      have hcl := cnt_take_le ps (j + 1)
      rw [hct.out] at hcl
      have hsj := HS.out _ (List.getElem_mem hlt)
      have hnx : Hd (k + (cnt (ps.take (j + 1)) : Int) = k + (cnt (ps.take j) : Int) + 6 * (ps[j].2.body.length : Int) + 1 + 1 + 1) := ⟨by rw [hct.out]; push_cast; omega⟩
      have e2 : k + (cnt (ps.take j) : Int) + 6 * (ps[j].2.body.length : Int) + 2 = k + (cnt (ps.take j) : Int) + 6 * (ps[j].2.body.length : Int) + 1 + 1 := by omega
      rw [e2] at c3
      clear e2
      have hK0 : 0 ≤ k + (cnt (ps.take j) : Int) := by omega
      have hKb : k + (cnt (ps.take j) : Int) + 6 * (ps[j].2.body.length : Int) + 3 ≤ 4611686018427387904 := by omega
      generalize k + (cnt (ps.take j) : Int) = K at *
      have hb' := fun W (h : RdS W B (mkSs K ps[j].2.body.length)) => heldStmtS_any B ps[j].2.body.length c' K W h hK0 (by omega) hsj
      have hL0 : 0 ≤ K + 6 * (ps[j].2.body.length : Int) := by omega
      go_wp2_with (go_at_call 96; refine (hb' _ HB.out).mono ?_; rintro e w' ⟨rfl, hb⟩; obtain ⟨hc, hf⟩ := hb.rd; (generalize K + 6 * (ps[j].2.body.length : Int) = L at *))
      go_roundw
      case rel => exact ⟨j + 1, by omega, by go_num, by rw [hnx.out], HBL.trans hb⟩
      case measure => simp [intOf]; omega
    · have e : j = ps.length := by omega
      subst e
      go_wp2
      go_ret
      exact ⟨retI (by rw [List.take_length]), HBL⟩
set_option maxHeartbeats 1000000 in
theorem heldProgram_any (A : Option Addr) (ps : List (Value × Tk)) (n c : Nat) (k : Int) (w : World) (hn : n = ps.length) (ha : RdT w A ((mkTs k ps).map (·.2))) (h0 : 0 ≤ k) (hk : k + cnt ps ≤ 4611686018427387904) (hl : ps.length ≤ 1099511627776) (hsm : ∀ p ∈ ps, p.2.body.length ≤ 1099511627776) :
    Calls Try.prog 42 #[.agg #[.slice A n c], .int .i64 k] w (Bl (.int .i64 (k + cnt ps)) w) := by
  have HA := Hd.mk ha
  have HS := Hd.mk hsm
  replace hn := Hd.mk hn
  clear ha hsm
  have hr : 0 ≤ k + (cnt ps : Int) := by omega
  go_enter Try.func42, Try.ntmps42
  go_wp2_with (go_at_call 72; (with_reducible refine (heldTaskS_any A ps n c k _ hn.out ?_ h0 hk hl HS.out).mono ?_); (exact RdT.bel HA.out (by repeat (first | (with_reducible exact Bel.refl _) | (with_reducible assumption) | (with_reducible apply Bel.alloc) | (with_reducible apply Bel.drewN) | (with_reducible apply Bel.drew) | (with_reducible refine Bel.set ?_ (by simp <;> omega) _) | (refine Bel.trans ?_ (by with_reducible assumption))))); rintro e w' ⟨rfl, hb⟩; have hB : Bel w w' := (by repeat (first | exact Bel.refl _ | assumption | apply Bel.alloc | apply Bel.drewN | apply Bel.drew | (refine Bel.trans ?_ (by assumption)))); obtain ⟨hc0, hf0⟩ := hB.rd; obtain ⟨hc, hf⟩ := hb.rd; have hz := hb.size; (try simp at hz); (first | (have hz0 : w.heap.size < w'.heap.size := by omega) | skip); (first | (have hz1 : w.heap.size + 1 < w'.heap.size := by omega) | skip))
  all_goals (go_ret; exact ⟨rfl, (by repeat (first | (with_reducible exact Bel.refl _) | (with_reducible assumption) | (with_reducible apply Bel.alloc) | (with_reducible apply Bel.drewN) | (with_reducible apply Bel.drew) | (with_reducible refine Bel.set ?_ (by simp <;> omega) _) | (refine Bel.trans ?_ (by with_reducible assumption))))⟩)
set_option maxHeartbeats 1000000 in
theorem heldGateway_any (A : Option Addr) (n c : Nat) (k : Int) (w : World) (ha : RdI w A (upto k n)) (h0 : 0 ≤ k) (hk : k + n ≤ 4611686018427387904) (hl : n ≤ 17592186044416) :
    Calls Try.prog 73 #[.agg #[.slice A n c], .int .i64 k] w (Bl (.int .i64 (k + n)) w) := by
  have HA := Hd.mk ha
  clear ha
  have hr : 0 ≤ k + (n : Int) := by omega
  go_enter Try.func73, Try.ntmps73
  go_wp2_with (go_at_call 22; (with_reducible refine (heldIntS_any A n c k _ ?_ h0 hk hl).mono ?_); (exact HA.out.bel (by repeat (first | (with_reducible exact Bel.refl _) | (with_reducible assumption) | (with_reducible apply Bel.alloc) | (with_reducible apply Bel.drewN) | (with_reducible apply Bel.drew) | (with_reducible refine Bel.set ?_ (by simp <;> omega) _) | (refine Bel.trans ?_ (by with_reducible assumption))))); rintro e w' ⟨rfl, hb⟩; have hB : Bel w w' := (by repeat (first | exact Bel.refl _ | assumption | apply Bel.alloc | apply Bel.drewN | apply Bel.drew | (refine Bel.trans ?_ (by assumption)))); obtain ⟨hc0, hf0⟩ := hB.rd; obtain ⟨hc, hf⟩ := hb.rd; have hz := hb.size; (try simp at hz); (first | (have hz0 : w.heap.size < w'.heap.size := by omega) | skip); (first | (have hz1 : w.heap.size + 1 < w'.heap.size := by omega) | skip))
  all_goals (go_ret; exact ⟨rfl, (by repeat (first | (with_reducible exact Bel.refl _) | (with_reducible assumption) | (with_reducible apply Bel.alloc) | (with_reducible apply Bel.drewN) | (with_reducible apply Bel.drew) | (with_reducible refine Bel.set ?_ (by simp <;> omega) _) | (refine Bel.trans ?_ (by with_reducible assumption))))⟩)
set_option maxHeartbeats 1000000 in
theorem heldLink_any (x : Int) (A : Option Addr) (n c : Nat) (k : Int) (w : World) (ha : RdI w A (upto k n)) (h0 : 0 ≤ k) (hk : k + n ≤ 4611686018427387904) (hl : n ≤ 17592186044416) :
    Calls Try.prog 43 #[.agg #[.int .i64 x, .slice A n c], .int .i64 k] w (Bl (.int .i64 (k + n)) w) := by
  have HA := Hd.mk ha
  clear ha
  have hr : 0 ≤ k + (n : Int) := by omega
  go_enter Try.func43, Try.ntmps43
  go_wp2_with (go_at_call 73; (with_reducible refine (heldGateway_any A n c k _ ?_ h0 hk hl).mono ?_); (exact HA.out.bel (by repeat (first | (with_reducible exact Bel.refl _) | (with_reducible assumption) | (with_reducible apply Bel.alloc) | (with_reducible apply Bel.drewN) | (with_reducible apply Bel.drew) | (with_reducible refine Bel.set ?_ (by simp <;> omega) _) | (refine Bel.trans ?_ (by with_reducible assumption))))); rintro e w' ⟨rfl, hb⟩; have hB : Bel w w' := (by repeat (first | exact Bel.refl _ | assumption | apply Bel.alloc | apply Bel.drewN | apply Bel.drew | (refine Bel.trans ?_ (by assumption)))); obtain ⟨hc0, hf0⟩ := hB.rd; obtain ⟨hc, hf⟩ := hb.rd; have hz := hb.size; (try simp at hz); (first | (have hz0 : w.heap.size < w'.heap.size := by omega) | skip); (first | (have hz1 : w.heap.size + 1 < w'.heap.size := by omega) | skip))
  all_goals (go_ret; exact ⟨rfl, (by repeat (first | (with_reducible exact Bel.refl _) | (with_reducible assumption) | (with_reducible apply Bel.alloc) | (with_reducible apply Bel.drewN) | (with_reducible apply Bel.drew) | (with_reducible refine Bel.set ?_ (by simp <;> omega) _) | (refine Bel.trans ?_ (by with_reducible assumption))))⟩)
set_option maxHeartbeats 4000000 in
theorem heldNode_any (a : NA) (ps : List (Value × Tk)) (n : Nd) (k : Int) (w : World) (hn : n.ts.length = ps.length) (ht : RdT w a.tA ((mkTs k ps).map (·.2))) (hm : RdI w a.mA (upto (k + cnt ps) n.mem.length)) (hr : RdI w a.rA (upto (k + cnt ps + n.mem.length) n.rd.length)) (hg : RdI w a.gA (upto (k + cnt ps + n.mem.length + n.rd.length) n.got.length))
    (h0 : 0 ≤ k) (hk : k + cntN ps n ≤ 4611686018427387904) (hl : ps.length ≤ 1099511627776) (hsm : ∀ p ∈ ps, p.2.body.length ≤ 1099511627776) (lm : n.mem.length ≤ 17592186044416) (lr : n.rd.length ≤ 17592186044416) (lg : n.got.length ≤ 17592186044416) :
    Calls Try.prog 17 #[.agg #[.slice a.tA n.ts.length a.tc, .slice a.mA n.mem.length a.mc, .slice a.rA n.rd.length a.rc, .int .i64 n.at', .int .i64 n.sr.chg, .int .i64 n.sr.cap, .int .i64 n.sr.on, .int .i64 n.sr.leak, .int .i64 n.lo, .int .i64 n.hi, .int .i64 n.ack, .slice a.gA n.got.length a.gc, .int .i64 n.done], .int .i64 k] w (Bl (.int .i64 (k + cntN ps n)) w) := by
  have HT := Hd.mk ht
  have HM := Hd.mk hm
  have HR := Hd.mk hr
  have HG := Hd.mk hg
  have HS := Hd.mk hsm
  replace hn := Hd.mk hn
  clear ht hm hr hg hsm
  unfold cntN at hk
  have hk1 : k + (cnt ps : Int) ≤ 4611686018427387904 := by omega
  have hk2 : 0 ≤ k + (cnt ps : Int) := by omega
  have hk3 : k + (cnt ps : Int) + n.mem.length ≤ 4611686018427387904 := by omega
  have hk4 : 0 ≤ k + (cnt ps : Int) + n.mem.length := by omega
  have hk5 : k + (cnt ps : Int) + n.mem.length + n.rd.length ≤ 4611686018427387904 := by omega
  have hk6 : 0 ≤ k + (cnt ps : Int) + n.mem.length + n.rd.length := by omega
  have hk7 : k + (cnt ps : Int) + n.mem.length + n.rd.length + n.got.length ≤ 4611686018427387904 := by omega
  have hk8 : 0 ≤ k + (cnt ps : Int) + n.mem.length + n.rd.length + n.got.length := by omega
  clear hk
  go_enter Try.func17, Try.ntmps17
  go_wp2_with (first
    | (go_at_call 42; (with_reducible refine (heldProgram_any a.tA ps n.ts.length a.tc k _ hn.out ?_ h0 hk1 hl HS.out).mono ?_); (exact RdT.bel HT.out (by repeat (first | (with_reducible exact Bel.refl _) | (with_reducible assumption) | (with_reducible apply Bel.alloc) | (with_reducible apply Bel.drewN) | (with_reducible apply Bel.drew) | (with_reducible refine Bel.set ?_ (by simp <;> omega) _) | (refine Bel.trans ?_ (by with_reducible assumption))))); rintro e w' ⟨rfl, hb⟩; have hB : Bel w w' := (by repeat (first | exact Bel.refl _ | assumption | apply Bel.alloc | apply Bel.drewN | apply Bel.drew | (refine Bel.trans ?_ (by assumption)))); obtain ⟨hc0, hf0⟩ := hB.rd; obtain ⟨hc, hf⟩ := hb.rd; have hz := hb.size; (try simp at hz); (first | (have hz0 : w.heap.size < w'.heap.size := by omega) | skip); (first | (have hz1 : w.heap.size + 1 < w'.heap.size := by omega) | skip))
    | (go_at_call 22; (with_reducible refine (heldIntS_any a.mA n.mem.length a.mc (k + cnt ps) _ ?_ hk2 hk3 lm).mono ?_); (exact HM.out.bel (by repeat (first | (with_reducible exact Bel.refl _) | (with_reducible assumption) | (with_reducible apply Bel.alloc) | (with_reducible apply Bel.drewN) | (with_reducible apply Bel.drew) | (with_reducible refine Bel.set ?_ (by simp <;> omega) _) | (refine Bel.trans ?_ (by with_reducible assumption))))); rintro e w' ⟨rfl, hb⟩; have hB : Bel w w' := (by repeat (first | exact Bel.refl _ | assumption | apply Bel.alloc | apply Bel.drewN | apply Bel.drew | (refine Bel.trans ?_ (by assumption)))); obtain ⟨hc0, hf0⟩ := hB.rd; obtain ⟨hc, hf⟩ := hb.rd; have hz := hb.size; (try simp at hz); (first | (have hz0 : w.heap.size < w'.heap.size := by omega) | skip); (first | (have hz1 : w.heap.size + 1 < w'.heap.size := by omega) | skip))
    | (go_at_call 22; (with_reducible refine (heldIntS_any a.rA n.rd.length a.rc (k + cnt ps + n.mem.length) _ ?_ hk4 hk5 lr).mono ?_); (exact HR.out.bel (by repeat (first | (with_reducible exact Bel.refl _) | (with_reducible assumption) | (with_reducible apply Bel.alloc) | (with_reducible apply Bel.drewN) | (with_reducible apply Bel.drew) | (with_reducible refine Bel.set ?_ (by simp <;> omega) _) | (refine Bel.trans ?_ (by with_reducible assumption))))); rintro e w' ⟨rfl, hb⟩; have hB : Bel w w' := (by repeat (first | exact Bel.refl _ | assumption | apply Bel.alloc | apply Bel.drewN | apply Bel.drew | (refine Bel.trans ?_ (by assumption)))); obtain ⟨hc0, hf0⟩ := hB.rd; obtain ⟨hc, hf⟩ := hb.rd; have hz := hb.size; (try simp at hz); (first | (have hz0 : w.heap.size < w'.heap.size := by omega) | skip); (first | (have hz1 : w.heap.size + 1 < w'.heap.size := by omega) | skip))
    | (go_at_call 43; (with_reducible refine (heldLink_any n.ack a.gA n.got.length a.gc (k + cnt ps + n.mem.length + n.rd.length) _ ?_ hk6 hk7 lg).mono ?_); (exact HG.out.bel (by repeat (first | (with_reducible exact Bel.refl _) | (with_reducible assumption) | (with_reducible apply Bel.alloc) | (with_reducible apply Bel.drewN) | (with_reducible apply Bel.drew) | (with_reducible refine Bel.set ?_ (by simp <;> omega) _) | (refine Bel.trans ?_ (by with_reducible assumption))))); rintro e w' ⟨rfl, hb⟩; have hB : Bel w w' := (by repeat (first | exact Bel.refl _ | assumption | apply Bel.alloc | apply Bel.drewN | apply Bel.drew | (refine Bel.trans ?_ (by assumption)))); obtain ⟨hc0, hf0⟩ := hB.rd; obtain ⟨hc, hf⟩ := hb.rd; have hz := hb.size; (try simp at hz); (first | (have hz0 : w.heap.size < w'.heap.size := by omega) | skip); (first | (have hz1 : w.heap.size + 1 < w'.heap.size := by omega) | skip)))
  all_goals (go_ret; refine ⟨retI (by unfold cntN; push_cast; omega), (by repeat (first | (with_reducible exact Bel.refl _) | (with_reducible assumption) | (with_reducible apply Bel.alloc) | (with_reducible apply Bel.drewN) | (with_reducible apply Bel.drew) | (with_reducible refine Bel.set ?_ (by simp <;> omega) _) | (refine Bel.trans ?_ (by with_reducible assumption))))⟩)
end Go.Proofs.Ytgodbldchaonpaa

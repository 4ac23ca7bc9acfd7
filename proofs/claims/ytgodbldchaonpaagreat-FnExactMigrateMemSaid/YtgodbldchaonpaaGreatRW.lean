/- What program and reference write when a memory is mended. No condition. -/
import Derived.Test.YtgodbldchaonpaaGreatEV
namespace Go.Proofs.YtgodbldchaonpaaGreat
open Go.RowKit
set_option linter.unusedVariables false
set_option linter.unusedSimpArgs false
set_option maxRecDepth 100000
def encW (p : Int × Int) : List Value := [.int .i64 p.1, .int .i64 p.2]
theorem encW_ok : EncOk encW 2 := ⟨fun _ => rfl, fun x u h => by simp [encW] at h; rcases h with rfl | rfl <;> rfl⟩
abbrev RdW := RdF encW 2
theorem infoW : (Tryz.prog.info? 144).map (fun i => (i.zero, i.size, i.bytes)) = some (some (.agg #[.int .i64 0, .int .i64 0]), 2, 16) := by kernel_rfl
/-- A row of one element, just laid. -/
theorem rd_lit1 {α : Type} {enc : α → List Value} {sz : Nat} (he : EncOk enc sz) (w : World) (t : TypeId) (x : α) (cs : Array Value) (hcs : cs.toList = enc x) : RdF enc sz (w.alloc (.cells cs t)) (some ⟨w.heap.size, 0, none⟩) [x] := by
  refine ⟨by simp, fun j hj => ⟨w.heap.size, 0, enc x, rfl, he.len x, ?_, fun i hi => ?_⟩⟩
  · have : j = 0 := by simpa using hj
    subst this; rfl
  · have : j = 0 := by simpa using hj
    subst this
    refine box_cell _ _ _ _ _ ?_
    rw [Nat.zero_mul, Nat.zero_add, Nat.zero_add, ← Array.getElem?_toList, hcs]
    exact List.getElem?_eq_getElem hi
def wrAt (m : List Int) (i : Nat) : Int × Int := (at_ m (9 + 2 * i), at_ m (9 + 2 * i + 1))
def wrs (m : List Int) (j k : Nat) : List (Int × Int) := ((List.range' j (k - j)).reverse.map (wrAt m))
theorem wrs_top (m : List Int) (k : Nat) : wrs m k k = [] := by unfold wrs; simp
theorem wrs_succ (m : List Int) {j k : Nat} (h : j < k) : wrs m j k = wrs m (j + 1) k ++ [wrAt m j] := by
  unfold wrs
  have e : k - j = (k - (j + 1)) + 1 := by omega
  rw [e, List.range'_succ, List.reverse_cons, List.map_append]
  rfl
theorem wrs_len (m : List Int) (j k : Nat) : (wrs m j k).length = k - j := by unfold wrs; simp
def recW (m : List Int) (t : Int) (k : Nat) (n : Int) : List (Int × Int) := if k = 0 then [] else wrs m 0 k ++ [(8, pack t 0 n)]
theorem log_at {m : List Int} {k i : Nat} (h : logOk m k = true) (hi : i < k) : inB (at_ m (9 + 2 * i)) 0 7 = true ∧ vOk (at_ m (9 + 2 * i + 1)) = true := by
  unfold logOk at h
  have := List.all_eq_true.1 h i (List.mem_range.2 hi)
  simpa only [Bool.and_eq_true] using this
set_option maxHeartbeats 2000000 in
theorem RecoveryWrites_any (A : Option Addr) (m : List Int) (c k : Nat) (t n : Int) (w : World) (ha : RdI w A m) (hl : m.length = 49) (hu : unpack (at_ m 8) = (t, (k : Int), n)) (hk : k ≤ 8) (hlog : logOk m k = true) :
    Calls Tryz.prog 87 #[.slice A m.length c] w (Mk encW 144 2 (recW m t k n) w) := by
  obtain ⟨b, off, rfl, c8⟩ := ha.atD 8 (by omega)
  have HA := Hd.mk ha
  have HL := Hd.mk hl
  have HLOG := Hd.mk hlog
  have hU := UnpackControl_any (at_ m 8)
  rw [hu] at hU
  rw [hl]
  clear ha hl hu hlog
  rcases Nat.eq_zero_or_pos k with rfl | hk0
  · go_enter Tryz.func87, Tryz.ntmps87
    go_wp2_with (go_at_call 45; refine (hU _).mono ?_; rintro e w' ⟨rfl, rfl⟩)
    go_ret
    exact ⟨_, rfl, own_nil _ _ _ _, Bel.refl _⟩
  · have hrec : recW m t k n = wrs m 0 k ++ [(8, pack t 0 n)] := by unfold recW; rw [if_neg (by omega)]
    rw [hrec]
    clear hrec
    have HP := PackControl_any t 0 n
    go_enter Tryz.func87, Tryz.ntmps87
    go_wp2_with (go_at_call 45; refine (hU _).mono ?_; rintro e w' ⟨rfl, rfl⟩)
    go_loopw [6, 7] (fun v i wr => ∃ j : Nat, j ≤ k ∧ i = .int .i64 ((j : Int) - 1) ∧ wr.ownsRow w.heap.size 144 2 v (wrs m j k).length ((wrs m j k).flatMap encW) ∧ Bel w wr) (fun _ i _ => (intOf i + 1).toNat)
    case atStart => exact ⟨k, Nat.le_refl _, by go_num, by rw [wrs_top]; exact own_lit0 _ _ _ _ (Nat.le_refl _), (by repeat (first | (with_reducible exact Bel.refl _) | (with_reducible assumption) | (with_reducible apply Bel.alloc) | (with_reducible apply Bel.drewN) | (with_reducible apply Bel.drew) | (with_reducible refine Bel.set ?_ (by simp <;> omega) _) | (refine Bel.trans ?_ (by with_reducible assumption))))⟩
    case round =>
      obtain ⟨j, hj, rfl, hown, HBL⟩ := hrel
      replace hown := Hd.mk hown
      have hlw := wrs_len m j k
      rcases Nat.eq_zero_or_pos j with rfl | hj0
      · have hlw0 := hlw
        go_wp2_with (first
          | (go_at_call 46; refine (HP _).mono ?_; rintro e w' ⟨rfl, rfl⟩)
          | (at_builtin; refine app_row' encW 2 encW_ok (by decide) w.heap.size rfl _ _ 115 144 (.agg #[.int .i64 0, .int .i64 0]) 16 rfl Tryz.underlying115 infoW rfl (by decide) _ (wrs m 0 k) [(8, pack t 0 n)] 1 rfl _ 1 rfl rfl (own_bel hown.out ((Bel.refl _).alloc _)) (rd_lit1 encW_ok _ _ _ _ rfl) (by have := HBL.size; simp; omega) (by rw [hlw]; omega) ?_; intro v1 w1 hown1 hg1 hat1; replace hown1 := Hd.mk hown1; replace hg1 := Hd.mk hg1; clear hat1))
        go_ret
        exact ⟨_, rfl, hown1.out, Bel.of_grown (HBL.trans ((Bel.refl _).alloc _)) hg1.out (fun k hk => (hown.out.lt k hk).1)⟩
      · obtain ⟨i, rfl⟩ : ∃ i, j = i + 1 := ⟨j - 1, by omega⟩
        have f1 := (HA.out.bel HBL).atE (9 + 2 * i) (by have := HL.out; omega)
        have f2 := (HA.out.bel HBL).atE (9 + 2 * i + 1) (by have := HL.out; omega)
        have hin := isVar_any (at_ m (9 + 2 * i))
        rw [(log_at HLOG.out (by omega : i < k)).1] at hin
        go_wp2_with (first
          | (go_at_call 82; refine (hin _).mono ?_; rintro e w' ⟨rfl, rfl⟩)
          | (at_builtin; refine app_row' encW 2 encW_ok (by decide) w.heap.size rfl _ _ 115 144 (.agg #[.int .i64 0, .int .i64 0]) 16 rfl Tryz.underlying115 infoW rfl (by decide) _ (wrs m (i + 1) k) [wrAt m i] 1 rfl _ 1 rfl rfl (own_bel hown.out ((Bel.refl _).alloc _)) (rd_lit1 encW_ok _ _ _ _ rfl) (by have := HBL.size; simp; omega) (by rw [hlw]; omega) ?_; intro v1 w1 hown1 hg1 hat1; replace hown1 := Hd.mk hown1; replace hg1 := Hd.mk hg1; clear hat1))
        go_roundw
        case rel => exact ⟨i, by omega, by go_num, by rw [wrs_succ m (by omega : i < k)]; exact hown1.out, Bel.of_grown (HBL.trans ((Bel.refl _).alloc _)) hg1.out (fun k hk => (hown.out.lt k hk).1)⟩
        case measure => simp [intOf]
set_option maxHeartbeats 2000000 in
theorem sRecoveryWrites_any (A : Option Addr) (m : List Int) (c k : Nat) (t n : Int) (w : World) (ha : RdI w A m) (hl : m.length = 49) (hu : unpack (at_ m 8) = (t, (k : Int), n)) (hk : k ≤ 8) (hlog : logOk m k = true) :
    Calls Tryz.prog 74 #[.slice A m.length c] w (Mk encW 144 2 (recW m t k n) w) := by
  obtain ⟨b, off, rfl, c8⟩ := ha.atD 8 (by omega)
  have hbz : b < w.heap.size := World.block_lt_of_cell? _ _ c8
  have HA := Hd.mk ha
  have HL := Hd.mk hl
  have HLOG := Hd.mk hlog
  have hU := sUnpackControl_any (at_ m 8)
  rw [hu] at hU
  rw [hl]
  clear ha hl hu hlog
  have HP := sPackControl_any t 0 n
  go_enter Tryz.func74, Tryz.ntmps74
  go_wp2_with (go_at_call 36; refine (hU _).mono ?_; rintro e w' ⟨rfl, rfl⟩)
  go_loopw [3, 7] (fun v i wr => ∃ j : Nat, j ≤ k ∧ i = .int .i64 ((j : Int) - 1) ∧ wr.ownsRow w.heap.size 144 2 v (wrs m j k).length ((wrs m j k).flatMap encW) ∧ Bel w wr) (fun _ i _ => (intOf i + 1).toNat)
  case atStart => exact ⟨k, Nat.le_refl _, by go_num, by rw [wrs_top]; exact own_lit0 _ _ _ _ (Nat.le_refl _), (by repeat (first | (with_reducible exact Bel.refl _) | (with_reducible assumption) | (with_reducible apply Bel.alloc) | (with_reducible apply Bel.drewN) | (with_reducible apply Bel.drew) | (with_reducible refine Bel.set ?_ (by simp <;> omega) _) | (refine Bel.trans ?_ (by with_reducible assumption))))⟩
  case round =>
    obtain ⟨j, hj, rfl, hown, HBL⟩ := hrel
    replace hown := Hd.mk hown
    have hlw := wrs_len m j k
    rcases Nat.eq_zero_or_pos j with rfl | hj0
    · rcases Nat.eq_zero_or_pos k with rfl | hk0
      · go_wp2
        go_ret
        exact ⟨_, rfl, by simpa [recW, wrs_top] using hown.out, HBL⟩
      · have hrec : recW m t k n = wrs m 0 k ++ [(8, pack t 0 n)] := by unfold recW; rw [if_neg (by omega)]
        replace hrec := Hd.mk hrec
        go_wp2_with (first
          | (go_at_call 37; refine (HP _).mono ?_; rintro e w' ⟨rfl, rfl⟩)
          | (at_builtin; refine app_row' encW 2 encW_ok (by decide) w.heap.size rfl _ _ 115 144 (.agg #[.int .i64 0, .int .i64 0]) 16 rfl Tryz.underlying115 infoW rfl (by decide) _ (wrs m 0 k) [(8, pack t 0 n)] 1 rfl _ 1 rfl rfl (own_bel hown.out ((Bel.refl _).alloc _)) (rd_lit1 encW_ok _ _ _ _ rfl) (by have := HBL.size; simp; omega) (by rw [hlw]; omega) ?_; intro v1 w1 hown1 hg1 hat1; replace hown1 := Hd.mk hown1; replace hg1 := Hd.mk hg1; clear hat1))
        go_ret
        exact ⟨_, rfl, by rw [hrec.out]; exact hown1.out, Bel.of_grown (HBL.trans ((Bel.refl _).alloc _)) hg1.out (fun k hk => (hown.out.lt k hk).1)⟩
    · obtain ⟨i, rfl⟩ : ∃ i, j = i + 1 := ⟨j - 1, by omega⟩
      have f1 := (HA.out.bel HBL).atE (9 + 2 * i) (by have := HL.out; omega)
      have f2 := (HA.out.bel HBL).atE (9 + 2 * i + 1) (by have := HL.out; omega)
      have hin := l01In_any (at_ m (9 + 2 * i)) 0 7
      rw [(log_at HLOG.out (by omega : i < k)).1] at hin
      go_wp2_with (first
        | (go_at_call 71; refine (hin _).mono ?_; rintro e w' ⟨rfl, rfl⟩)
        | (at_builtin; refine app_row' encW 2 encW_ok (by decide) w.heap.size rfl _ _ 115 144 (.agg #[.int .i64 0, .int .i64 0]) 16 rfl Tryz.underlying115 infoW rfl (by decide) _ (wrs m (i + 1) k) [wrAt m i] 1 rfl _ 1 rfl rfl (own_bel hown.out ((Bel.refl _).alloc _)) (rd_lit1 encW_ok _ _ _ _ rfl) (by have := HBL.size; simp; omega) (by rw [hlw]; omega) ?_; intro v1 w1 hown1 hg1 hat1; replace hown1 := Hd.mk hown1; replace hg1 := Hd.mk hg1; clear hat1))
      go_roundw
      case rel => exact ⟨i, by omega, by go_num, by rw [wrs_succ m (by omega : i < k)]; exact hown1.out, Bel.of_grown (HBL.trans ((Bel.refl _).alloc _)) hg1.out (fun k hk => (hown.out.lt k hk).1)⟩
      case measure => simp [intOf]
def applyStep (m : List Int) (p : Int × Int) : List Int := if inB p.1 0 ((m.length : Int) - 1) = true then m.set p.1.toNat p.2 else m
def applyW (m : List Int) (ws : List (Int × Int)) : List Int := ws.foldl applyStep m
theorem applyStep_len (m : List Int) (p : Int × Int) : (applyStep m p).length = m.length := by unfold applyStep; split <;> simp
theorem applyW_len (m : List Int) (ws : List (Int × Int)) : (applyW m ws).length = m.length := by
  unfold applyW
  induction ws generalizing m with
  | nil => rfl
  | cons p r ih => rw [List.foldl_cons, ih, applyStep_len]
theorem applyW_succ (m : List Int) (ws : List (Int × Int)) {k : Nat} (hk : k < ws.length) : applyW m (ws.take (k + 1)) = applyStep (applyW m (ws.take k)) ws[k] := by
  unfold applyW; rw [List.take_succ_eq_append_getElem hk, List.foldl_append]; rfl
theorem flat_setI (xs : List Int) (j : Nat) (u : Int) : (xs.flatMap encI).set j (.int .i64 u) = (xs.set j u).flatMap encI := by
  induction xs generalizing j with
  | nil => rfl
  | cons x r ih =>
    cases j with
    | zero => rfl
    | succ j => simp only [List.flatMap_cons, List.set_cons_succ, ← ih]; rfl
theorem RdF.atW {w : World} {A : Option Addr} {xs : List (Int × Int)} (h : RdW w A xs) (j : Nat) (hj : j < xs.length) :
    ∃ b off, A = some ⟨b, off, none⟩ ∧ w.cell? ⟨b, off + j * 2, none⟩ = some (.int .i64 xs[j].1) ∧ w.cell? ⟨b, off + j * 2 + 1, none⟩ = some (.int .i64 xs[j].2) := by
  obtain ⟨b, off, cs, hA, hl, hr, hc⟩ := h.2 j hj
  subst hr
  exact ⟨b, off, hA, hc 0 (by simp [encW]), hc 1 (by simp [encW])⟩
theorem clamp_all (n : Nat) : clampI n 0 n = n := by unfold clampI minI maxI; grind
set_option maxHeartbeats 2000000 in
theorem ApplyWrites_any (A B : Option Addr) (m : List Int) (ws : List (Int × Int)) (c d : Nat) (w : World) (ha : RdI w A m) (hb : RdW w B ws) (hl : m.length = 49) (hd : ws.length ≤ d) :
    Calls Tryz.prog 88 #[.slice A m.length c, .slice B ws.length d, .int .i64 ws.length] w (Mk encI 3 1 (applyW m ws) w) := by
  have hlw := RdF.len hb
  have HA := Hd.mk ha
  have HB := Hd.mk hb
  have HL := Hd.mk hl
  clear ha hb hl
  have hcl := Clamp_any (ws.length : Int) 0 (ws.length : Int)
  rw [clamp_all] at hcl
  go_enter Tryz.func88, Tryz.ntmps88
  go_wp2_with (first
    | (go_at_call 91; refine (CloneI_any A m c _ HA.out).mono ?_; rintro e w1 ⟨v, rfl, hown, hb1⟩; obtain ⟨mA, mc, rfl, hmc⟩ := own_shape hown; replace hown := Hd.mk hown)
    | (go_at_call 132; refine (hcl _).mono ?_; rintro e w' ⟨rfl, rfl⟩))
  have hm1 : m.length ≤ 49 := by rw [HL.out]; decide
  have hm0 : 1 ≤ m.length := by rw [HL.out]; decide
  go_loopw [19] (fun i wr => ∃ k : Nat, k ≤ ws.length ∧ i = .int .i64 k ∧ Bel w wr ∧ Hd (wr.ownsRow w.heap.size 3 1 (.slice mA m.length mc) m.length ((applyW m (ws.take k)).flatMap encI))) (fun i _ => ws.length - (intOf i).toNat)
  case atStart => exact ⟨0, Nat.zero_le _, rfl, hb1, ⟨hown.out⟩⟩
  case round =>
    obtain ⟨k, hk, rfl, HBL, HO⟩ := hrel
    by_cases hlt : k < ws.length
    · obtain ⟨b, off, rfl, c0, c1⟩ := (HB.out.bel HBL).atW k hlt
      have hbz : b < wr.heap.size := World.block_lt_of_cell? _ _ c0
      have hwi := within_any ws[k].1 0 ((m.length : Int) - 1)
      have hsu := applyW_succ m ws hlt
      cases hin : inB ws[k].1 0 ((m.length : Int) - 1) with
      | true =>
        obtain ⟨i, hi⟩ : ∃ i : Nat, ws[k].1 = i := Int.eq_ofNat_of_zero_le (of_decide_eq_true hin).1
        have hi2 : i < m.length := by have := (of_decide_eq_true hin).2; omega
        have hst : applyW m (ws.take (k + 1)) = (applyW m (ws.take k)).set i ws[k].2 := by rw [hsu]; unfold applyStep; rw [applyW_len, if_pos hin, hi]; rfl
        rw [hin, hi] at hwi
        rw [hi] at c0
        replace hst := Hd.mk hst
        clear hsu hin hi
        obtain ⟨g, rfl⟩ := own_some HO.out (by omega)
        have hg := (HO.out.lt g rfl).1
        have hg2 := (HO.out.lt g rfl).2
        obtain ⟨u0, hcell⟩ := own_cells HO.out i (by omega)
        have hfz := HO.out.frozenAt i
        go_wp2_with (go_at_call 92; refine (hwi _).mono ?_; rintro e w' ⟨rfl, rfl⟩)
        go_roundw
        case rel =>
          refine ⟨k + 1, by omega, by go_num, ?_, ⟨?_⟩⟩
          · repeat (first | (with_reducible exact Bel.refl _) | (with_reducible assumption) | (with_reducible apply Bel.alloc) | (with_reducible apply Bel.drewN) | (with_reducible apply Bel.drew) | (with_reducible refine Bel.set ?_ (by simp <;> omega) _) | (refine Bel.trans ?_ (by with_reducible assumption)))
          · rw [hst.out, ← flat_setI]; exact World.ownsRow.alloc (World.ownsRow.stored HO.out i _).1 _
        case measure => simp [intOf]; omega
      | false =>
        have hst : applyW m (ws.take (k + 1)) = applyW m (ws.take k) := by rw [hsu]; unfold applyStep; rw [applyW_len, hin]; rfl
        rw [hin] at hwi
        replace hst := Hd.mk hst
        clear hsu hin
        go_wp2_with (go_at_call 92; refine (hwi _).mono ?_; rintro e w' ⟨rfl, rfl⟩)
        go_roundw
        case rel => exact ⟨k + 1, by omega, by go_num, (by repeat (first | (with_reducible exact Bel.refl _) | (with_reducible assumption) | (with_reducible apply Bel.alloc) | (with_reducible apply Bel.drewN) | (with_reducible apply Bel.drew) | (with_reducible refine Bel.set ?_ (by simp <;> omega) _) | (refine Bel.trans ?_ (by with_reducible assumption)))), ⟨by rw [hst.out]; exact World.ownsRow.alloc HO.out _⟩⟩
        case measure => simp [intOf]; omega
    · have e := Hd.mk (List.take_of_length_le (show ws.length ≤ k by omega))
      go_wp2
      go_ret
      refine ⟨_, rfl, ?_, HBL⟩
      have := HO.out
      rw [e.out] at this
      rwa [applyW_len]
set_option maxHeartbeats 2000000 in
theorem sApplyWrites_any (A B : Option Addr) (m : List Int) (ws : List (Int × Int)) (c d : Nat) (w : World) (ha : RdI w A m) (hb : RdW w B ws) (hl : m.length = 49) (hd : ws.length ≤ d) :
    Calls Tryz.prog 75 #[.slice A m.length c, .slice B ws.length d, .int .i64 ws.length] w (Mk encI 3 1 (applyW m ws) w) := by
  have hlw := RdF.len hb
  have HA := Hd.mk ha
  have HB := Hd.mk hb
  have HL := Hd.mk hl
  clear ha hb hl
  have hm1 : m.length ≤ 49 := by rw [HL.out]; decide
  have hm0 : 1 ≤ m.length := by rw [HL.out]; decide
  go_enter Tryz.func75, Tryz.ntmps75
  go_wp2_with (at_builtin; refine app_row encI 1 encI_ok (by decide) w.heap.size rfl _ _ 25 3 (.int .i64 0) 8 rfl Tryz.underlying25 infoI rfl (by decide) _ [] m _ _ rfl rfl (own_lit0 w w.heap.size _ _ (Nat.le_refl _)) (HA.out.bel ((Bel.refl _).alloc _)) (by simp) (by simp only [List.length_nil]; omega) ?_; intro v1 w1 hown1 hg1 hat1; simp only [List.nil_append] at hown1; obtain ⟨mA, mc, rfl, hmc⟩ := own_shape hown1; replace hown1 := Hd.mk hown1; have hb1 : Bel w w1 := Bel.of_grown ((Bel.refl w).alloc _) hg1 (by intro k hk; cases hk; exact Nat.le_refl _); clear hg1 hat1)
  go_loopw [8] (fun i wr => ∃ k : Nat, k ≤ ws.length ∧ i = .int .i64 k ∧ Bel w wr ∧ Hd (wr.ownsRow w.heap.size 3 1 (.slice mA m.length mc) m.length ((applyW m (ws.take k)).flatMap encI))) (fun i _ => ws.length - (intOf i).toNat)
  case atStart => exact ⟨0, Nat.zero_le _, rfl, hb1, ⟨hown1.out⟩⟩
  case round =>
    obtain ⟨k, hk, rfl, HBL, HO⟩ := hrel
    by_cases hlt : k < ws.length
    · obtain ⟨b, off, rfl, c0, c1⟩ := (HB.out.bel HBL).atW k hlt
      have hbz : b < wr.heap.size := World.block_lt_of_cell? _ _ c0
      have hwi := l01In_any ws[k].1 0 ((m.length : Int) - 1)
      have hsu := applyW_succ m ws hlt
      cases hin : inB ws[k].1 0 ((m.length : Int) - 1) with
      | true =>
        obtain ⟨i, hi⟩ : ∃ i : Nat, ws[k].1 = i := Int.eq_ofNat_of_zero_le (of_decide_eq_true hin).1
        have hi2 : i < m.length := by have := (of_decide_eq_true hin).2; omega
        have hst : applyW m (ws.take (k + 1)) = (applyW m (ws.take k)).set i ws[k].2 := by rw [hsu]; unfold applyStep; rw [applyW_len, if_pos hin, hi]; rfl
        rw [hin, hi] at hwi
        rw [hi] at c0
        replace hst := Hd.mk hst
        clear hsu hin hi
        obtain ⟨g, rfl⟩ := own_some HO.out (by omega)
        have hg := (HO.out.lt g rfl).1
        have hg2 := (HO.out.lt g rfl).2
        obtain ⟨u0, hcell⟩ := own_cells HO.out i (by omega)
        have hfz := HO.out.frozenAt i
        go_wp2_with (go_at_call 71; refine (hwi _).mono ?_; rintro e w' ⟨rfl, rfl⟩)
        go_still_tail 12, (by kernel_rfl)
        go_wp2
        go_roundw
        case rel =>
          refine ⟨k + 1, by omega, by go_num, ?_, ⟨?_⟩⟩
          · repeat (first | (with_reducible exact Bel.refl _) | (with_reducible assumption) | (with_reducible apply Bel.alloc) | (with_reducible apply Bel.drewN) | (with_reducible apply Bel.drew) | (with_reducible refine Bel.set ?_ (by simp <;> omega) _) | (refine Bel.trans ?_ (by with_reducible assumption)))
          · rw [hst.out, ← flat_setI]; exact (World.ownsRow.stored HO.out i _).1
        case measure => simp [intOf]; omega
      | false =>
        have hst : applyW m (ws.take (k + 1)) = applyW m (ws.take k) := by rw [hsu]; unfold applyStep; rw [applyW_len, hin]; rfl
        rw [hin] at hwi
        replace hst := Hd.mk hst
        clear hsu hin
        go_wp2_with (go_at_call 71; refine (hwi _).mono ?_; rintro e w' ⟨rfl, rfl⟩)
        go_roundw
        case rel => exact ⟨k + 1, by omega, by go_num, (by repeat (first | (with_reducible exact Bel.refl _) | (with_reducible assumption) | (with_reducible apply Bel.alloc) | (with_reducible apply Bel.drewN) | (with_reducible apply Bel.drew) | (with_reducible refine Bel.set ?_ (by simp <;> omega) _) | (refine Bel.trans ?_ (by with_reducible assumption)))), ⟨by rw [hst.out]; exact HO.out⟩⟩
        case measure => simp [intOf]; omega
    · have e := Hd.mk (List.take_of_length_le (show ws.length ≤ k by omega))
      go_wp2
      go_ret
      refine ⟨_, rfl, ?_, HBL⟩
      have := HO.out
      rw [e.out] at this
      rwa [applyW_len]
end Go.Proofs.YtgodbldchaonpaaGreat

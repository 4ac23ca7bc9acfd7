/- What program and reference answer on what was sent, on prefixes and links. No condition. -/
import Derived.Test.YtgodbldchaonpaaGreatP
namespace Go.Proofs.YtgodbldchaonpaaGreat
open Go.RowKit
set_option linter.unusedVariables false
set_option maxRecDepth 100000
def isPre (a b : List Int) : Bool := decide (b.take a.length = a)
def linkOk (m : List Int) (ac : Int) (got : List Int) : Bool := inB ac 0 got.length && isPre got (sentOf m)
theorem pre_short {a b : List Int} (h : b.length < a.length) : isPre a b = false := by
  unfold isPre; apply decide_eq_false; intro e; have := congrArg List.length e; rw [List.length_take] at this; omega
theorem pre_eq {a b : List Int} : isPre a b = decide (a = b.take a.length) := by
  unfold isPre; rw [decide_eq_decide]; exact ⟨Eq.symm, Eq.symm⟩
theorem sent_len (m : List Int) : (sentOf m).length ≤ 24 := by
  unfold sentOf; split
  · rename_i h
    rcases unpack_range (at_ m 8) with hr | ⟨_, _, _, _, h4, h5⟩
    · rw [hr] at h; exact absurd h.2 (by decide)
    · rw [List.length_take]; omega
  · simp
set_option maxHeartbeats 1000000 in
theorem sMemSent_any (A : Option Addr) (m : List Int) (c : Nat) (w : World) (hc : m.length ≤ c) (ha : RdI w A m) : Calls Tryz.prog 140 #[.slice A m.length c] w (Mk encI 3 1 (sentOf m) w) := by
  by_cases h49 : m.length = 49
  · obtain ⟨b, off, rfl, c8⟩ := ha.atD 8 (by omega)
    have HA := Hd.mk ha
    have HL := Hd.mk h49
    clear ha
    rw [h49] at hc
    have e49 : ((m.length : Int) != 49) = false := by rw [h49]; rfl
    have hu := sUnpackControl_any (at_ m 8)
    rcases unpack_range (at_ m 8) with hr | ⟨r0, r1, r2, r3, r4, r5⟩
    · have hs : sentOf m = [] := by unfold sentOf; rw [if_neg]; rw [hr]; intro h; exact absurd h.2 (by decide)
      rw [hs, h49]
      rw [hr] at hu
      clear h49 e49 hr hs
      go_enter Tryz.func140, Tryz.ntmps140
      go_wp2_with (go_at_call 36; refine (hu _).mono ?_; rintro e w' ⟨rfl, rfl⟩)
      go_ret
      exact ⟨_, rfl, own_lit0 _ _ _ _ (Nat.le_refl _), (Bel.refl w).alloc _⟩
    · generalize hU : unpack (at_ m 8) = U at *
      obtain ⟨t, k, n⟩ := U
      simp only at r0 r1 r2 r3 r4 r5
      obtain ⟨n, rfl⟩ := Int.eq_ofNat_of_zero_le r4
      have hs : sentOf m = (m.drop 25).take n := by unfold sentOf; rw [hU, if_pos ⟨h49, r4⟩]; rfl
      have hl : Hd (((m.drop 25).take n).length = n) := ⟨by rw [List.length_take, List.length_drop]; omega⟩
      rw [hs, h49]
      have HR : Hd (RdI w (some ⟨b, off + 25, none⟩) ((m.drop 25).take n)) := ⟨by have := HA.out.cut 25 n (by omega); rwa [Option.map_some, add_addr] at this⟩
      clear h49 e49 hs hU
      have n24 : n ≤ 24 := by omega
      go_enter Tryz.func140, Tryz.ntmps140
      go_wp2_with (first | (go_at_call 36; refine (hu _).mono ?_; rintro e w' ⟨rfl, rfl⟩) | (at_builtin; refine app_row' encI 1 encI_ok (by decide) w.heap.size rfl _ _ 25 3 (.int .i64 0) 8 rfl Tryz.underlying25 infoI rfl (by decide) _ [] ((m.drop 25).take n) (25 + n - 25) (by rw [hl.out]; omega) _ _ rfl rfl (own_lit0 w w.heap.size _ _ (Nat.le_refl _)) (HR.out.bel (by repeat (first | exact Bel.refl _ | assumption | apply Bel.alloc | apply Bel.drewN | apply Bel.drew | (refine Bel.trans ?_ (by assumption))))) (by simp) (by simp only [List.length_nil]; omega) ?_; intro v1 w1 hown hg hat; replace hown := Hd.mk hown; replace hg := Hd.mk hg; clear hat))
      go_ret
      exact ⟨_, rfl, hown.out, Bel.of_grown ((Bel.refl w).alloc _) hg.out (by intro k hk; cases hk; exact Nat.le_refl _)⟩
  · have e49 : ((m.length : Int) != 49) = true := by simp; omega
    have hs : sentOf m = [] := by unfold sentOf; rw [if_neg (by omega)]
    rw [hs]
    clear hs h49
    go_enter Tryz.func140, Tryz.ntmps140
    go_wp2
    go_ret
    exact ⟨_, rfl, own_lit0 _ _ _ _ (Nat.le_refl _), (Bel.refl w).alloc _⟩
set_option maxHeartbeats 2000000 in
theorem EqualI_any (A B : Option Addr) (xs ys : List Int) (c d : Nat) (w : World) (ha : RdI w A xs) (hb : RdI w B ys) :
   Calls Tryz.prog 156 #[.slice A xs.length c, .slice B ys.length d] w (Bl (.bool (decide (xs = ys))) w) := by
  have hlen := ha.len
  have hlen' := hb.len
  have HA := Hd.mk ha
  have HB := Hd.mk hb
  clear ha hb
  by_cases hn : xs.length = ys.length
  · have e1 : ((xs.length : Int) != (ys.length : Int)) = false := by simp [hn]
    have HN := Hd.mk hn
    clear hn
    go_enter Tryz.func156, Tryz.ntmps156
    go_wp2
    go_loopw [13] (fun i wr => ∃ k : Nat, k ≤ xs.length ∧ i = .int .i64 k ∧ Hd (xs.take k = ys.take k) ∧ Bel w wr) (fun i _ => xs.length - (intOf i).toNat)
    case atStart => exact ⟨0, Nat.zero_le _, rfl, ⟨by simp⟩, Bel.refl _⟩
    case round =>
      obtain ⟨k, hk, rfl, HT, HBL⟩ := hrel
      by_cases hlt : k < xs.length
      · have hlt2 : k < ys.length := by have := HN.out; omega
        obtain ⟨b, off, rfl, c0⟩ := (HA.out.bel HBL).atI k hlt
        obtain ⟨b', off', rfl, d0⟩ := (HB.out.bel HBL).atI k hlt2
        by_cases he : xs[k] = ys[k]
        · have he' : (xs[k] != ys[k]) = false := by simpa using he
          replace he := Hd.mk he
          go_wp2
          go_quiet (fail)
          all_goals
            go_wp2
            go_roundw
            case rel => exact ⟨k + 1, by omega, by go_num, ⟨take_eq_succ HT.out hlt hlt2 he.out⟩, (by repeat (first | exact Bel.refl _ | assumption | apply Bel.alloc | apply Bel.drewN | apply Bel.drew | (refine Bel.trans ?_ (by assumption))))⟩
            case measure => simp [intOf]; omega
        · have he' : (xs[k] != ys[k]) = true := by simpa using he
          replace he := Hd.mk he
          go_wp2
          go_quiet (fail)
          all_goals
            go_wp2
            go_ret
            refine ⟨congrArg (fun b => Ending.returned (.bool b)) (decide_eq_false (fun h => he.out (by subst h; rfl))).symm, (by repeat (first | exact Bel.refl _ | assumption | apply Bel.alloc | apply Bel.drewN | apply Bel.drew | (refine Bel.trans ?_ (by assumption))))⟩
      · go_wp2
        go_ret
        exact ⟨congrArg (fun b => Ending.returned (.bool b)) (decide_eq_true (eq_of_take HT.out (by omega) HN.out)).symm, (by repeat (first | exact Bel.refl _ | assumption | apply Bel.alloc | apply Bel.drewN | apply Bel.drew | (refine Bel.trans ?_ (by assumption))))⟩
  · have e1 : ((xs.length : Int) != (ys.length : Int)) = true := by simp; omega
    have HN := Hd.mk hn
    clear hn
    go_enter Tryz.func156, Tryz.ntmps156
    go_wp2
    go_ret
    exact ⟨congrArg (fun b => Ending.returned (.bool b)) (decide_eq_false (fun h => HN.out (by rw [h]))).symm, Bel.refl _⟩
set_option maxHeartbeats 1000000 in
theorem IsPrefixOf_any (A B : Option Addr) (xs ys : List Int) (c d : Nat) (w : World) (hd : ys.length ≤ d) (ha : RdI w A xs) (hb : RdI w B ys) :
   Calls Tryz.prog 143 #[.slice A xs.length c, .slice B ys.length d] w (Bl (.bool (isPre xs ys)) w) := by
  have HA := Hd.mk ha
  have HB := Hd.mk hb
  clear ha hb
  by_cases hl : xs.length ≤ ys.length
  · have hcl := fun W h1 h2 => EqualI_any A B xs (ys.take xs.length) c d W h1 h2
    rw [List.length_take, Nat.min_eq_left hl] at hcl
    have hlz : decide (xs.length ≤ ys.length) = true := decide_eq_true hl
    have hld : xs.length ≤ d := by omega
    go_enter Tryz.func143, Tryz.ntmps143
    go_wp2_with (go_at_call 156; refine (hcl _ HA.out (HB.out.take _)).mono ?_; rintro e w' ⟨rfl, hb⟩)
    all_goals (go_ret; exact ⟨retB pre_eq.symm, hb⟩)
  · have hlz : decide (xs.length ≤ ys.length) = false := decide_eq_false hl
    rw [pre_short (by omega)]
    go_enter Tryz.func143, Tryz.ntmps143
    go_wp2
    go_ret
    exact ⟨rfl, Bel.refl _⟩
theorem pre_diff {a b : List Int} {k : Nat} (hk : k < a.length) (hb : k < b.length) (h : a[k] ≠ b[k]) : isPre a b = false := by
  unfold isPre; apply decide_eq_false; intro e
  apply h
  have : (b.take a.length)[k]? = a[k]? := by rw [e]
  rw [List.getElem?_take, if_pos hk, List.getElem?_eq_getElem hb, List.getElem?_eq_getElem hk] at this
  exact (Option.some.inj this).symm
theorem pre_all {a b : List Int} {k : Nat} (hT : a.take k = b.take k) (hk : a.length ≤ k) (hkk : k ≤ a.length) : isPre a b = true := by
  have : k = a.length := by omega
  subst this
  unfold isPre; apply decide_eq_true; rw [← hT, List.take_length]
theorem pre_end {a b : List Int} {k : Nat} (hk : k < a.length) (hb : b.length ≤ k) : isPre a b = false := pre_short (by omega)
set_option maxHeartbeats 2000000 in
theorem sIsPrefixOf_any (A B : Option Addr) (xs ys : List Int) (c d : Nat) (w : World) (ha : RdI w A xs) (hb : RdI w B ys) :
   Calls Tryz.prog 139 #[.slice A xs.length c, .slice B ys.length d] w (Bl (.bool (isPre xs ys)) w) := by
  have hlen := ha.len
  have hlen' := hb.len
  have HA := Hd.mk ha
  have HB := Hd.mk hb
  clear ha hb
  go_enter Tryz.func139, Tryz.ntmps139
  go_wp2
  go_loopw [5] (fun i wr => ∃ k : Nat, k ≤ xs.length ∧ i = .int .i64 k ∧ Hd (xs.take k = ys.take k) ∧ Bel w wr) (fun i _ => xs.length - (intOf i).toNat)
  case atStart => exact ⟨0, Nat.zero_le _, rfl, ⟨by simp⟩, Bel.refl _⟩
  case round =>
    obtain ⟨k, hk, rfl, HT, HBL⟩ := hrel
    by_cases hlt : k < xs.length
    · by_cases hlt2 : k < ys.length
      · have hlz : decide (ys.length ≤ k) = false := decide_eq_false (by omega)
        obtain ⟨b, off, rfl, c0⟩ := (HA.out.bel HBL).atI k hlt
        obtain ⟨b', off', rfl, d0⟩ := (HB.out.bel HBL).atI k hlt2
        by_cases he : xs[k] = ys[k]
        · have he' : (xs[k] != ys[k]) = false := by simpa using he
          replace he := Hd.mk he
          go_wp2
          go_quiet (fail)
          all_goals
            go_wp2
            go_roundw
            case rel => exact ⟨k + 1, by omega, by go_num, ⟨take_eq_succ HT.out hlt hlt2 he.out⟩, (by repeat (first | exact Bel.refl _ | assumption | apply Bel.alloc | apply Bel.drewN | apply Bel.drew | (refine Bel.trans ?_ (by assumption))))⟩
            case measure => simp [intOf]; omega
        · have he' : (xs[k] != ys[k]) = true := by simpa using he
          replace he := Hd.mk he
          go_wp2
          go_quiet (fail)
          all_goals
            go_wp2
            go_ret
            exact ⟨retB (pre_diff hlt hlt2 he.out).symm, (by repeat (first | exact Bel.refl _ | assumption | apply Bel.alloc | apply Bel.drewN | apply Bel.drew | (refine Bel.trans ?_ (by assumption))))⟩
      · have hlz : decide (ys.length ≤ k) = true := decide_eq_true (by omega)
        obtain ⟨b, off, rfl, c0⟩ := (HA.out.bel HBL).atI k hlt
        go_wp2
        go_quiet (fail)
        all_goals
          go_wp2
          go_ret
          exact ⟨retB (pre_end hlt (by omega)).symm, (by repeat (first | exact Bel.refl _ | assumption | apply Bel.alloc | apply Bel.drewN | apply Bel.drew | (refine Bel.trans ?_ (by assumption))))⟩
    · go_wp2
      go_ret
      exact ⟨retB (pre_all HT.out (by omega) hk).symm, (by repeat (first | exact Bel.refl _ | assumption | apply Bel.alloc | apply Bel.drewN | apply Bel.drew | (refine Bel.trans ?_ (by assumption))))⟩
end Go.Proofs.YtgodbldchaonpaaGreat

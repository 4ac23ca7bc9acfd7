/- What program and reference answer on lists of values and on programs. No condition. -/
import Derived.Test.YtgodbldchaonpaaGreatG
namespace Go.Proofs.YtgodbldchaonpaaGreat
open Go.RowKit
set_option linter.unusedVariables false
def Idx (b : Bool) (w : World) (e : Ending) (w' : World) : Prop := ∃ r : Int, decide (0 ≤ r) = b ∧ e = .returned (.int .i64 r) ∧ Bel w w'
def tkOk (t : Tk) : Bool := blockOk t.body && exOk ⟨t.op, t.a, t.b⟩
def progOk (ts : List Tk) : Bool := inB ts.length 1 6 && ts.all tkOk
theorem areValues1_any (x : Int) (w : World) : Calls Tryz.prog 129 #[.int .i64 x] w (Sm (.bool (!vOk x)) w) := by
  go_enter Tryz.func129, Tryz.ntmps129
  go_wp2_with (go_at_call 83; refine (IsValue_any _ _).mono ?_; rintro e w' ⟨rfl, rfl⟩)
  all_goals (go_ret; exact ⟨rfl, rfl⟩)
set_option maxHeartbeats 1000000 in
theorem IndexFuncI_any (A : Option Addr) (xs : List Int) (c : Nat) (w : World) (ha : RdI w A xs) : Calls Tryz.prog 152 #[.slice A xs.length c, .func (.func 129) #[] #[]] w (Idx (!xs.all vOk) w) := by
  have hlen := ha.len
  have HA := Hd.mk ha
  clear ha
  go_enter Tryz.func152, Tryz.ntmps152
  go_wp2
  go_loopw [8] (fun i wr => ∃ k : Nat, k ≤ xs.length ∧ i = .int .i64 k ∧ Hd ((xs.take k).all vOk = true) ∧ Bel w wr) (fun i _ => xs.length - (intOf i).toNat)
  case atStart => exact ⟨0, Nat.zero_le _, rfl, ⟨by simp⟩, Bel.refl _⟩
  case round =>
    obtain ⟨k, hk, rfl, HT, HBL⟩ := hrel
    by_cases hlt : k < xs.length
    · obtain ⟨b, off, rfl, c0⟩ := (HA.out.bel HBL).atI k hlt
      have hcall := areValues1_any xs[k]
      cases hst : vOk xs[k] with
      | true =>
        rw [hst] at hcall
        replace hst := Hd.mk hst
        go_wp2_with (go_at_call 129; refine (hcall _).mono ?_; rintro e w' ⟨rfl, rfl⟩)
        go_roundw
        case rel => exact ⟨k + 1, by omega, by go_num, ⟨all_take_succ HT.out hlt hst.out⟩, (by repeat (first | exact Bel.refl _ | assumption | apply Bel.alloc | apply Bel.drewN | apply Bel.drew | (refine Bel.trans ?_ (by assumption))))⟩
        case measure => simp [intOf]; omega
      | false =>
        rw [hst] at hcall
        replace hst := Hd.mk hst
        go_wp2_with (go_at_call 129; refine (hcall _).mono ?_; rintro e w' ⟨rfl, rfl⟩)
        go_ret
        refine ⟨k, ?_, rfl, (by repeat (first | exact Bel.refl _ | assumption | apply Bel.alloc | apply Bel.drewN | apply Bel.drew | (refine Bel.trans ?_ (by assumption))))⟩
        rw [all_false hlt hst.out]; simp
    · have e := Hd.mk (all_of_take HT.out (by omega))
      go_wp2
      go_ret
      refine ⟨-1, ?_, rfl, (by repeat (first | exact Bel.refl _ | assumption | apply Bel.alloc | apply Bel.drewN | apply Bel.drew | (refine Bel.trans ?_ (by assumption))))⟩
      rw [e.out]; rfl
theorem ContainsFuncI_any (A : Option Addr) (xs : List Int) (c : Nat) (w : World) (ha : RdI w A xs) : Calls Tryz.prog 128 #[.slice A xs.length c, .func (.func 129) #[] #[]] w (Bl (.bool (!xs.all vOk)) w) := by
  go_enter Tryz.func128, Tryz.ntmps128
  go_wp2_with (go_at_call 152; refine (IndexFuncI_any _ _ _ _ ha).mono ?_; rintro e w' ⟨r, hr, rfl, hb⟩; replace hr := Hd.mk hr)
  go_ret
  exact ⟨retB (by rw [← hr.out]), hb⟩
theorem areValues_any (A : Option Addr) (xs : List Int) (c : Nat) (w : World) (ha : RdI w A xs) : Calls Tryz.prog 81 #[.slice A xs.length c] w (Bl (.bool (xs.all vOk)) w) := by
  go_enter Tryz.func81, Tryz.ntmps81
  go_wp2_with (go_at_call 128; refine (ContainsFuncI_any _ _ _ _ ha).mono ?_; rintro e w' ⟨rfl, hb⟩)
  go_ret
  exact ⟨retB (by simp), hb⟩
set_option maxHeartbeats 1000000 in
theorem l09Values_any (A : Option Addr) (xs : List Int) (c : Nat) (w : World) (ha : RdI w A xs) : Calls Tryz.prog 70 #[.slice A xs.length c] w (Bl (.bool (xs.all vOk)) w) := by
  have hlen := ha.len
  have HA := Hd.mk ha
  clear ha
  go_enter Tryz.func70, Tryz.ntmps70
  go_wp2
  go_loopw [3] (fun i wr => ∃ k : Nat, k ≤ xs.length ∧ i = .int .i64 k ∧ Hd ((xs.take k).all vOk = true) ∧ Bel w wr) (fun i _ => xs.length - (intOf i).toNat)
  case atStart => exact ⟨0, Nat.zero_le _, rfl, ⟨by simp⟩, Bel.refl _⟩
  case round =>
    obtain ⟨k, hk, rfl, HT, HBL⟩ := hrel
    by_cases hlt : k < xs.length
    · obtain ⟨b, off, rfl, c0⟩ := (HA.out.bel HBL).atI k hlt
      have hcall := sIsValue_any xs[k]
      cases hst : vOk xs[k] with
      | true =>
        rw [hst] at hcall
        replace hst := Hd.mk hst
        go_wp2_with (go_at_call 72; refine (hcall _).mono ?_; rintro e w' ⟨rfl, rfl⟩)
        go_roundw
        case rel => exact ⟨k + 1, by omega, by go_num, ⟨all_take_succ HT.out hlt hst.out⟩, (by repeat (first | exact Bel.refl _ | assumption | apply Bel.alloc | apply Bel.drewN | apply Bel.drew | (refine Bel.trans ?_ (by assumption))))⟩
        case measure => simp [intOf]; omega
      | false =>
        rw [hst] at hcall
        replace hst := Hd.mk hst
        go_wp2_with (go_at_call 72; refine (hcall _).mono ?_; rintro e w' ⟨rfl, rfl⟩)
        go_ret
        exact ⟨retB (all_false hlt hst.out).symm, (by repeat (first | exact Bel.refl _ | assumption | apply Bel.alloc | apply Bel.drewN | apply Bel.drew | (refine Bel.trans ?_ (by assumption))))⟩
    · have e := Hd.mk (all_of_take HT.out (by omega))
      go_wp2
      go_ret
      exact ⟨retB e.out.symm, (by repeat (first | exact Bel.refl _ | assumption | apply Bel.alloc | apply Bel.drewN | apply Bel.drew | (refine Bel.trans ?_ (by assumption))))⟩
set_option maxHeartbeats 1000000 in
theorem taskOk_any (B : Option Addr) (t : Tk) (c : Nat) (w : World) (ha : RdS w B t.body) : Calls Tryz.prog 127 #[.agg #[.slice B t.body.length c, .int .i64 t.op, .int .i64 t.a, .int .i64 t.b]] w (Bl (.bool (tkOk t)) w) := by
  have HA := Hd.mk ha
  clear ha
  go_enter Tryz.func127, Tryz.ntmps127
  go_wp2_with (first | (go_at_call 151; refine (BlockOk_any _ _ _ _ (HA.out.bel (by repeat (first | exact Bel.refl _ | assumption | apply Bel.alloc | apply Bel.drewN | apply Bel.drew | (refine Bel.trans ?_ (by assumption)))))).mono ?_; rintro e w' ⟨rfl, hb⟩; obtain ⟨hc, hf⟩ := hb.rd) | (go_at_call 86; refine (ExprOk_any ⟨_, _, _⟩ _).mono ?_; rintro e w' ⟨rfl, hb⟩; obtain ⟨hc, hf⟩ := hb.rd))
  all_goals (go_ret; refine ⟨retB ?_, ?_⟩; rotate_left; (repeat (first | exact Bel.refl _ | assumption | apply Bel.alloc | apply Bel.drewN | apply Bel.drew | (refine Bel.trans ?_ (by assumption)))); unfold tkOk; first | (simp_all; done) | grind)
theorem ProgramOk1_any (B : Option Addr) (t : Tk) (c : Nat) (w : World) (ha : RdS w B t.body) : Calls Tryz.prog 126 #[.agg #[.slice B t.body.length c, .int .i64 t.op, .int .i64 t.a, .int .i64 t.b]] w (Bl (.bool (!tkOk t)) w) := by
  have HA := Hd.mk ha
  clear ha
  go_enter Tryz.func126, Tryz.ntmps126
  go_wp2_with (go_at_call 127; refine (taskOk_any _ t _ _ (HA.out.bel (by repeat (first | exact Bel.refl _ | assumption | apply Bel.alloc | apply Bel.drewN | apply Bel.drew | (refine Bel.trans ?_ (by assumption)))))).mono ?_; rintro e w' ⟨rfl, hb⟩; obtain ⟨hc, hf⟩ := hb.rd)
  all_goals (go_ret; refine ⟨rfl, ?_⟩; repeat (first | exact Bel.refl _ | assumption | apply Bel.alloc | apply Bel.drewN | apply Bel.drew | (refine Bel.trans ?_ (by assumption))))
set_option maxHeartbeats 1000000 in
theorem IndexFuncT_any (A : Option Addr) (xs : List Tk) (c : Nat) (w : World) (ha : RdT w A xs) : Calls Tryz.prog 150 #[.slice A xs.length c, .func (.func 126) #[] #[]] w (Idx (!xs.all tkOk) w) := by
  have hlen := ha.len
  have HA := Hd.mk ha
  clear ha
  go_enter Tryz.func150, Tryz.ntmps150
  go_wp2
  go_loopw [8] (fun i wr => ∃ k : Nat, k ≤ xs.length ∧ i = .int .i64 k ∧ Hd ((xs.take k).all tkOk = true) ∧ Bel w wr) (fun i _ => xs.length - (intOf i).toNat)
  case atStart => exact ⟨0, Nat.zero_le _, rfl, ⟨by simp⟩, Bel.refl _⟩
  case round =>
    obtain ⟨k, hk, rfl, HT, HBL⟩ := hrel
    by_cases hlt : k < xs.length
    · obtain ⟨b, off, B, c', rfl, hcc, HB, c0, c1, c2, c3⟩ := (RdT.bel HA.out HBL).atT k hlt
      have hcall := ProgramOk1_any B xs[k] c'
      cases hst : tkOk xs[k] with
      | true =>
        rw [hst] at hcall
        replace hst := Hd.mk hst
        go_wp2_with (go_at_call 126; refine (hcall _ (HB.out.bel (by repeat (first | exact Bel.refl _ | assumption | apply Bel.alloc | apply Bel.drewN | apply Bel.drew | (refine Bel.trans ?_ (by assumption)))))).mono ?_; rintro e w' ⟨rfl, hb⟩; obtain ⟨hc, hf⟩ := hb.rd)
        go_roundw
        case rel => exact ⟨k + 1, by omega, by go_num, ⟨all_take_succ HT.out hlt hst.out⟩, (by repeat (first | exact Bel.refl _ | assumption | apply Bel.alloc | apply Bel.drewN | apply Bel.drew | (refine Bel.trans ?_ (by assumption))))⟩
        case measure => simp [intOf]; omega
      | false =>
        rw [hst] at hcall
        replace hst := Hd.mk hst
        go_wp2_with (go_at_call 126; refine (hcall _ (HB.out.bel (by repeat (first | exact Bel.refl _ | assumption | apply Bel.alloc | apply Bel.drewN | apply Bel.drew | (refine Bel.trans ?_ (by assumption)))))).mono ?_; rintro e w' ⟨rfl, hb⟩; obtain ⟨hc, hf⟩ := hb.rd)
        go_ret
        refine ⟨k, ?_, rfl, (by repeat (first | exact Bel.refl _ | assumption | apply Bel.alloc | apply Bel.drewN | apply Bel.drew | (refine Bel.trans ?_ (by assumption))))⟩
        rw [all_false hlt hst.out]; simp
    · have e := Hd.mk (all_of_take HT.out (by omega))
      go_wp2
      go_ret
      refine ⟨-1, ?_, rfl, (by repeat (first | exact Bel.refl _ | assumption | apply Bel.alloc | apply Bel.drewN | apply Bel.drew | (refine Bel.trans ?_ (by assumption))))⟩
      rw [e.out]; rfl
theorem ContainsFuncT_any (A : Option Addr) (xs : List Tk) (c : Nat) (w : World) (ha : RdT w A xs) : Calls Tryz.prog 125 #[.slice A xs.length c, .func (.func 126) #[] #[]] w (Bl (.bool (!xs.all tkOk)) w) := by
  go_enter Tryz.func125, Tryz.ntmps125
  go_wp2_with (go_at_call 150; refine (IndexFuncT_any _ _ _ _ ha).mono ?_; rintro e w' ⟨r, hr, rfl, hb⟩; replace hr := Hd.mk hr)
  go_ret
  exact ⟨retB (by rw [← hr.out]), hb⟩
set_option maxHeartbeats 1000000 in
theorem ProgramOk_any (A : Option Addr) (xs : List Tk) (c : Nat) (w : World) (ha : RdT w A xs) : Calls Tryz.prog 80 #[.agg #[.slice A xs.length c]] w (Bl (.bool (progOk xs)) w) := by
  have HA := Hd.mk ha
  clear ha
  go_enter Tryz.func80, Tryz.ntmps80
  go_wp2_with (first | (go_at_call 125; refine (ContainsFuncT_any _ _ _ _ (RdT.bel HA.out (by repeat (first | exact Bel.refl _ | assumption | apply Bel.alloc | apply Bel.drewN | apply Bel.drew | (refine Bel.trans ?_ (by assumption)))))).mono ?_; rintro e w' ⟨rfl, hb⟩; obtain ⟨hc, hf⟩ := hb.rd) | (go_at_call 92; refine (within_any _ _ _ _).mono ?_; rintro e w' ⟨rfl, rfl⟩))
  all_goals (go_ret; refine ⟨retB ?_, ?_⟩; rotate_left; (repeat (first | exact Bel.refl _ | assumption | apply Bel.alloc | apply Bel.drewN | apply Bel.drew | (refine Bel.trans ?_ (by assumption)))); unfold progOk; first | (simp_all; done) | grind)
theorem prog_end {xs : List Tk} {k : Nat} (h : (xs.take k).all tkOk = true) (hk : xs.length ≤ k) : progOk xs = inB xs.length 1 6 := by
  unfold progOk; rw [all_of_take h hk, Bool.and_true]
theorem prog_no {xs : List Tk} {k : Nat} (hk : k < xs.length) (h : tkOk xs[k] = false) : progOk xs = false := by
  unfold progOk; rw [all_false hk h, Bool.and_false]
set_option maxHeartbeats 2000000 in
theorem sProgramOk_any (A : Option Addr) (xs : List Tk) (c : Nat) (w : World) (ha : RdT w A xs) : Calls Tryz.prog 69 #[.agg #[.slice A xs.length c]] w (Bl (.bool (progOk xs)) w) := by
  have hlen := ha.len
  have HA := Hd.mk ha
  clear ha
  go_enter Tryz.func69, Tryz.ntmps69
  go_wp2
  obtain ⟨W, hW, hbW, hsW, d0⟩ : ∃ W, W = w.alloc (.cells #[.slice A xs.length c] 35) ∧ Bel w W ∧ W.heap.size = w.heap.size + 1 ∧ W.cell? ⟨w.heap.size, 0, none⟩ = some (.slice A xs.length c) := ⟨_, rfl, (Bel.refl w).alloc _, by simp, box_cell _ _ _ _ _ rfl⟩
  rw [← hW]
  clear hW
  have hbs : w.heap.size < W.heap.size := by omega
  go_loopw [3] (fun i wr => ∃ k : Nat, k ≤ xs.length ∧ i = .int .i64 k ∧ Hd ((xs.take k).all tkOk = true) ∧ Bel W wr) (fun i _ => xs.length - (intOf i).toNat)
  case atStart => exact ⟨0, Nat.zero_le _, rfl, ⟨by simp⟩, Bel.refl _⟩
  case round =>
    obtain ⟨k, hk, rfl, HT, HBL⟩ := hrel
    have e0 := HBL.cell d0
    have hz0 : w.heap.size < wr.heap.size := World.block_lt_of_cell? _ _ e0
    by_cases hlt : k < xs.length
    · obtain ⟨b, off, B, c', rfl, hcc, HB, c0, c1, c2, c3⟩ := (RdT.bel HA.out (hbW.trans HBL)).atT k hlt
      have hbz : b < wr.heap.size := World.block_lt_of_cell? _ _ c0
      have hcall := sBlockOk_any B xs[k].body c'
      have hcall2 := sExprOk_any ⟨xs[k].op, xs[k].a, xs[k].b⟩
      cases hst : blockOk xs[k].body with
      | true =>
        rw [hst] at hcall
        cases hst2 : exOk ⟨xs[k].op, xs[k].a, xs[k].b⟩ with
        | true =>
          rw [hst2] at hcall2
          have htk : Hd (tkOk xs[k] = true) := ⟨by unfold tkOk; rw [hst, hst2]; rfl⟩
          clear hst hst2
          go_wp2_with (first | (go_at_call 117; refine (hcall _ (HB.out.bel (by repeat (first | exact Bel.refl _ | assumption | apply Bel.alloc | apply Bel.drewN | apply Bel.drew | (refine Bel.trans ?_ (by assumption)))))).mono ?_; rintro e w' ⟨rfl, hb⟩; obtain ⟨hc, hf⟩ := hb.rd) | (go_at_call 73; refine (hcall2 _).mono ?_; rintro e w' ⟨rfl, hb⟩; obtain ⟨hc, hf⟩ := hb.rd))
          go_roundw
          case rel => exact ⟨k + 1, by omega, by go_num, ⟨all_take_succ HT.out hlt htk.out⟩, (by repeat (first | exact Bel.refl _ | assumption | apply Bel.alloc | apply Bel.drewN | apply Bel.drew | (refine Bel.trans ?_ (by assumption))))⟩
          case measure => simp [intOf]; omega
        | false =>
          rw [hst2] at hcall2
          have htk : Hd (tkOk xs[k] = false) := ⟨by unfold tkOk; rw [hst, hst2]; rfl⟩
          clear hst hst2
          go_wp2_with (first | (go_at_call 117; refine (hcall _ (HB.out.bel (by repeat (first | exact Bel.refl _ | assumption | apply Bel.alloc | apply Bel.drewN | apply Bel.drew | (refine Bel.trans ?_ (by assumption)))))).mono ?_; rintro e w' ⟨rfl, hb⟩; obtain ⟨hc, hf⟩ := hb.rd) | (go_at_call 73; refine (hcall2 _).mono ?_; rintro e w' ⟨rfl, hb⟩; obtain ⟨hc, hf⟩ := hb.rd))
          go_ret
          exact ⟨retB (prog_no hlt htk.out).symm, (by repeat (first | exact Bel.refl _ | assumption | apply Bel.alloc | apply Bel.drewN | apply Bel.drew | (refine Bel.trans ?_ (by assumption))))⟩
      | false =>
        rw [hst] at hcall
        have htk : Hd (tkOk xs[k] = false) := ⟨by unfold tkOk; rw [hst]; rfl⟩
        clear hst
        go_wp2_with (first | (go_at_call 117; refine (hcall _ (HB.out.bel (by repeat (first | exact Bel.refl _ | assumption | apply Bel.alloc | apply Bel.drewN | apply Bel.drew | (refine Bel.trans ?_ (by assumption)))))).mono ?_; rintro e w' ⟨rfl, hb⟩; obtain ⟨hc, hf⟩ := hb.rd) | (go_at_call 73; refine (hcall2 _).mono ?_; rintro e w' ⟨rfl, hb⟩; obtain ⟨hc, hf⟩ := hb.rd))
        go_ret
        exact ⟨retB (prog_no hlt htk.out).symm, (by repeat (first | exact Bel.refl _ | assumption | apply Bel.alloc | apply Bel.drewN | apply Bel.drew | (refine Bel.trans ?_ (by assumption))))⟩
    · have e := Hd.mk (prog_end HT.out (by omega))
      go_wp2_with (go_at_call 71; refine (l01In_any _ _ _ _).mono ?_; rintro e w' ⟨rfl, rfl⟩)
      go_ret
      exact ⟨retB e.out.symm, (by repeat (first | exact Bel.refl _ | assumption | apply Bel.alloc | apply Bel.drewN | apply Bel.drew | (refine Bel.trans ?_ (by assumption))))⟩
end Go.Proofs.YtgodbldchaonpaaGreat

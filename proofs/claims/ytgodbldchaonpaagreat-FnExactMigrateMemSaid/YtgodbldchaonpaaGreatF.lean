/- What program and reference answer on blocks. No condition. -/
import Derived.Test.YtgodbldchaonpaaGreatE
namespace Go.Proofs.YtgodbldchaonpaaGreat
open Go.RowKit
set_option linter.unusedVariables false
def stepO (o : Int) (s : St) : Int := o + (if opens s.kind then 1 else 0) - (if s.kind = 6 then 1 else 0)
def depth (o : Int) : List St → Option Int
  | [] => some o
  | s :: r => if stOk s && inB (stepO o s) 0 3 then depth (stepO o s) r else none
def blockOk (xs : List St) : Bool := match depth 0 xs with
  | some o => decide (o = 0 ∧ xs.length ≤ 24)
  | none => false
theorem depth_app (xs ys : List St) (o : Int) : depth o (xs ++ ys) = (depth o xs).bind fun o' => depth o' ys := by
  induction xs generalizing o with
  | nil => rfl
  | cons s r ih => simp only [List.cons_append, depth]; split <;> simp [ih]
theorem depth_yes {xs : List St} {k : Nat} {o : Int} (h : depth 0 (xs.take k) = some o) (hk : k < xs.length) (hs : stOk xs[k] = true) (hb : inB (stepO o xs[k]) 0 3 = true) : depth 0 (xs.take (k + 1)) = some (stepO o xs[k]) := by
  rw [List.take_succ_eq_append_getElem hk, depth_app, h]; simp [depth, hs, hb]
theorem depth_no {xs : List St} {k : Nat} {o : Int} (h : depth 0 (xs.take k) = some o) (hk : k < xs.length) (hs : (stOk xs[k] && inB (stepO o xs[k]) 0 3) = false) : blockOk xs = false := by
  have e : depth 0 xs = none := by
    conv => lhs; rw [← List.take_append_drop k xs]
    rw [depth_app, h, List.drop_eq_getElem_cons hk]; simp only [Option.bind_some, depth]; rw [if_neg (by rw [hs]; simp)]
  simp [blockOk, e]
theorem depth_range {xs : List St} {o o' : Int} (h : depth o xs = some o') (h0 : 0 ≤ o) (h3 : o ≤ 3) : 0 ≤ o' ∧ o' ≤ 3 := by
  induction xs generalizing o with
  | nil => simp only [depth, Option.some.injEq] at h; omega
  | cons s r ih =>
    simp only [depth] at h
    split at h
    · rename_i hc
      simp only [Bool.and_eq_true, inB, decide_eq_true_eq] at hc
      exact ih h hc.2.1 hc.2.2
    · cases h
theorem block_end {xs : List St} {k : Nat} {o : Int} (h : depth 0 (xs.take k) = some o) (hk : xs.length ≤ k) : blockOk xs = decide (o = 0 ∧ xs.length ≤ 24) := by
  rw [List.take_of_length_le hk] at h; simp [blockOk, h]
theorem stepO_open {o : Int} {s : St} (h : opens s.kind = true) : stepO o s = o + 1 ∧ ¬ s.kind = 6 := by
  have : ¬ s.kind = 6 := by simp only [opens, decide_eq_true_eq] at h; omega
  simp [stepO, h, this]
theorem stepO_end {o : Int} {s : St} (h : s.kind = 6) : stepO o s = o - 1 ∧ opens s.kind = false := by
  simp [stepO, h, opens]
theorem stepO_else {o : Int} {s : St} (h : opens s.kind = false) (h6 : ¬ s.kind = 6) : stepO o s = o := by
  simp [stepO, h, h6]
set_option maxHeartbeats 4000000 in
theorem BlockOk_any (A : Option Addr) (xs : List St) (c : Nat) (w : World) (ha : RdS w A xs) : Calls Tryz.prog 151 #[.slice A xs.length c] w (Bl (.bool (blockOk xs)) w) := by
  have hlen := ha.len
  have HA := Hd.mk ha
  clear ha
  go_enter Tryz.func151, Tryz.ntmps151
  go_wp2
  go_loopw [3, 8] (fun t i wr => ∃ (k : Nat) (o : Int), k ≤ xs.length ∧ i = .int .i64 k ∧ t = .int .i64 o ∧ Hd (depth 0 (xs.take k) = some o) ∧ 0 ≤ o ∧ o ≤ 3 ∧ Bel w wr) (fun _ i _ => xs.length - (intOf i).toNat)
  case atStart => exact ⟨0, 0, Nat.zero_le _, rfl, rfl, ⟨by simp [depth]⟩, by omega, by omega, Bel.refl _⟩
  case round =>
    obtain ⟨k, o, hk, rfl, rfl, HT, o0, o3, HBL⟩ := hrel
    by_cases hlt : k < xs.length
    · obtain ⟨b, off, rfl, c0, c1, c2, c3, c4, c5⟩ := (HA.out.bel HBL).atS k hlt
      have hcall := StmtOk_any xs[k]
      cases hst : stOk xs[k] with
      | false =>
        rw [hst] at hcall
        replace hst := Hd.mk hst
        go_wp2_with (go_at_call 159; refine (hcall _).mono ?_; rintro e w' ⟨rfl, hb⟩; obtain ⟨hc, hf⟩ := hb.rd)
        go_ret
        refine ⟨retB (depth_no HT.out hlt (by rw [hst.out]; rfl)).symm, ?_⟩
        repeat (first | (with_reducible exact Bel.refl _) | (with_reducible assumption) | (with_reducible apply Bel.alloc) | (with_reducible apply Bel.drewN) | (with_reducible apply Bel.drew) | (with_reducible refine Bel.set ?_ (by simp <;> omega) _) | (refine Bel.trans ?_ (by with_reducible assumption)))
      | true =>
        rw [hst] at hcall
        replace hst := Hd.mk hst
        have hop := isOpening_any xs[k].kind
        cases ho : opens xs[k].kind with
        | true =>
          rw [ho] at hop
          have h6 : (xs[k].kind == 6) = false := by simpa using (stepO_open (o := o) ho).2
          have hs := Hd.mk (stepO_open (o := o) ho).1
          clear ho
          by_cases hb : o + 1 ≤ 3
          · go_wp2_with (first | (go_at_call 159; refine (hcall _).mono ?_; rintro e w' ⟨rfl, hb⟩; obtain ⟨hc, hf⟩ := hb.rd) | (go_at_call 160; refine (hop _).mono ?_; rintro e w' ⟨rfl, rfl⟩))
            go_roundw
            case rel => exact ⟨k + 1, o + 1, by omega, by go_num, rfl, ⟨by rw [← hs.out]; exact depth_yes HT.out hlt hst.out (by rw [hs.out]; unfold inB; simp; omega)⟩, by omega, by omega, (by repeat (first | (with_reducible exact Bel.refl _) | (with_reducible assumption) | (with_reducible apply Bel.alloc) | (with_reducible apply Bel.drewN) | (with_reducible apply Bel.drew) | (with_reducible refine Bel.set ?_ (by simp <;> omega) _) | (refine Bel.trans ?_ (by with_reducible assumption))))⟩
            case measure => simp [intOf]; omega
          · go_wp2_with (first | (go_at_call 159; refine (hcall _).mono ?_; rintro e w' ⟨rfl, hb⟩; obtain ⟨hc, hf⟩ := hb.rd) | (go_at_call 160; refine (hop _).mono ?_; rintro e w' ⟨rfl, rfl⟩))
            go_ret
            refine ⟨retB (depth_no HT.out hlt (by rw [hst.out, hs.out]; unfold inB; simp; omega)).symm, ?_⟩
            repeat (first | (with_reducible exact Bel.refl _) | (with_reducible assumption) | (with_reducible apply Bel.alloc) | (with_reducible apply Bel.drewN) | (with_reducible apply Bel.drew) | (with_reducible refine Bel.set ?_ (by simp <;> omega) _) | (refine Bel.trans ?_ (by with_reducible assumption)))
        | false =>
          rw [ho] at hop
          by_cases h6 : xs[k].kind = 6
          · have hs := Hd.mk (stepO_end (o := o) h6).1
            have h6' : (xs[k].kind == 6) = true := by simpa using h6
            clear ho h6
            by_cases hb : 0 ≤ o - 1
            · go_wp2_with (first | (go_at_call 159; refine (hcall _).mono ?_; rintro e w' ⟨rfl, hb⟩; obtain ⟨hc, hf⟩ := hb.rd) | (go_at_call 160; refine (hop _).mono ?_; rintro e w' ⟨rfl, rfl⟩))
              go_roundw
              case rel => exact ⟨k + 1, o - 1, by omega, by go_num, rfl, ⟨by rw [← hs.out]; exact depth_yes HT.out hlt hst.out (by rw [hs.out]; unfold inB; simp; omega)⟩, by omega, by omega, (by repeat (first | (with_reducible exact Bel.refl _) | (with_reducible assumption) | (with_reducible apply Bel.alloc) | (with_reducible apply Bel.drewN) | (with_reducible apply Bel.drew) | (with_reducible refine Bel.set ?_ (by simp <;> omega) _) | (refine Bel.trans ?_ (by with_reducible assumption))))⟩
              case measure => simp [intOf]; omega
            · go_wp2_with (first | (go_at_call 159; refine (hcall _).mono ?_; rintro e w' ⟨rfl, hb⟩; obtain ⟨hc, hf⟩ := hb.rd) | (go_at_call 160; refine (hop _).mono ?_; rintro e w' ⟨rfl, rfl⟩))
              go_ret
              refine ⟨retB (depth_no HT.out hlt (by rw [hst.out, hs.out]; unfold inB; simp; omega)).symm, ?_⟩
              repeat (first | (with_reducible exact Bel.refl _) | (with_reducible assumption) | (with_reducible apply Bel.alloc) | (with_reducible apply Bel.drewN) | (with_reducible apply Bel.drew) | (with_reducible refine Bel.set ?_ (by simp <;> omega) _) | (refine Bel.trans ?_ (by with_reducible assumption)))
          · have hs := Hd.mk (stepO_else (o := o) ho h6)
            have h6' : (xs[k].kind == 6) = false := by simpa using h6
            clear ho h6
            go_wp2_with (first | (go_at_call 159; refine (hcall _).mono ?_; rintro e w' ⟨rfl, hb⟩; obtain ⟨hc, hf⟩ := hb.rd) | (go_at_call 160; refine (hop _).mono ?_; rintro e w' ⟨rfl, rfl⟩))
            go_roundw
            case rel => exact ⟨k + 1, o, by omega, by go_num, rfl, ⟨by have h := depth_yes HT.out hlt hst.out (by rw [hs.out]; unfold inB; simp; omega); rwa [hs.out] at h⟩, by omega, by omega, (by repeat (first | (with_reducible exact Bel.refl _) | (with_reducible assumption) | (with_reducible apply Bel.alloc) | (with_reducible apply Bel.drewN) | (with_reducible apply Bel.drew) | (with_reducible refine Bel.set ?_ (by simp <;> omega) _) | (refine Bel.trans ?_ (by with_reducible assumption))))⟩
            case measure => simp [intOf]; omega
    · have e := Hd.mk (block_end HT.out (by omega))
      go_wp2
      all_goals (go_ret; refine ⟨retB ?_, ?_⟩; rotate_left; (repeat (first | (with_reducible exact Bel.refl _) | (with_reducible assumption) | (with_reducible apply Bel.alloc) | (with_reducible apply Bel.drewN) | (with_reducible apply Bel.drew) | (with_reducible refine Bel.set ?_ (by simp <;> omega) _) | (refine Bel.trans ?_ (by with_reducible assumption)))); rw [e.out]; first | (rw [decide_eq_decide]; omega) | (simp_all; done) | grind)
end Go.Proofs.YtgodbldchaonpaaGreat

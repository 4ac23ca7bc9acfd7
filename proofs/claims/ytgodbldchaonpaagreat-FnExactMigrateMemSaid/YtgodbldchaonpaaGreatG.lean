/- What the reference answers on blocks and programs. No condition. -/
import Derived.Test.YtgodbldchaonpaaGreatF
namespace Go.Proofs.YtgodbldchaonpaaGreat
open Go.RowKit
set_option linter.unusedVariables false
theorem inB_yes {a l h : Int} (h1 : l ≤ a) (h2 : a ≤ h) : inB a l h = true := by unfold inB; simp; omega
theorem inB_no {a l h : Int} (h1 : a < l ∨ h < a) : inB a l h = false := by unfold inB; simp; omega
/-- What a statement does to the depth: the three tests that the reference makes. -/
theorem stepO_cases (o : Int) (s : St) : (s.kind = 4 ∧ stepO o s = o + 1) ∨ (s.kind = 5 ∧ stepO o s = o + 1) ∨ (s.kind = 6 ∧ stepO o s = o - 1) ∨ (¬ s.kind = 4 ∧ ¬ s.kind = 5 ∧ ¬ s.kind = 6 ∧ stepO o s = o) := by
  by_cases h4 : s.kind = 4
  · exact .inl ⟨h4, by simp [stepO, opens, h4]⟩
  by_cases h5 : s.kind = 5
  · exact .inr (.inl ⟨h5, by simp [stepO, opens, h5]⟩)
  by_cases h6 : s.kind = 6
  · exact .inr (.inr (.inl ⟨h6, by simp [stepO, opens, h6]⟩))
  · exact .inr (.inr (.inr ⟨h4, h5, h6, by simp [stepO, opens, h4, h5, h6]⟩))
set_option maxHeartbeats 4000000 in
theorem sBlockOk_any (A : Option Addr) (xs : List St) (c : Nat) (w : World) (ha : RdS w A xs) : Calls Tryz.prog 117 #[.slice A xs.length c] w (Bl (.bool (blockOk xs)) w) := by
  have hlen := ha.len
  have HA := Hd.mk ha
  clear ha
  go_enter Tryz.func117, Tryz.ntmps117
  go_wp2
  go_loopw [3, 4] (fun t i wr => ∃ (k : Nat) (o : Int), k ≤ xs.length ∧ i = .int .i64 k ∧ t = .int .i64 o ∧ Hd (depth 0 (xs.take k) = some o) ∧ 0 ≤ o ∧ o ≤ 3 ∧ Bel w wr) (fun _ i _ => xs.length - (intOf i).toNat)
  case atStart => exact ⟨0, 0, Nat.zero_le _, rfl, rfl, ⟨by simp [depth]⟩, by omega, by omega, Bel.refl _⟩
  case round =>
    obtain ⟨k, o, hk, rfl, rfl, HT, o0, o3, HBL⟩ := hrel
    by_cases hlt : k < xs.length
    · obtain ⟨b, off, rfl, c0, c1, c2, c3, c4, c5⟩ := (HA.out.bel HBL).atS k hlt
      have hbz : b < wr.heap.size := World.block_lt_of_cell? _ _ c0
      have hcall := sStmtOk_any xs[k]
      cases hst : stOk xs[k] with
      | false =>
        rw [hst] at hcall
        replace hst := Hd.mk hst
        go_wp2_with (go_at_call 147; refine (hcall _).mono ?_; rintro e w' ⟨rfl, hb⟩; obtain ⟨hc, hf⟩ := hb.rd)
        go_ret
        refine ⟨retB (depth_no HT.out hlt (by rw [hst.out]; rfl)).symm, ?_⟩
        repeat (first | (with_reducible exact Bel.refl _) | (with_reducible assumption) | (with_reducible apply Bel.alloc) | (with_reducible apply Bel.drewN) | (with_reducible apply Bel.drew) | (with_reducible refine Bel.set ?_ (by simp <;> omega) _) | (refine Bel.trans ?_ (by with_reducible assumption)))
      | true =>
        rw [hst] at hcall
        replace hst := Hd.mk hst
        have hin := fun x => l01In_any x 0 3
        rcases stepO_cases o xs[k] with ⟨h4, hs⟩ | ⟨h5, hs⟩ | ⟨h6, hs⟩ | ⟨h4, h5, h6, hs⟩
        · replace hs := Hd.mk hs
          have t4 : (xs[k].kind == 4) = true := by simpa using h4
          clear h4
          cases hi : inB (o + 1) 0 3 with
          | true =>
            have g3 : o + 1 ≤ 3 := by simp only [inB, decide_eq_true_eq] at hi; omega
            have hin := l01In_any (o + 1) 0 3
            rw [hi] at hin
            replace hi := Hd.mk hi
            go_wp2_with (first | (go_at_call 147; refine (hcall _).mono ?_; rintro e w' ⟨rfl, hb⟩; obtain ⟨hc, hf⟩ := hb.rd) | (go_at_call 71; refine (hin _).mono ?_; rintro e w' ⟨rfl, rfl⟩))
            go_roundw
            case rel => exact ⟨k + 1, o + 1, by omega, by go_num, rfl, ⟨by rw [← hs.out]; exact depth_yes HT.out hlt hst.out (by rw [hs.out]; exact hi.out)⟩, by omega, by omega, (by repeat (first | (with_reducible exact Bel.refl _) | (with_reducible assumption) | (with_reducible apply Bel.alloc) | (with_reducible apply Bel.drewN) | (with_reducible apply Bel.drew) | (with_reducible refine Bel.set ?_ (by simp <;> omega) _) | (refine Bel.trans ?_ (by with_reducible assumption))))⟩
            case measure => simp [intOf]; omega
          | false =>
            have hin := l01In_any (o + 1) 0 3
            rw [hi] at hin
            replace hi := Hd.mk hi
            go_wp2_with (first | (go_at_call 147; refine (hcall _).mono ?_; rintro e w' ⟨rfl, hb⟩; obtain ⟨hc, hf⟩ := hb.rd) | (go_at_call 71; refine (hin _).mono ?_; rintro e w' ⟨rfl, rfl⟩))
            go_ret
            refine ⟨retB (depth_no HT.out hlt (by rw [hst.out, hs.out, hi.out]; rfl)).symm, ?_⟩
            repeat (first | (with_reducible exact Bel.refl _) | (with_reducible assumption) | (with_reducible apply Bel.alloc) | (with_reducible apply Bel.drewN) | (with_reducible apply Bel.drew) | (with_reducible refine Bel.set ?_ (by simp <;> omega) _) | (refine Bel.trans ?_ (by with_reducible assumption)))
        · replace hs := Hd.mk hs
          have t4 : (xs[k].kind == 4) = false := by rw [h5]; rfl
          have t5 : (xs[k].kind == 5) = true := by simpa using h5
          clear h5
          cases hi : inB (o + 1) 0 3 with
          | true =>
            have g3 : o + 1 ≤ 3 := by simp only [inB, decide_eq_true_eq] at hi; omega
            have hin := l01In_any (o + 1) 0 3
            rw [hi] at hin
            replace hi := Hd.mk hi
            go_wp2_with (first | (go_at_call 147; refine (hcall _).mono ?_; rintro e w' ⟨rfl, hb⟩; obtain ⟨hc, hf⟩ := hb.rd) | (go_at_call 71; refine (hin _).mono ?_; rintro e w' ⟨rfl, rfl⟩))
            go_roundw
            case rel => exact ⟨k + 1, o + 1, by omega, by go_num, rfl, ⟨by rw [← hs.out]; exact depth_yes HT.out hlt hst.out (by rw [hs.out]; exact hi.out)⟩, by omega, by omega, (by repeat (first | (with_reducible exact Bel.refl _) | (with_reducible assumption) | (with_reducible apply Bel.alloc) | (with_reducible apply Bel.drewN) | (with_reducible apply Bel.drew) | (with_reducible refine Bel.set ?_ (by simp <;> omega) _) | (refine Bel.trans ?_ (by with_reducible assumption))))⟩
            case measure => simp [intOf]; omega
          | false =>
            have hin := l01In_any (o + 1) 0 3
            rw [hi] at hin
            replace hi := Hd.mk hi
            go_wp2_with (first | (go_at_call 147; refine (hcall _).mono ?_; rintro e w' ⟨rfl, hb⟩; obtain ⟨hc, hf⟩ := hb.rd) | (go_at_call 71; refine (hin _).mono ?_; rintro e w' ⟨rfl, rfl⟩))
            go_ret
            refine ⟨retB (depth_no HT.out hlt (by rw [hst.out, hs.out, hi.out]; rfl)).symm, ?_⟩
            repeat (first | (with_reducible exact Bel.refl _) | (with_reducible assumption) | (with_reducible apply Bel.alloc) | (with_reducible apply Bel.drewN) | (with_reducible apply Bel.drew) | (with_reducible refine Bel.set ?_ (by simp <;> omega) _) | (refine Bel.trans ?_ (by with_reducible assumption)))
        · replace hs := Hd.mk hs
          have t4 : (xs[k].kind == 4) = false := by rw [h6]; rfl
          have t5 : (xs[k].kind == 5) = false := by rw [h6]; rfl
          have t6 : (xs[k].kind == 6) = true := by simpa using h6
          clear h6
          cases hi : inB (o - 1) 0 3 with
          | true =>
            have g3 : 0 ≤ o - 1 := by simp only [inB, decide_eq_true_eq] at hi; omega
            have hin := l01In_any (o - 1) 0 3
            rw [hi] at hin
            replace hi := Hd.mk hi
            go_wp2_with (first | (go_at_call 147; refine (hcall _).mono ?_; rintro e w' ⟨rfl, hb⟩; obtain ⟨hc, hf⟩ := hb.rd) | (go_at_call 71; refine (hin _).mono ?_; rintro e w' ⟨rfl, rfl⟩))
            go_roundw
            case rel => exact ⟨k + 1, o - 1, by omega, by go_num, rfl, ⟨by rw [← hs.out]; exact depth_yes HT.out hlt hst.out (by rw [hs.out]; exact hi.out)⟩, by omega, by omega, (by repeat (first | (with_reducible exact Bel.refl _) | (with_reducible assumption) | (with_reducible apply Bel.alloc) | (with_reducible apply Bel.drewN) | (with_reducible apply Bel.drew) | (with_reducible refine Bel.set ?_ (by simp <;> omega) _) | (refine Bel.trans ?_ (by with_reducible assumption))))⟩
            case measure => simp [intOf]; omega
          | false =>
            have hin := l01In_any (o - 1) 0 3
            rw [hi] at hin
            replace hi := Hd.mk hi
            go_wp2_with (first | (go_at_call 147; refine (hcall _).mono ?_; rintro e w' ⟨rfl, hb⟩; obtain ⟨hc, hf⟩ := hb.rd) | (go_at_call 71; refine (hin _).mono ?_; rintro e w' ⟨rfl, rfl⟩))
            go_ret
            refine ⟨retB (depth_no HT.out hlt (by rw [hst.out, hs.out, hi.out]; rfl)).symm, ?_⟩
            repeat (first | (with_reducible exact Bel.refl _) | (with_reducible assumption) | (with_reducible apply Bel.alloc) | (with_reducible apply Bel.drewN) | (with_reducible apply Bel.drew) | (with_reducible refine Bel.set ?_ (by simp <;> omega) _) | (refine Bel.trans ?_ (by with_reducible assumption)))
        · replace hs := Hd.mk hs
          have t4 : (xs[k].kind == 4) = false := by simpa using h4
          have t5 : (xs[k].kind == 5) = false := by simpa using h5
          have t6 : (xs[k].kind == 6) = false := by simpa using h6
          clear h4 h5 h6
          have hin := l01In_any o 0 3
          rw [inB_yes o0 o3] at hin
          go_wp2_with (first | (go_at_call 147; refine (hcall _).mono ?_; rintro e w' ⟨rfl, hb⟩; obtain ⟨hc, hf⟩ := hb.rd) | (go_at_call 71; refine (hin _).mono ?_; rintro e w' ⟨rfl, rfl⟩))
          go_roundw
          case rel => exact ⟨k + 1, o, by omega, by go_num, rfl, ⟨by have h := depth_yes HT.out hlt hst.out (by rw [hs.out]; exact inB_yes o0 o3); rwa [hs.out] at h⟩, by omega, by omega, (by repeat (first | (with_reducible exact Bel.refl _) | (with_reducible assumption) | (with_reducible apply Bel.alloc) | (with_reducible apply Bel.drewN) | (with_reducible apply Bel.drew) | (with_reducible refine Bel.set ?_ (by simp <;> omega) _) | (refine Bel.trans ?_ (by with_reducible assumption))))⟩
          case measure => simp [intOf]; omega
    · have e := Hd.mk (block_end HT.out (by omega))
      go_wp2
      all_goals (go_ret; refine ⟨retB ?_, ?_⟩; rotate_left; (repeat (first | (with_reducible exact Bel.refl _) | (with_reducible assumption) | (with_reducible apply Bel.alloc) | (with_reducible apply Bel.drewN) | (with_reducible apply Bel.drew) | (with_reducible refine Bel.set ?_ (by simp <;> omega) _) | (refine Bel.trans ?_ (by with_reducible assumption)))); rw [e.out]; first | (rw [decide_eq_decide]; omega) | (simp_all; done) | grind)
end Go.Proofs.YtgodbldchaonpaaGreat

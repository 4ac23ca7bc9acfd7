/- What the reference answers on memories. No condition. -/
import Derived.Test.YtgodbldchaonpaaGreatS
namespace Go.Proofs.YtgodbldchaonpaaGreat
open Go.RowKit
set_option linter.unusedVariables false
set_option maxRecDepth 100000
set_option maxHeartbeats 4000000 in
theorem sMemOk_any (T A : Option Addr) (ts : List Tk) (m : List Int) (d c : Nat) (w : World) (hc : m.length ≤ c) (ht : RdT w T ts) (ha : RdI w A m) :
   Calls Tryz.prog 31 #[.agg #[.slice T ts.length d], .slice A m.length c] w (Bl (.bool (memOk ts m)) w) := by
  have hlen := ht.len
  have HT := Hd.mk ht
  clear ht
  have hP := fun W h => sProgramOk_any T ts d W h
  cases h1 : progOk ts with
  | false =>
    rw [h1] at hP
    rw [mem_noP h1]
    go_enter Tryz.func31, Tryz.ntmps31
    go_wp2_with (first | (go_at_call 69; refine (hP _ (RdT.bel HT.out (by repeat (first | exact Bel.refl _ | assumption | apply Bel.alloc | apply Bel.drewN | apply Bel.drew | (refine Bel.trans ?_ (by assumption)))))).mono ?_; rintro e w' ⟨rfl, hb⟩; have hB : Bel w w' := (by repeat (first | exact Bel.refl _ | assumption | apply Bel.alloc | apply Bel.drewN | apply Bel.drew | (refine Bel.trans ?_ (by assumption)))); obtain ⟨hc0, hf0⟩ := hB.rd; obtain ⟨hc, hf⟩ := hb.rd; have hz := hb.size; (try simp at hz); (first | (have hz0 : w.heap.size < w'.heap.size := by omega) | skip); (first | (have hz1 : w.heap.size + 1 < w'.heap.size := by omega) | skip)))
    all_goals (go_ret; exact ⟨rfl, (by repeat (first | exact Bel.refl _ | assumption | apply Bel.alloc | apply Bel.drewN | apply Bel.drew | (refine Bel.trans ?_ (by assumption))))⟩)
  | true =>
    rw [h1] at hP
    by_cases h49 : m.length = 49
    · obtain ⟨b, off, rfl, c8⟩ := ha.atD 8 (by omega)
      have hbz : b < w.heap.size := World.block_lt_of_cell? _ _ c8
      have HA := Hd.mk ha
      have HL := Hd.mk h49
      have HP := Hd.mk h1
      clear ha
      have e49 : ((m.length : Int) != 49) = false := by rw [h49]; rfl
      have hU := sUnpackControl_any (at_ m 8)
      have hV1 := fun W h => l09Values_any (some ⟨b, off, none⟩) (m.take 8) c W h
      rw [List.length_take, h49, show min 8 49 = 8 from rfl] at hV1
      have HA8 : Hd (RdI w (some ⟨b, off, none⟩) (m.take 8)) := ⟨HA.out.take 8⟩
      have hc49 : 49 ≤ c := by omega
      cases h3 : (m.take 8).all vOk with
      | false =>
        rw [h3] at hV1
        rw [mem_noV h3]
        have HX := Hd.mk h3
        clear h3
        rcases unpack_range (at_ m 8) with hr | ⟨r0, r1, r2, r3, r4, r5⟩
        · rw [hr] at hU
          clear hr h1
          rw [h49] at *
          go_enter Tryz.func31, Tryz.ntmps31
          go_wp2_with (first | (go_at_call 69; refine (hP _ (RdT.bel HT.out (by repeat (first | exact Bel.refl _ | assumption | apply Bel.alloc | apply Bel.drewN | apply Bel.drew | (refine Bel.trans ?_ (by assumption)))))).mono ?_; rintro e w' ⟨rfl, hb⟩; have hB : Bel w w' := (by repeat (first | exact Bel.refl _ | assumption | apply Bel.alloc | apply Bel.drewN | apply Bel.drew | (refine Bel.trans ?_ (by assumption)))); obtain ⟨hc0, hf0⟩ := hB.rd; obtain ⟨hc, hf⟩ := hb.rd; have hz := hb.size; (try simp at hz); (first | (have hz0 : w.heap.size < w'.heap.size := by omega) | skip); (first | (have hz1 : w.heap.size + 1 < w'.heap.size := by omega) | skip)) | (go_at_call 36; refine (hU _).mono ?_; rintro e w' ⟨rfl, rfl⟩) | (go_at_call 70; (with_reducible refine (hV1 _ ?_).mono ?_); (exact HA8.out.bel (by repeat (first | exact Bel.refl _ | assumption | apply Bel.alloc | apply Bel.drewN | apply Bel.drew | (refine Bel.trans ?_ (by assumption))))); rintro e w' ⟨rfl, hb⟩; have hB : Bel w w' := (by repeat (first | exact Bel.refl _ | assumption | apply Bel.alloc | apply Bel.drewN | apply Bel.drew | (refine Bel.trans ?_ (by assumption)))); obtain ⟨hc0, hf0⟩ := hB.rd; obtain ⟨hc, hf⟩ := hb.rd; have hz := hb.size; (try simp at hz); (first | (have hz0 : w.heap.size < w'.heap.size := by omega) | skip); (first | (have hz1 : w.heap.size + 1 < w'.heap.size := by omega) | skip)))
          all_goals (go_ret; exact ⟨rfl, (by repeat (first | exact Bel.refl _ | assumption | apply Bel.alloc | apply Bel.drewN | apply Bel.drew | (refine Bel.trans ?_ (by assumption))))⟩)
        · generalize hU0 : unpack (at_ m 8) = U at *
          obtain ⟨t, k, n⟩ := U
          simp only at r0 r1 r2 r3 r4 r5
          clear hU0 h1
          rw [h49] at *
          by_cases htl : t < ts.length
          · go_enter Tryz.func31, Tryz.ntmps31
            go_wp2_with (first | (go_at_call 69; refine (hP _ (RdT.bel HT.out (by repeat (first | exact Bel.refl _ | assumption | apply Bel.alloc | apply Bel.drewN | apply Bel.drew | (refine Bel.trans ?_ (by assumption)))))).mono ?_; rintro e w' ⟨rfl, hb⟩; have hB : Bel w w' := (by repeat (first | exact Bel.refl _ | assumption | apply Bel.alloc | apply Bel.drewN | apply Bel.drew | (refine Bel.trans ?_ (by assumption)))); obtain ⟨hc0, hf0⟩ := hB.rd; obtain ⟨hc, hf⟩ := hb.rd; have hz := hb.size; (try simp at hz); (first | (have hz0 : w.heap.size < w'.heap.size := by omega) | skip); (first | (have hz1 : w.heap.size + 1 < w'.heap.size := by omega) | skip)) | (go_at_call 36; refine (hU _).mono ?_; rintro e w' ⟨rfl, rfl⟩) | (go_at_call 70; (with_reducible refine (hV1 _ ?_).mono ?_); (exact HA8.out.bel (by repeat (first | exact Bel.refl _ | assumption | apply Bel.alloc | apply Bel.drewN | apply Bel.drew | (refine Bel.trans ?_ (by assumption))))); rintro e w' ⟨rfl, hb⟩; have hB : Bel w w' := (by repeat (first | exact Bel.refl _ | assumption | apply Bel.alloc | apply Bel.drewN | apply Bel.drew | (refine Bel.trans ?_ (by assumption)))); obtain ⟨hc0, hf0⟩ := hB.rd; obtain ⟨hc, hf⟩ := hb.rd; have hz := hb.size; (try simp at hz); (first | (have hz0 : w.heap.size < w'.heap.size := by omega) | skip); (first | (have hz1 : w.heap.size + 1 < w'.heap.size := by omega) | skip)))
            all_goals (go_ret; exact ⟨rfl, (by repeat (first | exact Bel.refl _ | assumption | apply Bel.alloc | apply Bel.drewN | apply Bel.drew | (refine Bel.trans ?_ (by assumption))))⟩)
          · go_enter Tryz.func31, Tryz.ntmps31
            go_wp2_with (first | (go_at_call 69; refine (hP _ (RdT.bel HT.out (by repeat (first | exact Bel.refl _ | assumption | apply Bel.alloc | apply Bel.drewN | apply Bel.drew | (refine Bel.trans ?_ (by assumption)))))).mono ?_; rintro e w' ⟨rfl, hb⟩; have hB : Bel w w' := (by repeat (first | exact Bel.refl _ | assumption | apply Bel.alloc | apply Bel.drewN | apply Bel.drew | (refine Bel.trans ?_ (by assumption)))); obtain ⟨hc0, hf0⟩ := hB.rd; obtain ⟨hc, hf⟩ := hb.rd; have hz := hb.size; (try simp at hz); (first | (have hz0 : w.heap.size < w'.heap.size := by omega) | skip); (first | (have hz1 : w.heap.size + 1 < w'.heap.size := by omega) | skip)) | (go_at_call 36; refine (hU _).mono ?_; rintro e w' ⟨rfl, rfl⟩) | (go_at_call 70; (with_reducible refine (hV1 _ ?_).mono ?_); (exact HA8.out.bel (by repeat (first | exact Bel.refl _ | assumption | apply Bel.alloc | apply Bel.drewN | apply Bel.drew | (refine Bel.trans ?_ (by assumption))))); rintro e w' ⟨rfl, hb⟩; have hB : Bel w w' := (by repeat (first | exact Bel.refl _ | assumption | apply Bel.alloc | apply Bel.drewN | apply Bel.drew | (refine Bel.trans ?_ (by assumption)))); obtain ⟨hc0, hf0⟩ := hB.rd; obtain ⟨hc, hf⟩ := hb.rd; have hz := hb.size; (try simp at hz); (first | (have hz0 : w.heap.size < w'.heap.size := by omega) | skip); (first | (have hz1 : w.heap.size + 1 < w'.heap.size := by omega) | skip)))
            all_goals (go_ret; exact ⟨rfl, (by repeat (first | exact Bel.refl _ | assumption | apply Bel.alloc | apply Bel.drewN | apply Bel.drew | (refine Bel.trans ?_ (by assumption))))⟩)
      | true =>
        rw [h3] at hV1
        have HV := Hd.mk h3
        clear h3
        rcases unpack_range (at_ m 8) with hr | ⟨r0, r1, r2, r3, r4, r5⟩
        · rw [mem_noT (by rw [hr]; intro h; exact absurd h.1 (by decide))]
          rw [hr] at hU
          clear hr h1
          rw [h49] at *
          go_enter Tryz.func31, Tryz.ntmps31
          go_wp2_with (first | (go_at_call 69; refine (hP _ (RdT.bel HT.out (by repeat (first | exact Bel.refl _ | assumption | apply Bel.alloc | apply Bel.drewN | apply Bel.drew | (refine Bel.trans ?_ (by assumption)))))).mono ?_; rintro e w' ⟨rfl, hb⟩; have hB : Bel w w' := (by repeat (first | exact Bel.refl _ | assumption | apply Bel.alloc | apply Bel.drewN | apply Bel.drew | (refine Bel.trans ?_ (by assumption)))); obtain ⟨hc0, hf0⟩ := hB.rd; obtain ⟨hc, hf⟩ := hb.rd; have hz := hb.size; (try simp at hz); (first | (have hz0 : w.heap.size < w'.heap.size := by omega) | skip); (first | (have hz1 : w.heap.size + 1 < w'.heap.size := by omega) | skip)) | (go_at_call 36; refine (hU _).mono ?_; rintro e w' ⟨rfl, rfl⟩) | (go_at_call 70; (with_reducible refine (hV1 _ ?_).mono ?_); (exact HA8.out.bel (by repeat (first | exact Bel.refl _ | assumption | apply Bel.alloc | apply Bel.drewN | apply Bel.drew | (refine Bel.trans ?_ (by assumption))))); rintro e w' ⟨rfl, hb⟩; have hB : Bel w w' := (by repeat (first | exact Bel.refl _ | assumption | apply Bel.alloc | apply Bel.drewN | apply Bel.drew | (refine Bel.trans ?_ (by assumption)))); obtain ⟨hc0, hf0⟩ := hB.rd; obtain ⟨hc, hf⟩ := hb.rd; have hz := hb.size; (try simp at hz); (first | (have hz0 : w.heap.size < w'.heap.size := by omega) | skip); (first | (have hz1 : w.heap.size + 1 < w'.heap.size := by omega) | skip)))
          all_goals (go_ret; exact ⟨rfl, (by repeat (first | exact Bel.refl _ | assumption | apply Bel.alloc | apply Bel.drewN | apply Bel.drew | (refine Bel.trans ?_ (by assumption))))⟩)
        · generalize hU0 : unpack (at_ m 8) = U at *
          obtain ⟨t, k, n⟩ := U
          simp only at r0 r1 r2 r3 r4 r5
          obtain ⟨n, rfl⟩ := Int.eq_ofNat_of_zero_le r4
          obtain ⟨k, rfl⟩ := Int.eq_ofNat_of_zero_le r2
          by_cases htl : t < ts.length
          · have hl : ((m.drop 25).take n).length = n := by rw [List.length_take, List.length_drop]; omega
            have hV2 := fun W h => l09Values_any (some ⟨b, off + 25, none⟩) ((m.drop 25).take n) (c - 25) W h
            rw [hl] at hV2
            have HAB : Hd (RdI w (some ⟨b, off + 25, none⟩) ((m.drop 25).take n)) := ⟨by have := HA.out.cut 25 n (by omega); rwa [Option.map_some, add_addr] at this⟩
            have n24 : n ≤ 24 := by omega
            have k8 : k ≤ 8 := by omega
            clear hl
            cases h5 : ((m.drop 25).take n).all vOk with
            | false =>
              rw [mem_noB (by rw [hU0]; exact h5)]
              rw [h5] at hV2
              clear hU0 h1 h5
              rw [h49] at *
              go_enter Tryz.func31, Tryz.ntmps31
              go_wp2_with (first | (go_at_call 69; refine (hP _ (RdT.bel HT.out (by repeat (first | exact Bel.refl _ | assumption | apply Bel.alloc | apply Bel.drewN | apply Bel.drew | (refine Bel.trans ?_ (by assumption)))))).mono ?_; rintro e w' ⟨rfl, hb⟩; have hB : Bel w w' := (by repeat (first | exact Bel.refl _ | assumption | apply Bel.alloc | apply Bel.drewN | apply Bel.drew | (refine Bel.trans ?_ (by assumption)))); obtain ⟨hc0, hf0⟩ := hB.rd; obtain ⟨hc, hf⟩ := hb.rd; have hz := hb.size; (try simp at hz); (first | (have hz0 : w.heap.size < w'.heap.size := by omega) | skip); (first | (have hz1 : w.heap.size + 1 < w'.heap.size := by omega) | skip)) | (go_at_call 36; refine (hU _).mono ?_; rintro e w' ⟨rfl, rfl⟩) | (go_at_call 70; (with_reducible refine (hV1 _ ?_).mono ?_); (exact HA8.out.bel (by repeat (first | exact Bel.refl _ | assumption | apply Bel.alloc | apply Bel.drewN | apply Bel.drew | (refine Bel.trans ?_ (by assumption))))); rintro e w' ⟨rfl, hb⟩; have hB : Bel w w' := (by repeat (first | exact Bel.refl _ | assumption | apply Bel.alloc | apply Bel.drewN | apply Bel.drew | (refine Bel.trans ?_ (by assumption)))); obtain ⟨hc0, hf0⟩ := hB.rd; obtain ⟨hc, hf⟩ := hb.rd; have hz := hb.size; (try simp at hz); (first | (have hz0 : w.heap.size < w'.heap.size := by omega) | skip); (first | (have hz1 : w.heap.size + 1 < w'.heap.size := by omega) | skip)) | (go_at_call 70; (with_reducible refine (hV2 _ ?_).mono ?_); (exact HAB.out.bel (by repeat (first | exact Bel.refl _ | assumption | apply Bel.alloc | apply Bel.drewN | apply Bel.drew | (refine Bel.trans ?_ (by assumption))))); rintro e w' ⟨rfl, hb⟩; have hB : Bel w w' := (by repeat (first | exact Bel.refl _ | assumption | apply Bel.alloc | apply Bel.drewN | apply Bel.drew | (refine Bel.trans ?_ (by assumption)))); obtain ⟨hc0, hf0⟩ := hB.rd; obtain ⟨hc, hf⟩ := hb.rd; have hz := hb.size; (try simp at hz); (first | (have hz0 : w.heap.size < w'.heap.size := by omega) | skip); (first | (have hz1 : w.heap.size + 1 < w'.heap.size := by omega) | skip)))
              all_goals (go_ret; exact ⟨rfl, (by repeat (first | exact Bel.refl _ | assumption | apply Bel.alloc | apply Bel.drewN | apply Bel.drew | (refine Bel.trans ?_ (by assumption))))⟩)
            | true =>
              have hres := Hd.mk (mem_rest HP.out HL.out HV.out (by rw [hU0]; exact ⟨r0, htl⟩) (by rw [hU0]; exact h5))
              rw [h5] at hV2
              rw [hU0] at hres
              clear hU0 h1 h5
              rw [h49]
              clear h49 e49
              go_enter Tryz.func31, Tryz.ntmps31
              go_wp2_with (first | (go_at_call 69; refine (hP _ (RdT.bel HT.out (by repeat (first | exact Bel.refl _ | assumption | apply Bel.alloc | apply Bel.drewN | apply Bel.drew | (refine Bel.trans ?_ (by assumption)))))).mono ?_; rintro e w' ⟨rfl, hb⟩; have hB : Bel w w' := (by repeat (first | exact Bel.refl _ | assumption | apply Bel.alloc | apply Bel.drewN | apply Bel.drew | (refine Bel.trans ?_ (by assumption)))); obtain ⟨hc0, hf0⟩ := hB.rd; obtain ⟨hc, hf⟩ := hb.rd; have hz := hb.size; (try simp at hz); (first | (have hz0 : w.heap.size < w'.heap.size := by omega) | skip); (first | (have hz1 : w.heap.size + 1 < w'.heap.size := by omega) | skip)) | (go_at_call 36; refine (hU _).mono ?_; rintro e w' ⟨rfl, rfl⟩) | (go_at_call 70; (with_reducible refine (hV1 _ ?_).mono ?_); (exact HA8.out.bel (by repeat (first | exact Bel.refl _ | assumption | apply Bel.alloc | apply Bel.drewN | apply Bel.drew | (refine Bel.trans ?_ (by assumption))))); rintro e w' ⟨rfl, hb⟩; have hB : Bel w w' := (by repeat (first | exact Bel.refl _ | assumption | apply Bel.alloc | apply Bel.drewN | apply Bel.drew | (refine Bel.trans ?_ (by assumption)))); obtain ⟨hc0, hf0⟩ := hB.rd; obtain ⟨hc, hf⟩ := hb.rd; have hz := hb.size; (try simp at hz); (first | (have hz0 : w.heap.size < w'.heap.size := by omega) | skip); (first | (have hz1 : w.heap.size + 1 < w'.heap.size := by omega) | skip)) | (go_at_call 70; (with_reducible refine (hV2 _ ?_).mono ?_); (exact HAB.out.bel (by repeat (first | exact Bel.refl _ | assumption | apply Bel.alloc | apply Bel.drewN | apply Bel.drew | (refine Bel.trans ?_ (by assumption))))); rintro e w' ⟨rfl, hb⟩; have hB : Bel w w' := (by repeat (first | exact Bel.refl _ | assumption | apply Bel.alloc | apply Bel.drewN | apply Bel.drew | (refine Bel.trans ?_ (by assumption)))); obtain ⟨hc0, hf0⟩ := hB.rd; obtain ⟨hc, hf⟩ := hb.rd; have hz := hb.size; (try simp at hz); (first | (have hz0 : w.heap.size < w'.heap.size := by omega) | skip); (first | (have hz1 : w.heap.size + 1 < w'.heap.size := by omega) | skip)))
              have hB9 := hB
              go_loopw [8] (fun i wr => ∃ j : Nat, j ≤ k ∧ i = .int .i64 j ∧ Hd (logOk m j = true) ∧ Bel w wr) (fun i _ => k - (intOf i).toNat)
              case atStart => exact ⟨0, Nat.zero_le _, rfl, ⟨rfl⟩, hB9⟩
              case round =>
                obtain ⟨j, hj, rfl, HT2, HBL⟩ := hrel
                by_cases hlt : j < k
                · have f1 := (HA.out.bel HBL).atE (9 + 2 * j) (by have := HL.out; omega)
                  have f2 := (HA.out.bel HBL).atE (9 + 2 * j + 1) (by have := HL.out; omega)
                  have hin := (fun x => l01In_any x 0 7) (at_ m (9 + 2 * j))
                  have hva := sIsValue_any (at_ m (9 + 2 * j + 1))
                  cases i1 : inB (at_ m (9 + 2 * j)) 0 7 with
                  | true =>
                    rw [i1] at hin
                    replace i1 := Hd.mk i1
                    cases i2 : vOk (at_ m (9 + 2 * j + 1)) with
                    | true =>
                      rw [i2] at hva
                      replace i2 := Hd.mk i2
                      go_wp2_with (first | (go_at_call 71; refine (hin _).mono ?_; rintro e w' ⟨rfl, rfl⟩) | (go_at_call 72; refine (hva _).mono ?_; rintro e w' ⟨rfl, rfl⟩))
                      go_roundw
                      case rel => exact ⟨j + 1, by omega, by go_num, ⟨log_succ HT2.out i1.out i2.out⟩, (by repeat (first | exact Bel.refl _ | assumption | apply Bel.alloc | apply Bel.drewN | apply Bel.drew | (refine Bel.trans ?_ (by assumption))))⟩
                      case measure => simp [intOf]; omega
                    | false =>
                      rw [i2] at hva
                      replace i2 := Hd.mk i2
                      go_wp2_with (first | (go_at_call 71; refine (hin _).mono ?_; rintro e w' ⟨rfl, rfl⟩) | (go_at_call 72; refine (hva _).mono ?_; rintro e w' ⟨rfl, rfl⟩))
                      go_ret
                      exact ⟨retB (by rw [hres.out]; exact (log_no (by simpa using hlt) (by rw [i2.out, Bool.and_false])).symm), (by repeat (first | exact Bel.refl _ | assumption | apply Bel.alloc | apply Bel.drewN | apply Bel.drew | (refine Bel.trans ?_ (by assumption))))⟩
                  | false =>
                    rw [i1] at hin
                    replace i1 := Hd.mk i1
                    go_wp2_with (first | (go_at_call 71; refine (hin _).mono ?_; rintro e w' ⟨rfl, rfl⟩) | (go_at_call 72; refine (hva _).mono ?_; rintro e w' ⟨rfl, rfl⟩))
                    go_ret
                    exact ⟨retB (by rw [hres.out]; exact (log_no (by simpa using hlt) (by rw [i1.out, Bool.false_and])).symm), (by repeat (first | exact Bel.refl _ | assumption | apply Bel.alloc | apply Bel.drewN | apply Bel.drew | (refine Bel.trans ?_ (by assumption))))⟩
                · have hjk : j = k := by omega
                  subst hjk
                  go_wp2
                  go_ret
                  exact ⟨retB (by rw [hres.out]; exact HT2.out.symm), (by repeat (first | exact Bel.refl _ | assumption | apply Bel.alloc | apply Bel.drewN | apply Bel.drew | (refine Bel.trans ?_ (by assumption))))⟩
          · rw [mem_noT (by rw [hU0]; intro h; exact htl h.2)]
            clear hU0 h1
            rw [h49] at *
            go_enter Tryz.func31, Tryz.ntmps31
            go_wp2_with (first | (go_at_call 69; refine (hP _ (RdT.bel HT.out (by repeat (first | exact Bel.refl _ | assumption | apply Bel.alloc | apply Bel.drewN | apply Bel.drew | (refine Bel.trans ?_ (by assumption)))))).mono ?_; rintro e w' ⟨rfl, hb⟩; have hB : Bel w w' := (by repeat (first | exact Bel.refl _ | assumption | apply Bel.alloc | apply Bel.drewN | apply Bel.drew | (refine Bel.trans ?_ (by assumption)))); obtain ⟨hc0, hf0⟩ := hB.rd; obtain ⟨hc, hf⟩ := hb.rd; have hz := hb.size; (try simp at hz); (first | (have hz0 : w.heap.size < w'.heap.size := by omega) | skip); (first | (have hz1 : w.heap.size + 1 < w'.heap.size := by omega) | skip)) | (go_at_call 36; refine (hU _).mono ?_; rintro e w' ⟨rfl, rfl⟩) | (go_at_call 70; (with_reducible refine (hV1 _ ?_).mono ?_); (exact HA8.out.bel (by repeat (first | exact Bel.refl _ | assumption | apply Bel.alloc | apply Bel.drewN | apply Bel.drew | (refine Bel.trans ?_ (by assumption))))); rintro e w' ⟨rfl, hb⟩; have hB : Bel w w' := (by repeat (first | exact Bel.refl _ | assumption | apply Bel.alloc | apply Bel.drewN | apply Bel.drew | (refine Bel.trans ?_ (by assumption)))); obtain ⟨hc0, hf0⟩ := hB.rd; obtain ⟨hc, hf⟩ := hb.rd; have hz := hb.size; (try simp at hz); (first | (have hz0 : w.heap.size < w'.heap.size := by omega) | skip); (first | (have hz1 : w.heap.size + 1 < w'.heap.size := by omega) | skip)))
            all_goals (go_ret; exact ⟨rfl, (by repeat (first | exact Bel.refl _ | assumption | apply Bel.alloc | apply Bel.drewN | apply Bel.drew | (refine Bel.trans ?_ (by assumption))))⟩)
    · rw [mem_noL h49]
      have e49 : ((m.length : Int) != 49) = true := by simp; omega
      clear h49 h1
      go_enter Tryz.func31, Tryz.ntmps31
      go_wp2_with (first | (go_at_call 69; refine (hP _ (RdT.bel HT.out (by repeat (first | exact Bel.refl _ | assumption | apply Bel.alloc | apply Bel.drewN | apply Bel.drew | (refine Bel.trans ?_ (by assumption)))))).mono ?_; rintro e w' ⟨rfl, hb⟩; have hB : Bel w w' := (by repeat (first | exact Bel.refl _ | assumption | apply Bel.alloc | apply Bel.drewN | apply Bel.drew | (refine Bel.trans ?_ (by assumption)))); obtain ⟨hc0, hf0⟩ := hB.rd; obtain ⟨hc, hf⟩ := hb.rd; have hz := hb.size; (try simp at hz); (first | (have hz0 : w.heap.size < w'.heap.size := by omega) | skip); (first | (have hz1 : w.heap.size + 1 < w'.heap.size := by omega) | skip)))
      all_goals (go_ret; exact ⟨rfl, (by repeat (first | exact Bel.refl _ | assumption | apply Bel.alloc | apply Bel.drewN | apply Bel.drew | (refine Bel.trans ?_ (by assumption))))⟩)
end Go.Proofs.YtgodbldchaonpaaGreat

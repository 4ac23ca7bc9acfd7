/- Copies of rows: slices.Clone, MemSent, prefixes. No condition. -/
import Derived.Test.YtgodbldchaonpaaGreatH
import Derived.Test.YtgodbldchaonpaaGreatO
import Derived.WalkSpells
namespace Go.Proofs.YtgodbldchaonpaaGreat
open Go.RowKit
set_option linter.unusedVariables false
/-- A new row that reads as xs. -/
def Mk {α : Type} (enc : α → List Value) (ty : TypeId) (sz : Nat) (xs : List α) (w : World) (e : Ending) (w' : World) : Prop := ∃ v, e = .returned v ∧ w'.ownsRow w.heap.size ty sz v xs.length (xs.flatMap enc) ∧ Bel w w'
theorem infoI : (Tryz.prog.info? 3).map (fun i => (i.zero, i.size, i.bytes)) = some (some (.int .i64 0), 1, 8) := by kernel_rfl
set_option maxHeartbeats 1000000 in
theorem CloneI_any (A : Option Addr) (xs : List Int) (c : Nat) (w : World) (ha : RdI w A xs) : Calls Tryz.prog 91 #[.slice A xs.length c] w (Mk encI 3 1 xs w) := by
  have hlen := ha.len
  have HA := Hd.mk ha
  cases A with
  | none =>
    have hx : xs = [] := by
      cases xs with
      | nil => rfl
      | cons x r => obtain ⟨_, _, _, h, _⟩ := ha.2 0 (by simp); cases h
    subst hx
    clear ha
    have h1 := @Lib.run_eql_slice_nil
    go_enter Tryz.func91, Tryz.ntmps91
    go_wp2
    go_ret
    exact ⟨_, rfl, own_nil _ _ _ _, Bel.refl _⟩
  | some a =>
    clear ha
    have h1 := @Lib.run_eql_slice_nil
    go_enter Tryz.func91, Tryz.ntmps91
    go_wp2_with (at_builtin; refine app_row encI 1 encI_ok (by decide) w.heap.size rfl _ _ 25 3 (.int .i64 0) 8 rfl Tryz.underlying25 infoI rfl (by decide) _ [] xs _ _ rfl rfl (own_lit0 w w.heap.size _ _ (Nat.le_refl _)) (HA.out.bel (by repeat (first | exact Bel.refl _ | assumption | apply Bel.alloc | apply Bel.drewN | apply Bel.drew | (refine Bel.trans ?_ (by assumption))))) (by simp) (by simp only [List.length_nil]; omega) ?_; intro v1 w1 hown hg hat; replace hown := Hd.mk hown; replace hg := Hd.mk hg; clear hat)
    go_ret
    exact ⟨_, rfl, hown.out, Bel.of_grown ((Bel.refl w).alloc _) hg.out (by intro k hk; cases hk; exact Nat.le_refl _)⟩
/-- A part of a slice that is read. -/
theorem RdF.cut {α : Type} {enc : α → List Value} {w : World} {A : Option Addr} {xs : List α} (h : RdF enc 1 w A xs) (lo n : Nat) (hn : lo + n ≤ xs.length) : RdF enc 1 w (A.map (·.add lo)) ((xs.drop lo).take n) := by
  refine ⟨by rw [List.length_take, List.length_drop]; have := h.1; omega, fun j hj => ?_⟩
  rw [List.length_take, List.length_drop] at hj
  obtain ⟨b, off, cs, hA, hl, hr, hc⟩ := h.2 (lo + j) (by omega)
  refine ⟨b, off + lo, cs, by rw [hA, Option.map_some, add_addr], hl, ?_, fun i hi => ?_⟩
  · rw [hr]; congr 1; rw [List.getElem_take, List.getElem_drop]
  · have := hc i hi
    rw [← this]; congr 2; omega
theorem RdF.take {α : Type} {enc : α → List Value} {sz : Nat} {w : World} {A : Option Addr} {xs : List α} (h : RdF enc sz w A xs) (n : Nat) : RdF enc sz w A (xs.take n) := by
  refine ⟨by rw [List.length_take]; have := h.1; omega, fun j hj => ?_⟩
  rw [List.length_take] at hj
  obtain ⟨b, off, cs, hA, hl, hr, hc⟩ := h.2 j (by omega)
  exact ⟨b, off, cs, hA, hl, by rw [hr]; congr 1; rw [List.getElem_take], hc⟩
def at_ (m : List Int) (i : Nat) : Int := m.getD i 0
theorem RdF.atD {w : World} {A : Option Addr} {xs : List Int} (h : RdI w A xs) (j : Nat) (hj : j < xs.length) : ∃ b off, A = some ⟨b, off, none⟩ ∧ w.cell? ⟨b, off + j, none⟩ = some (.int .i64 (at_ xs j)) := by
  obtain ⟨b, off, hA, hc⟩ := h.atI j hj
  exact ⟨b, off, hA, by rw [hc, at_, List.getD_eq_getElem?_getD, List.getElem?_eq_getElem hj]; rfl⟩
theorem unpack_range (x : Int) : unpack x = (-1, -1, -1) ∨ (0 ≤ (unpack x).1 ∧ (unpack x).1 ≤ 5 ∧ 0 ≤ (unpack x).2.1 ∧ (unpack x).2.1 ≤ 8 ∧ 0 ≤ (unpack x).2.2 ∧ (unpack x).2.2 ≤ 24) := by
  unfold unpack
  split
  · rename_i h
    refine .inr ?_
    have h2 := h.2
    unfold pack at h2
    split at h2
    · rename_i hc
      simp only [inB, Bool.and_eq_true, decide_eq_true_eq] at hc
      exact ⟨hc.1.1, hc.1.2, hc.2.1.1, hc.2.1.2, hc.2.2.1, hc.2.2.2⟩
    · omega
  · exact .inl rfl
/-- What has been sent. -/
def sentOf (m : List Int) : List Int := if m.length = 49 ∧ 0 ≤ (unpack (at_ m 8)).2.2 then (m.drop 25).take (unpack (at_ m 8)).2.2.toNat else []
set_option maxHeartbeats 1000000 in
theorem MemSent_any (A : Option Addr) (m : List Int) (c : Nat) (w : World) (hc : m.length ≤ c) (ha : RdI w A m) : Calls Tryz.prog 144 #[.slice A m.length c] w (Mk encI 3 1 (sentOf m) w) := by
  by_cases h49 : m.length = 49
  · obtain ⟨b, off, rfl, c8⟩ := ha.atD 8 (by omega)
    have HA := Hd.mk ha
    have HL := Hd.mk h49
    clear ha
    rw [h49] at hc
    have e49 : ((m.length : Int) != 49) = false := by rw [h49]; rfl
    have hu := UnpackControl_any (at_ m 8)
    rcases unpack_range (at_ m 8) with hr | ⟨r0, r1, r2, r3, r4, r5⟩
    · have hs : sentOf m = [] := by unfold sentOf; rw [if_neg]; rw [hr]; intro h; exact absurd h.2 (by decide)
      rw [hs, h49]
      rw [hr] at hu
      clear h49 e49 hr hs
      go_enter Tryz.func144, Tryz.ntmps144
      go_wp2_with (go_at_call 45; refine (hu _).mono ?_; rintro e w' ⟨rfl, rfl⟩)
      go_ret
      exact ⟨_, rfl, own_nil _ _ _ _, Bel.refl _⟩
    · generalize hU : unpack (at_ m 8) = U at *
      obtain ⟨t, k, n⟩ := U
      simp only at r0 r1 r2 r3 r4 r5
      obtain ⟨n, rfl⟩ := Int.eq_ofNat_of_zero_le r4
      have hs : sentOf m = (m.drop 25).take n := by unfold sentOf; rw [hU, if_pos ⟨h49, r4⟩]; rfl
      have hl : ((m.drop 25).take n).length = n := by rw [List.length_take, List.length_drop]; omega
      have hcl := fun W => CloneI_any (some ⟨b, off + 25, none⟩) ((m.drop 25).take n) (c - 25) W
      rw [hl] at hcl
      rw [hs, h49]
      have HR : Hd (RdI w (some ⟨b, off + 25, none⟩) ((m.drop 25).take n)) := ⟨by have := HA.out.cut 25 n (by omega); rwa [Option.map_some, add_addr] at this⟩
      clear h49 e49 hs hU
      have n24 : n ≤ 24 := by omega
      go_enter Tryz.func144, Tryz.ntmps144
      go_wp2_with (first | (go_at_call 45; refine (hu _).mono ?_; rintro e w' ⟨rfl, rfl⟩) | (go_at_call 91; refine (hcl _ HR.out).mono ?_; rintro e w' ⟨v, rfl, hown, hb⟩; replace hown := Hd.mk hown))
      go_ret
      exact ⟨_, rfl, hown.out, hb⟩
  · have e49 : ((m.length : Int) != 49) = true := by simp; omega
    have hs : sentOf m = [] := by unfold sentOf; rw [if_neg (by omega)]
    rw [hs]
    clear hs h49
    go_enter Tryz.func144, Tryz.ntmps144
    go_wp2
    go_ret
    exact ⟨_, rfl, own_nil _ _ _ _, Bel.refl _⟩
end Go.Proofs.YtgodbldchaonpaaGreat

/- The laws' own marks on rows of numbers. No condition. -/
import Derived.Test.YtgodbldchaonpaaGreatY
namespace Go.Proofs.YtgodbldchaonpaaGreat
open Go.RowKit
set_option linter.unusedVariables false
set_option maxRecDepth 100000
/-- Only the blocks in S have changed. -/
structure Chg (S : Nat → Prop) (w w' : World) : Prop where
  os : w'.os = w.os
  tape : w'.tape = w.tape
  output : w'.output = w.output
  size : w.heap.size ≤ w'.heap.size
  block : ∀ k, k < w.heap.size → ¬ S k → w'.heap[k]? = w.heap[k]?
theorem Chg.refl (S : Nat → Prop) (w : World) : Chg S w w := ⟨rfl, rfl, rfl, Nat.le_refl _, fun _ _ _ => rfl⟩
theorem Chg.trans {S : Nat → Prop} {a b c : World} (h : Chg S a b) (k : Chg S b c) : Chg S a c :=
  ⟨k.os.trans h.os, k.tape.trans h.tape, k.output.trans h.output, Nat.le_trans h.size k.size, fun i hi hs => (k.block i (Nat.lt_of_lt_of_le hi h.size) hs).trans (h.block i hi hs)⟩
theorem Chg.mono {S T : Nat → Prop} {a b : World} (h : Chg S a b) (hs : ∀ k, S k → T k) : Chg T a b := ⟨h.os, h.tape, h.output, h.size, fun k hk hn => h.block k hk (fun e => hn (hs k e))⟩
theorem Chg.bel {S : Nat → Prop} {a b c : World} (h : Chg S a b) (k : Bel b c) : Chg S a c := h.trans ⟨k.out.os, k.out.tape, k.out.output, k.out.size, fun i hi _ => k.out.block i hi⟩
theorem Chg.alloc {S : Nat → Prop} {a b : World} (h : Chg S a b) (o : Obj) : Chg S a (b.alloc o) := h.bel ((Bel.refl b).alloc o)
theorem Chg.set {S : Nat → Prop} {a b : World} (h : Chg S a b) {g j : Nat} (u : Value) (hg : S g) : Chg S a (b.setCell ⟨g, j, none⟩ u) :=
  h.trans ⟨rfl, rfl, rfl, by simp [World.setCell], fun k _ hn => Below.heap_setCell _ _ _ _ (fun e => hn (by rw [show k = g from e]; exact hg))⟩
def upto (k : Int) (n : Nat) : List Int := (List.range n).map (fun (i : Nat) => k + (i : Int))
theorem upto_len (k : Int) (n : Nat) : (upto k n).length = n := by simp [upto]
theorem upto_get (k : Int) (n i : Nat) (h : i < (upto k n).length) : (upto k n)[i] = k + i := by simp [upto]
theorem own_some {w : World} {lo : Nat} {e : TypeId} {sz n c : Nat} {A : Option Addr} {cs : List Value} (h : w.ownsRow lo e sz (.slice A n c) n cs) (h0 : 0 < n) : ∃ g, A = some ⟨g, 0, none⟩ := by
  rcases h.2 with ⟨_, h1⟩ | ⟨g, cap, cur, e, _⟩
  · omega
  · cases e; exact ⟨g, rfl⟩
def Mrk (v : Value) (k : Int) (n : Nat) (P : World → Prop) (S : Nat → Prop) (w : World) (e : Ending) (w' : World) : Prop := e = .returned (.int .i64 (k + n)) ∧ P w' ∧ Chg S w w'
set_option maxHeartbeats 2000000 in
theorem markIntS_any (lo : Nat) (A : Option Addr) (xs : List Int) (c : Nat) (k : Int) (w : World) (ho : w.ownsRow lo 3 1 (.slice A xs.length c) xs.length (xs.flatMap encI)) (h0 : 0 ≤ k) (hk : k + xs.length ≤ 4611686018427387904) (hl : xs.length ≤ 17592186044416) :
    Calls Tryz.prog 16 #[.slice A xs.length c, .int .i64 k] w (Mrk (.slice A xs.length c) k xs.length (fun w' => w'.ownsRow lo 3 1 (.slice A xs.length c) xs.length ((upto k xs.length).flatMap encI)) (fun b => (Value.slice A xs.length c).ownBlock = some b) w) := by
  have HO0 := Hd.mk ho
  clear ho
  go_enter Tryz.func16, Tryz.ntmps16
  go_wp2
  go_loopw [1, 5] (fun x i wr => ∃ j : Nat, j ≤ xs.length ∧ i = .int .i64 j ∧ x = .int .i64 (k + j) ∧ Chg (fun b => (Value.slice A xs.length c).ownBlock = some b) w wr ∧ Hd (∃ cells, wr.ownsRow lo 3 1 (.slice A xs.length c) xs.length cells ∧ Filled encI 1 (upto k xs.length) cells j)) (fun _ i _ => xs.length - (intOf i).toNat)
  case atStart => exact ⟨0, Nat.zero_le _, rfl, by simp, Chg.refl _ _, ⟨_, HO0.out, filled_zero _ _ _ _⟩⟩
  case round =>
    obtain ⟨j, hj, rfl, rfl, HC, ⟨cells, hown, hfil⟩⟩ := hrel
    have HO := Hd.mk hown
    have HF := Hd.mk hfil
    clear hown hfil
    by_cases hlt : j < xs.length
    · obtain ⟨g, rfl⟩ := own_some HO.out (by omega)
      obtain ⟨u0, hcell⟩ := own_cells HO.out j (by omega)
      have hfz := HO.out.frozenAt j
      have hcl : j < cells.length := by rw [HO.out.1]; omega
      go_wp2
      go_roundw
      case rel =>
        refine ⟨j + 1, by omega, by go_num, by go_num, HC.set _ rfl, ⟨_, (HO.out.stored j _).1, filled_succ HF.out (by rw [upto_len]; exact hlt) ?_ ?_⟩⟩
        · intro i hi
          obtain rfl : i = 0 := by omega
          simp [encI, List.getElem?_set, hcl, upto_get]
        · intro p hp
          rw [List.getElem?_set, if_neg (by omega)]
      case measure => simp [intOf]; omega
    · have e : j = xs.length := by omega
      have hfin := Hd.mk (filled_all encI_ok (by decide) (xs := upto k xs.length) (by rw [upto_len]; exact e ▸ HF.out) (by rw [upto_len]; exact HO.out.1))
      go_wp2
      go_ret
      exact ⟨retI (by rw [e]), (by show World.ownsRow _ _ _ _ _ _ _; rw [← hfin.out]; exact HO.out), HC⟩
set_option maxHeartbeats 2000000 in
theorem heldIntS_any (A : Option Addr) (n : Nat) (c : Nat) (k : Int) (w : World) (ha : RdI w A (upto k n)) (h0 : 0 ≤ k) (hk : k + n ≤ 4611686018427387904) (hl : n ≤ 17592186044416) :
    Calls Tryz.prog 18 #[.slice A n c, .int .i64 k] w (Bl (.int .i64 (k + n)) w) := by
  have HA := Hd.mk ha
  clear ha
  go_enter Tryz.func18, Tryz.ntmps18
  go_wp2
  go_loopw [1, 5] (fun x i wr => ∃ j : Nat, j ≤ n ∧ i = .int .i64 j ∧ x = .int .i64 (k + j) ∧ Bel w wr) (fun _ i _ => n - (intOf i).toNat)
  case atStart => exact ⟨0, Nat.zero_le _, rfl, by simp, Bel.refl _⟩
  case round =>
    obtain ⟨j, hj, rfl, rfl, HBL⟩ := hrel
    by_cases hlt : j < n
    · obtain ⟨b, off, rfl, c0⟩ := (HA.out.bel HBL).atI j (by rw [upto_len]; exact hlt)
      rw [upto_get] at c0
      go_wp2
      go_roundw
      case rel => exact ⟨j + 1, by omega, by go_num, by go_num, HBL⟩
      case measure => simp [intOf]; omega
    · have e : j = n := by omega
      subst e
      go_wp2
      go_ret
      exact ⟨rfl, HBL⟩
end Go.Proofs.YtgodbldchaonpaaGreat

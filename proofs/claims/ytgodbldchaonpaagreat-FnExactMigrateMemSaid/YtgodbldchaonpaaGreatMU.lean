/- The laws' own marks on rows of tasks and on programs. No condition. -/
import Derived.Test.YtgodbldchaonpaaGreatMT
namespace Go.Proofs.YtgodbldchaonpaaGreat
open Go.RowKit
set_option linter.unusedVariables false
set_option maxRecDepth 100000
/-- The blocks of a tree of tasks. -/
def TreeB (v : Value) (ps : List (Value × Tk)) (b : Nat) : Prop := v.ownBlock = some b ∨ ∃ p ∈ ps, p.1.ownBlock = some b
theorem OwT.tree {lo : Nat} {w : World} {v : Value} {ps : List (Value × Tk)} (h : OwT lo w v ps) (b : Nat) (hb : TreeB v ps b) : lo ≤ b ∧ b < w.heap.size := by
  rcases hb with hb | ⟨p, hp, hb⟩
  · exact h.row.lt b hb
  · exact (h.body p hp).lt b hb
theorem own_type_ne {w : World} {b b' : Nat} {e e' : TypeId} {s s' n n' : Nat} {v v' : Value} {xs xs' : List Value} (h : w.ownsRow b e s v n xs) (h' : w.ownsRow b' e' s' v' n' xs') (hne : e ≠ e') (k : Nat) (hk : v.ownBlock = some k) : v'.ownBlock ≠ some k := by
  intro hk'
  rcases h.2 with ⟨rfl, _⟩ | ⟨g, cap, cur, rfl, _, hh, _⟩
  · cases hk
  · rcases h'.2 with ⟨rfl, _⟩ | ⟨g', cap', cur', rfl, _, hh', _⟩
    · cases hk'
    · cases hk; cases hk'
      rw [hh] at hh'
      injection hh' with hh'
      injection hh' with _ ht
      exact hne ht
set_option maxHeartbeats 4000000 in
theorem markTaskS_any (lo : Nat) (A : Option Addr) (ps : List (Value × Tk)) (c : Nat) (k : Int) (w : World) (ho : OwT lo w (.slice A ps.length c) ps) (h0 : 0 ≤ k) (hk : k + cnt ps ≤ 4611686018427387904) (hl : ps.length ≤ 1099511627776) (hsm : ∀ p ∈ ps, p.2.body.length ≤ 1099511627776) :
    Calls Tryz.prog 49 #[.slice A ps.length c, .int .i64 k] w (Mrk (.slice A ps.length c) k (cnt ps) (fun w' => OwT lo w' (.slice A ps.length c) (mkTs k ps)) (TreeB (.slice A ps.length c) ps) w) := by
  have HO0 := Hd.mk ho
  have HS := Hd.mk hsm
  clear ho hsm
  go_enter Tryz.func49, Tryz.ntmps49
  go_wp2
  go_loopw [1, 5] (fun x i wr => ∃ j : Nat, j ≤ ps.length ∧ i = .int .i64 j ∧ x = .int .i64 (k + cnt (ps.take j)) ∧ Chg (TreeB (.slice A ps.length c) ps) w wr ∧ Hd (OwT lo wr (.slice A ps.length c) (part k ps j))) (fun _ i _ => ps.length - (intOf i).toNat)
  case atStart => exact ⟨0, Nat.zero_le _, rfl, by simp [cnt], Chg.refl _ _, ⟨by simpa [part] using HO0.out⟩⟩
  case round =>
    obtain ⟨j, hj, rfl, rfl, HC, HO⟩ := hrel
    by_cases hlt : j < ps.length
    · obtain ⟨hLl, hLe⟩ := List.getElem?_eq_some_iff.1 (part_get k ps j hlt)
      have hpl := part_len k ps j hj
      have hct := Hd.mk (cnt_take ps j hlt)
      have hcl := cnt_take_le ps (j + 1)
      rw [hct.out] at hcl
      obtain ⟨g, rfl⟩ := own_some (by have := HO.out.row; rw [hpl] at this; exact this) (by omega)
      have hbd := HO.out.body _ (List.getElem_mem hLl)
      rw [hLe] at hbd
      obtain ⟨A', c', hp1, hcc⟩ := own_shape hbd
      obtain ⟨c0, c1, c2, c3⟩ := HO.out.cell4 hpl.symm hLl
      rw [hLe, hp1] at c0
      rw [hp1] at hbd
      have hsj := HS.out _ (List.getElem_mem hlt)
      generalize hK : k + (cnt (ps.take j) : Int) = K at *
      have hK0 : 0 ≤ K := by omega
      have hKb : K + 6 * (ps[j].2.body.length : Int) ≤ 4611686018427387904 := by omega
      have HB := Hd.mk hbd
      have HLE := Hd.mk hLe
      have HP1 := Hd.mk hp1
      have HK := Hd.mk hK
      have HPL := Hd.mk hpl
      clear hbd hLe hp1 hK hpl c1 c2 c3
      go_wp2_with fail
      (with_reducible refine (markStmtS_any lo A' ps[j].2.body.length _ c' K _ HB.out hK0 hKb hsj).mono ?_)
      rintro e w' ⟨rfl, hown, hchg⟩
      have HO2 := Hd.mk (OwT.body_set (b := mkSs K ps[j].2.body.length) HO.out hLl (by rw [HLE.out, HP1.out]; exact hchg) (by rw [mkSs_len, HLE.out]) (by rw [HLE.out, HP1.out, mkSs_len]; exact hown))
      obtain ⟨d0, d1, d2, d3⟩ := HO2.out.cell4 (by rw [List.length_set]; exact HPL.out.symm) (by rw [List.length_set]; exact hLl)
      have z1 := HO2.out.frz (by rw [List.length_set]; exact HPL.out.symm) (j * 4 + 1)
      have z2 := HO2.out.frz (by rw [List.length_set]; exact HPL.out.symm) (j * 4 + 2)
      have z3 := HO2.out.frz (by rw [List.length_set]; exact HPL.out.symm) (j * 4 + 3)
      replace hchg := Hd.mk hchg
      clear hown
      go_wp2
      go_roundw
      case rel =>
        have hjl := hLl
        have o1 := (HO2.out.num_set (j := j) (i := 1) (q := (ps[j].1, ⟨mkSs K ps[j].2.body.length, K + 6 * (ps[j].2.body.length : Int), ps[j].2.a, ps[j].2.b⟩)) (u := .int .i64 (K + 6 * (ps[j].2.body.length : Int))) (by rw [List.length_set]; exact HPL.out.symm) (by rw [List.length_set]; exact hLl) (by omega) (by rw [List.getElem_set_self, HLE.out]) (by rw [List.getElem_set_self]) (by rw [List.getElem_set_self, HLE.out]; rfl))
        rw [List.set_set] at o1
        have o2 := (o1.num_set (j := j) (i := 2) (q := (ps[j].1, ⟨mkSs K ps[j].2.body.length, K + 6 * (ps[j].2.body.length : Int), K + 6 * (ps[j].2.body.length : Int) + 1, ps[j].2.b⟩)) (u := .int .i64 (K + 6 * (ps[j].2.body.length : Int) + 1)) (by rw [List.length_set]; exact HPL.out.symm) (by rw [List.length_set]; exact hLl) (by omega) (by rw [List.getElem_set_self]) (by rw [List.getElem_set_self]) (by rw [List.getElem_set_self]; rfl))
        rw [List.set_set] at o2
        have o3 := (o2.num_set (j := j) (i := 3) (q := (ps[j].1, mkT K ps[j].2)) (u := .int .i64 (K + 6 * (ps[j].2.body.length : Int) + 2)) (by rw [List.length_set]; exact HPL.out.symm) (by rw [List.length_set]; exact hLl) (by omega) (by rw [List.getElem_set_self]) (by rw [List.getElem_set_self]; rfl) (by rw [List.getElem_set_self]; rfl))
        rw [List.set_set] at o3
        have hgS : TreeB (.slice (some ⟨g, 0, none⟩) ps.length c) ps g := .inl rfl
        have hch : Chg (TreeB (.slice (some ⟨g, 0, none⟩) ps.length c) ps) wr w' := hchg.out.mono (fun b hb => .inr ⟨_, List.getElem_mem hlt, by rw [HP1.out]; exact hb⟩)
        refine ⟨j + 1, by omega, by go_num, ?_, (((HC.trans hch).set _ hgS).set _ hgS).set _ hgS, ⟨?_⟩⟩
        · rw [hct.out]; have := HK.out; congr 1; push_cast; omega
        · have e2 : K + 6 * (ps[j].2.body.length : Int) + 1 + 1 = K + 6 * (ps[j].2.body.length : Int) + 2 := by omega
          rw [part_succ k ps j hlt, HK.out, e2]; exact o3
      case measure => simp [intOf]; omega
    · have e : j = ps.length := by omega
      have hpart : Hd (part k ps ps.length = mkTs k ps) := ⟨by unfold part; rw [List.drop_length, List.append_nil, ← mkTs_len k ps, List.take_length]⟩
      go_wp2
      go_ret
      subst e
      exact ⟨retI (by rw [List.take_length]), (by show OwT _ _ _ _; rw [← hpart.out]; exact HO.out), HC⟩
end Go.Proofs.YtgodbldchaonpaaGreat

/- What program and reference answer when a memory is handed on under new rules. No condition. -/
import Derived.Test.YtgodbldchaonpaaGreatRR
import Derived.Laws.CopyOwn
namespace Go.Proofs.YtgodbldchaonpaaGreat
open Go.RowKit
set_option linter.unusedVariables false
set_option linter.unusedSimpArgs false
set_option maxRecDepth 100000
theorem flat_mapI (xs : List Int) : xs.flatMap encI = xs.map (Value.int .i64) := by
  induction xs with
  | nil => rfl
  | cons x r ih => rw [List.flatMap_cons, ih]; rfl
/-- copy(d, s): d a row of the call's own, s read and no longer than d. -/
theorem copy_ints {P : Program} {ops : Array Oper} {rest : List Oper} {o : Oper} {a : Act} {Q : Exit → Act → World → Prop} {W : World} (base : Nat) (hgd : o.guard = none) (d s : Operand) (t e : TypeId)
    (ho : o.op = .call { callee := .builtin .copy, args := #[d, s], argTypes := #[t, t] }) (ht : P.underlying t = some (.slice e)) (hsz : (P.info? e).map (·.size) = some 1)
    (g n m c cb : Nat) (xs ys : List Int) (B : Option Addr) (hd : a.eval d = .slice (some ⟨g, 0, none⟩) n c) (hs : a.eval s = .slice B m cb) (hm : ys.length = m)
    (HO : W.ownsRow base e 1 (.slice (some ⟨g, 0, none⟩) n c) n (xs.flatMap encI)) (HR : RdI W B ys) (hle : m ≤ n) (w0 : World) (hb : Bel w0 W) (hbg : w0.heap.size ≤ g)
    (h : ∀ W', W'.ownsRow base e 1 (.slice (some ⟨g, 0, none⟩) n c) n ((ys ++ xs.drop m).flatMap encI) → Bel w0 W' → wpList P ops Q rest (a.put o.dst (goInt m)) W') : wpList P ops Q (o :: rest) a W := by
  have hl := HO.1
  rcases HO.2 with ⟨h', _⟩ | ⟨g', cap, cur, h', hbase, hh, hc, hcm, hcs, htake⟩
  · cases h'
  · simp only [Value.slice.injEq, Option.some.injEq, Addr.mk.injEq, and_true, true_and] at h'
    obtain ⟨rfl, rfl⟩ := h'
    simp only [Nat.mul_one] at hl hcs htake
    rw [flat_mapI, List.length_map] at hl
    have hyl : (ys.flatMap encI).length = m := by rw [flat_mapI, List.length_map, hm]
    have hpos : 0 < (ys.flatMap encI).length → (some (⟨g, 0, none⟩ : Addr)) = some ⟨g, 0, none⟩ ∧ ∃ ad, B = some ad ∧ ∀ j v, (ys.flatMap encI)[j]? = some v → W.cell? (ad.add j) = some v := by
      intro h0
      have hy : ys ≠ [] := by intro e; subst e; simp at h0
      obtain ⟨b, off, rfl, hcl⟩ := HR.flat encI_ok (by decide) hy
      exact ⟨rfl, _, rfl, hcl⟩
    refine wpList_copy_splice hgd d s t t ho e ht hsz (some ⟨g, 0, none⟩) B n c m cb hd hs g 0 cur.toList e (by simpa using hh) (ys.flatMap encI) (by rw [hyl]; exact (Nat.min_eq_left hle).symm) hpos (by rw [hyl, Array.length_toList]; omega) (flat_one encI_ok ys) w0.heap.size w0 hb.out hbg ?_
    intro W' hW' hB'
    rw [hyl]
    refine h W' ⟨?_, .inr ⟨g, c, (splice cur.toList 0 (ys.flatMap encI)).toArray, rfl, hbase, hW', hc, hcm, ?_, ?_⟩⟩ ⟨hB'⟩
    · rw [flat_mapI, List.length_map, List.length_append, List.length_drop]; omega
    · rw [List.size_toArray, length_splice _ _ _ (by rw [hyl, Array.length_toList]; omega), Array.length_toList]; omega
    · rw [Nat.mul_one]
      unfold splice
      rw [hyl, List.take_zero, List.nil_append, Nat.zero_add, List.flatMap_append, List.take_append, hyl, List.take_of_length_le (by omega), List.take_drop]
      congr 1
      have e1 : m + (n - m) = n := by omega
      rw [e1, htake, flat_mapI, flat_mapI, List.map_drop]
def recovered (m : List Int) : List Int := applyW m (recW m (unpack (at_ m 8)).1 (unpack (at_ m 8)).2.1.toNat (unpack (at_ m 8)).2.2)
/-- What a good memory holds. -/
structure MemG (m : List Int) (t : Int) (k : Nat) (n : Int) : Prop where
  len : m.length = 49
  vars : (m.take 8).all vOk = true
  un : unpack (at_ m 8) = (t, (k : Int), n)
  k8 : k ≤ 8
  log : logOk m k = true
theorem memOk_G {ts : List Tk} {m : List Int} (h : memOk ts m = true) : ∃ t k n, MemG m t k n := by
  unfold memOk at h
  simp only [Bool.and_eq_true, decide_eq_true_eq] at h
  obtain ⟨-, h1, h2, h3, -, h5⟩ := h
  rcases unpack_range (at_ m 8) with hr | ⟨r0, r1, r2, r3, r4, r5⟩
  · rw [hr] at h3; exact absurd h3.1 (by decide)
  · obtain ⟨k, hk⟩ := Int.eq_ofNat_of_zero_le r2
    exact ⟨(unpack (at_ m 8)).1, k, (unpack (at_ m 8)).2.2, h1, h2, by rw [← hk], by omega, by rw [hk] at h5; exact h5⟩
theorem recovered_eq {m : List Int} {t : Int} {k : Nat} {n : Int} (h : MemG m t k n) : recovered m = applyW m (recW m t k n) := by unfold recovered; rw [h.un]; rfl
theorem recovered_len (m : List Int) : (recovered m).length = m.length := applyW_len _ _
theorem vars_at {m : List Int} (hl : m.length = 49) : (m.take 8).all vOk = true ↔ ∀ i, i < 8 → vOk (at_ m i) = true := by
  rw [List.all_eq_true]
  constructor
  · intro h i hi
    have : i < (m.take 8).length := by rw [List.length_take]; omega
    have := h _ (List.getElem_mem this)
    rw [List.getElem_take] at this
    unfold at_
    rw [List.getD_eq_getElem?_getD, List.getElem?_eq_getElem (by omega)]
    exact this
  · intro h x hx
    obtain ⟨i, hi, rfl⟩ := List.mem_iff_getElem.1 hx
    rw [List.length_take] at hi
    have := h i (by omega)
    unfold at_ at this
    rw [List.getD_eq_getElem?_getD, List.getElem?_eq_getElem (by omega)] at this
    rw [List.getElem_take]
    exact this
theorem at_set (m : List Int) (i j : Nat) (v : Int) (hi : i < m.length) : at_ (m.set i v) j = if i = j then v else at_ m j := by
  unfold at_
  rw [List.getD_eq_getElem?_getD, List.getElem?_set]
  split
  · rfl
  · rw [List.getD_eq_getElem?_getD]
theorem applyW_vars {m : List Int} (ws : List (Int × Int)) (hl : m.length = 49) (hv : (m.take 8).all vOk = true) (hw : ∀ p ∈ ws, p.1 = 8 ∨ vOk p.2 = true) : ((applyW m ws).take 8).all vOk = true := by
  unfold applyW
  induction ws generalizing m with
  | nil => exact hv
  | cons p r ih =>
    rw [List.foldl_cons]
    refine ih (by rw [applyStep_len]; exact hl) ?_ (fun q hq => hw q (List.mem_cons_of_mem _ hq))
    rw [vars_at (by rw [applyStep_len]; exact hl)]
    rw [vars_at hl] at hv
    intro i hi
    unfold applyStep
    split
    · rename_i hin
      have := of_decide_eq_true hin
      rw [at_set _ _ _ _ (by omega)]
      split
      · rcases hw p (List.mem_cons_self ..) with h8 | h8
        · omega
        · exact h8
      · exact hv i hi
    · exact hv i hi
theorem recW_ok {m : List Int} {t : Int} {k : Nat} {n : Int} (h : logOk m k = true) : ∀ p ∈ recW m t k n, p.1 = 8 ∨ vOk p.2 = true := by
  intro p hp
  unfold recW at hp
  split at hp
  · cases hp
  · rcases List.mem_append.1 hp with hp | hp
    · unfold wrs at hp
      obtain ⟨i, hi, rfl⟩ := List.mem_map.1 hp
      rw [List.mem_reverse, List.mem_range'_1] at hi
      exact .inr (log_at h (by omega)).2
    · rw [List.mem_singleton.1 hp]; exact .inl rfl
theorem recovered_vars {m : List Int} {t : Int} {k : Nat} {n : Int} (h : MemG m t k n) : varsOk ((recovered m).take 8) = true := by
  unfold varsOk
  rw [recovered_eq h, applyW_vars _ h.len h.vars (recW_ok h.log), List.length_take, applyW_len, h.len]
  rfl
set_option maxHeartbeats 1000000 in
theorem Recovered_any (A : Option Addr) (m : List Int) (c k : Nat) (t n : Int) (w : World) (ha : RdI w A m) (hG : MemG m t k n) :
    Calls Tryz.prog 42 #[.slice A m.length c] w (Mk encI 3 1 (recovered m) w) := by
  have HA := Hd.mk ha
  have HG := Hd.mk hG
  rw [recovered_eq hG]
  clear ha hG
  go_enter Tryz.func42, Tryz.ntmps42
  go_wp2_with fail
  refine (RecoveryWrites_any A m c k t n _ HA.out HG.out.len HG.out.un HG.out.k8 HG.out.log).mono ?_
  rintro e w1 ⟨v, rfl, hown, hb1⟩
  have hwl : (recW m t k n).length ≤ 17592186044416 := by unfold recW; split; simp; rw [List.length_append, wrs_len]; have := HG.out.k8; simp; omega
  obtain ⟨B, d, rfl, hd, hrd⟩ := own_rd encW_ok hown hwl
  replace hrd := Hd.mk hrd
  replace hwl := Hd.mk hwl
  clear hown
  generalize recW m t k n = ws at *
  go_wp2_with fail
  refine (ApplyWrites_any A B m ws c d _ (HA.out.bel hb1) hrd.out HG.out.len hd).mono ?_
  rintro e w2 ⟨v2, rfl, hown2, hb2⟩
  replace hown2 := Hd.mk hown2
  go_wp2
  go_ret
  exact ⟨_, rfl, own_raise hown2.out (fun k hk => Nat.le_trans hb1.size (hown2.out.lt k hk).1), hb1.trans hb2⟩
set_option maxHeartbeats 1000000 in
theorem sRecovered_any (A : Option Addr) (m : List Int) (c k : Nat) (t n : Int) (w : World) (ha : RdI w A m) (hG : MemG m t k n) :
    Calls Tryz.prog 33 #[.slice A m.length c] w (Mk encI 3 1 (recovered m) w) := by
  have HA := Hd.mk ha
  have HG := Hd.mk hG
  rw [recovered_eq hG]
  clear ha hG
  go_enter Tryz.func33, Tryz.ntmps33
  go_wp2_with fail
  refine (sRecoveryWrites_any A m c k t n _ HA.out HG.out.len HG.out.un HG.out.k8 HG.out.log).mono ?_
  rintro e w1 ⟨v, rfl, hown, hb1⟩
  have hwl : (recW m t k n).length ≤ 17592186044416 := by unfold recW; split; simp; rw [List.length_append, wrs_len]; have := HG.out.k8; simp; omega
  obtain ⟨B, d, rfl, hd, hrd⟩ := own_rd encW_ok hown hwl
  replace hrd := Hd.mk hrd
  replace hwl := Hd.mk hwl
  clear hown
  generalize recW m t k n = ws at *
  go_wp2_with fail
  refine (sApplyWrites_any A B m ws c d _ (HA.out.bel hb1) hrd.out HG.out.len hd).mono ?_
  rintro e w2 ⟨v2, rfl, hown2, hb2⟩
  replace hown2 := Hd.mk hown2
  go_wp2
  go_ret
  exact ⟨_, rfl, own_raise hown2.out (fun k hk => Nat.le_trans hb1.size (hown2.out.lt k hk).1), hb1.trans hb2⟩
set_option maxHeartbeats 1000000 in
theorem MemVars_any (A : Option Addr) (m : List Int) (c : Nat) (w : World) (ha : RdI w A m) (hl : m.length = 49) (hc : m.length ≤ c) : Calls Tryz.prog 44 #[.slice A m.length c] w (Mk encI 3 1 (m.take 8) w) := by
  obtain ⟨b, off, rfl, c8⟩ := ha.atD 8 (by omega)
  have HR : Hd (RdI w (some ⟨b, off, none⟩) (m.take 8)) := ⟨ha.take 8⟩
  have hl8 : (m.take 8).length = 8 := by rw [List.length_take]; omega
  have hcl := fun W => CloneI_any (some ⟨b, off, none⟩) (m.take 8) c W
  rw [hl8] at hcl
  rw [hl] at hc ⊢
  clear ha c8 hl hl8
  go_enter Tryz.func44, Tryz.ntmps44
  go_wp2_with fail
  refine (hcl _ HR.out).mono ?_
  rintro e w' ⟨v, rfl, hown, hb⟩
  replace hown := Hd.mk hown
  go_wp2
  go_ret
  exact ⟨_, rfl, hown.out, hb⟩
set_option maxHeartbeats 1000000 in
theorem sMemVars_any (A : Option Addr) (m : List Int) (c : Nat) (w : World) (ha : RdI w A m) (hl : m.length = 49) (hc : m.length ≤ c) : Calls Tryz.prog 35 #[.slice A m.length c] w (Mk encI 3 1 (m.take 8) w) := by
  obtain ⟨b, off, rfl, c8⟩ := ha.atD 8 (by omega)
  have HR : Hd (RdI w (some ⟨b, off, none⟩) (m.take 8)) := ⟨ha.take 8⟩
  have hl8 : (m.take 8).length = 8 := by rw [List.length_take]; omega
  replace hl8 := Hd.mk hl8
  rw [hl] at hc ⊢
  clear ha c8 hl
  go_enter Tryz.func35, Tryz.ntmps35
  go_wp2_with (at_builtin; refine app_row' encI 1 encI_ok (by decide) w.heap.size rfl _ _ 25 3 (.int .i64 0) 8 rfl Tryz.underlying25 infoI rfl (by decide) _ [] (m.take 8) 8 hl8.out _ _ rfl rfl (own_lit0 w w.heap.size _ _ (Nat.le_refl _)) (HR.out.bel ((Bel.refl _).alloc _)) (by simp) (by decide) ?_; intro v1 w1 hown1 hg1 hat1; simp only [List.nil_append] at hown1; replace hown1 := Hd.mk hown1; have hb1 : Bel w w1 := Bel.of_grown ((Bel.refl w).alloc _) hg1 (by intro k hk; cases hk; exact Nat.le_refl _); clear hg1 hat1)
  go_ret
  exact ⟨_, rfl, hown1.out, hb1⟩
end Go.Proofs.YtgodbldchaonpaaGreat

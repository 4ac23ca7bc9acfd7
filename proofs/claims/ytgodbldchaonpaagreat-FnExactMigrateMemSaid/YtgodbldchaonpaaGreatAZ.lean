/- append(s, make([]int, k)...) onto a row of the call's own. No condition. -/
import Derived.Test.YtgodbldchaonpaaGreatO
import Derived.Lib.AppendZerosOnto
namespace Go.Proofs.YtgodbldchaonpaaGreat
open Go.RowKit
set_option linter.unusedVariables false
theorem zeros_list (k : Nat) : (Builtin.zeroCells #[Value.int .i64 0] k).toList = List.replicate k (Value.int .i64 0) := by
  apply List.ext_getElem
  · simp [Builtin.zeroCells]
  · intro i h1 h2; simp [Builtin.zeroCells, Nat.mod_one]
theorem run_app_zeros {P : Program} (W : World) (base : Nat) (t tn ty e : TypeId) (i : TypeInfo) (ht : P.underlying t = some (.slice e)) (htn : P.underlying tn = some (.int .i64)) (hi : P.info? e = some i) (hz : i.zero = some (.int .i64 0)) (hsize : i.size = 1) (hby : i.bytes = 8)
    (v : Value) (n k : Nat) (xs : List Value) (hk : 0 < k) (HO : W.ownsRow base e 1 v n xs) (hbase : base ≤ W.heap.size) (hl : (n + k) * 8 ≤ 140737488355328) :
    ∃ v1 w1, (Builtin.append_ #[t, tn] ty #[v, .int .i64 k]).run P W = .ok v1 w1 ∧ w1.ownsRow base e 1 v1 (n + k) (xs ++ List.replicate k (.int .i64 0)) ∧ W.grownBy w1 v.ownBlock := by
  have hk0 : k ≠ 0 := by omega
  have hw : IntKind.i64.wrap (k : Int) = k := by rw [IntKind.wrap_i64]; omega
  have hlen : (xs ++ List.replicate k (Value.int .i64 0)).length = (n + k) * 1 := by rw [List.length_append, HO.1, List.length_replicate]; omega
  have grown : ∀ (old : Nat), old < n + k → ∀ (row : Option Nat),
      (W.drew.alloc (.cells (xs.toArray ++ Builtin.zeroCells (Value.int .i64 0).cells k ++ Builtin.zeroCells (Value.int .i64 0).cells (grownCap W (n + k) old e - (n + k))) e)).ownsRow base e 1
        (.slice (some ⟨W.heap.size, 0, none⟩) (n + k) (grownCap W (n + k) old e)) (n + k) (xs ++ List.replicate k (.int .i64 0)) ∧
      W.grownBy (W.drew.alloc (.cells (xs.toArray ++ Builtin.zeroCells (Value.int .i64 0).cells k ++ Builtin.zeroCells (Value.int .i64 0).cells (grownCap W (n + k) old e - (n + k))) e)) row := by
    intro old ho row
    have hge := grownCap_ge W (n + k) old e
    have hcm : grownCap W (n + k) old e ≤ maxLen := grownCap_le_maxLen W (n + k) old e (by simp only [maxLen]; omega)
    refine ⟨⟨hlen, .inr ⟨W.heap.size, _, _, rfl, hbase, heap_alloc_new W.drew _, hge, hcm, ?_, ?_⟩⟩, ⟨rfl, rfl, rfl, by simp, fun j hj _ => Below.heap_alloc W.drew _ j hj⟩⟩
    · have := HO.1
      simp only [Array.size_append, List.size_toArray, size_zeroCells, Value.cells]
      simp
      omega
    · simp only [Array.toList_append, Value.cells, zeros_list]
      rw [← hlen]
      exact List.take_left
  rcases HO.2 with ⟨rfl, rfl⟩ | ⟨g, cap, cur, rfl, hbg, hg, hnc, hcm, hcs, htake⟩
  · have hx : xs = [] := List.eq_nil_of_length_eq_zero (by simpa using HO.1)
    subst hx
    have hr := Lib.run_append_grow_zeros (P := P) W t tn ty e i _ .i64 .i64 ht htn hi hz none 0 0 [] (by simp [Builtin.firstCells]) k hk (by omega) (by omega) (by omega) (by rw [hby]; omega) (by have := growslice_fits (need := 0 + k) (old := 0) (bytes := i.bytes) (by omega) (by rw [hby]; omega); omega)
    have hgr := grown 0 (by omega) (Value.ownBlock (.slice none 0 0))
    exact ⟨_, _, hr, hgr.1, hgr.2⟩
  · by_cases hroom : n + k ≤ cap
    · have hneg : ¬ ((k : Int) < 0) := by omega
      have h48i : ¬ (281474976710656 < (k : Int) * (i.bytes : Int)) := by rw [hby]; omega
      have hst := run_storeCells_at P g (n * 1) e (List.replicate k (Value.int .i64 0)) 0 cur W hg (by simp; omega) (by intro u hu; rw [List.eq_of_mem_replicate hu]; rfl)
      simp only [Nat.add_zero, Nat.mul_one] at hst
      have hr : (Builtin.append_ #[t, tn] ty #[.slice (some ⟨g, 0, none⟩) n cap, .int .i64 k]).run P W = .ok (.slice (some ⟨g, 0, none⟩) (n + k) cap) (W.setRow g (cur.toList.take n ++ List.replicate k (Value.int .i64 0) ++ cur.toList.drop (n + (List.replicate k (Value.int .i64 0)).length)).toArray) := by
        simp [Builtin.append_, run_underlying ht, run_underlying htn, sizeOf, typeInfo, zeroValue, hi, hz, asInt, asIntOf, hw, hneg, hk0, hsize, h48i, hroom, zeros_list, Value.cells, Addr.add_lit, hst]
      refine ⟨_, _, hr, ⟨hlen, .inr ⟨g, cap, _, rfl, hbg, setRow_heap W g cur _ e _ hg, hroom, hcm, ?_, ?_⟩⟩, ⟨rfl, rfl, rfl, by simp, fun j _ hj => setRow_other W g j _ (fun e => hj (by simp [Value.ownBlock, e]))⟩⟩
      · simp only [List.size_toArray, List.length_append, List.length_take, List.length_drop, Array.length_toList, List.length_replicate]
        omega
      · rw [Nat.mul_one] at htake
        rw [htake, ← hlen]
        exact List.take_left
    · have holds : ∀ j u, xs[j]? = some u → W.cell? ((⟨g, 0, none⟩ : Addr).add j) = some u := HO.cells (g := g) rfl
      have hold := run_firstCells_some (P := P) W.drew 1 n ⟨g, 0, none⟩ n cap xs (by rw [HO.1]) holds
      have hr := Lib.run_append_grow_zeros (P := P) W t tn ty e i _ .i64 .i64 ht htn hi hz (some ⟨g, 0, none⟩) n cap xs (by rw [hsize]; exact hold) k hk (by omega) (by omega) (by omega) (by rw [hby]; omega) (growslice_fits (by omega) (by rw [hby]; omega))
      have hgr := grown cap (by omega) (Value.ownBlock (.slice (some ⟨g, 0, none⟩) n cap))
      exact ⟨_, _, hr, hgr.1, hgr.2⟩
theorem app_zeros {P : Program} {ops : Array Oper} {rest : List Oper} {o : Oper} {a : Act} {Q : Exit → Act → World → Prop} {W : World} (base : Nat) (hgd : o.guard = none) (s x : Operand) (t tn e : TypeId)
    (ho : o.op = .call { callee := .builtin .append, args := #[s, x], argTypes := #[t, tn] }) (ht : P.underlying t = some (.slice e)) (htn : P.underlying tn = some (.int .i64)) (hinfo : (P.info? e).map (fun i => (i.zero, i.size, i.bytes)) = some (some (.int .i64 0), 1, 8))
    (v : Value) (n k : Nat) (xs : List Value) (hk : 0 < k) (hs : a.eval s = v) (hx : a.eval x = .int .i64 k) (HO : W.ownsRow base e 1 v n xs) (hbase : base ≤ W.heap.size) (hl : (n + k) * 8 ≤ 140737488355328)
    (h : ∀ v1 w1, w1.ownsRow base e 1 v1 (n + k) (xs ++ List.replicate k (.int .i64 0)) → W.grownBy w1 v.ownBlock → wpList P ops Q rest (a.put o.dst v1) w1) :
    wpList P ops Q (o :: rest) a W := by
  obtain ⟨i, hi, hzz⟩ := Option.map_eq_some_iff.1 hinfo
  simp only [Prod.mk.injEq] at hzz
  obtain ⟨v1, w1, hr, h1, h2⟩ := run_app_zeros (P := P) W base t tn o.type e i ht htn hi hzz.1 hzz.2.1 hzz.2.2 v n k xs hk HO hbase hl
  refine wpList_plain hgd fun K hK => ?_
  unfold Oper.wp execOp
  simp only [ho, resolve, invoke, builtin, Sem.run_bind, Sem.run_pure, Result.andThen_ok, List.map_toArray, List.map_cons, List.map_nil, hs, hx, hr]
  exact hK _ _ (h v1 w1 h1 h2)
end Go.Proofs.YtgodbldchaonpaaGreat

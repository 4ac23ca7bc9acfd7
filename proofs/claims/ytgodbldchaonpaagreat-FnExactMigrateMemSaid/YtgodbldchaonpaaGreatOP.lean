/- The arguments of a call, opened: what they read as. No condition. -/
import Derived.Test.YtgodbldchaonpaaGreatRO
import Derived.Deep.Slices
import Derived.ProofKit
import Derived.ChangeOld
import Derived.SizedLaws
namespace Go.Proofs.YtgodbldchaonpaaGreat
open Go.RowKit
set_option linter.unusedVariables false
set_option maxRecDepth 100000
/-- Whatever reads as data of the type t: R tells its cells. -/
def Opens (t : TypeId) (R : World → List Value → Prop) : Prop :=
  ∀ (H : Type) (enc : TypeId × Value → H) (w : World) (base fuel : Nat) (spare : Nat → Bool) (held : Bool) (cs : List Value) (x : DataW H × List MemPlace),
    DataW.trod enc Tryz.prog w base spare held fuel t cs = some x → (∀ n ∈ x.1.weights Tryz.prog t, n ≤ reachBytes) → R w cs
theorem Opens.imp {t : TypeId} {R S : World → List Value → Prop} (h : Opens t R) (k : ∀ w cs, R w cs → S w cs) : Opens t S :=
  fun H enc w base fuel spare held cs x hx hw => k w cs (h H enc w base fuel spare held cs x hx hw)
theorem opens_int {t : TypeId} (ht : Tryz.prog.underlying t = some (.int .i64)) : Opens t (fun _ cs => ∃ n : Int, cs = [.int .i64 n]) := by
  intro H enc w base fuel spare held cs x hx hw
  obtain ⟨n, h, _, _⟩ := DataW.trod_int ht hx
  exact ⟨n, h⟩
theorem opens_bool {t : TypeId} (ht : Tryz.prog.underlying t = some .bool) : Opens t (fun _ cs => ∃ n : Bool, cs = [.bool n]) := by
  intro H enc w base fuel spare held cs x hx hw
  obtain ⟨n, h, _⟩ := DataW.trod_bool ht hx
  exact ⟨n, h⟩
theorem mem_each {H : Type} : ∀ (ts : List TypeId) (ds : List (DataW H)) (j : Nat) (t : TypeId) (d : DataW H), ts[j]? = some t → ds[j]? = some d → ∀ n ∈ d.weights Tryz.prog t, n ∈ DataW.weightsEach Tryz.prog ts ds :=
  fun ts ds j t d ht hd n hn => DataW.weights_mem_each ht hd n hn
theorem opens_struct {t : TypeId} {fs : Array Field} (ht : Tryz.prog.underlying t = some (.struct fs)) (L : List (Nat × Nat × TypeId)) (hL : fs.toList.map (fun f => (f.offset, Tryz.prog.cellsOf f.type, f.type)) = L) (c : Nat) (hc : Tryz.prog.cellsOf t = c)
    (Rs : Nat → World → List Value → Prop) (hR : ∀ i o s ty, L[i]? = some (o, s, ty) → Opens ty (Rs i)) : Opens t (fun w cs => cs.length = c ∧ ∀ i o s ty, L[i]? = some (o, s, ty) → Rs i w ((cs.drop o).take s)) := by
  intro H enc w base fuel spare held cs x hx hw
  obtain ⟨xs, n, rfl, rfl, hl, hxl, hf⟩ := DataW.trod_struct ht hx
  refine ⟨by rw [hl, hc], fun i o s ty hi => ?_⟩
  have hi' := hi
  rw [← hL, List.getElem?_map, Option.map_eq_some_iff] at hi'
  obtain ⟨f, hfi, hfe⟩ := hi'
  simp only [Prod.mk.injEq] at hfe
  obtain ⟨rfl, rfl, rfl⟩ := hfe
  have hfi' : fs[i]? = some f := by simpa using hfi
  have h1 := hf i f hfi'
  have hlt : i < xs.length := by rw [hxl]; exact (Array.getElem?_eq_some_iff.1 hfi').1
  rw [List.getElem?_eq_getElem hlt] at h1
  refine hR i _ _ _ hi H enc w base n spare held _ _ h1 (fun k hk => hw k ?_)
  have hm : (fs.toList.map (·.type))[i]? = some f.type := by rw [List.getElem?_map, hfi]; rfl
  have hd : (xs.map (·.1))[i]? = some xs[i].1 := by rw [List.getElem?_map, List.getElem?_eq_getElem hlt]; rfl
  simp only [DataW.weights, ht]
  exact mem_each _ _ i _ _ hm hd k hk
theorem mem_all {H : Type} (e : TypeId) : ∀ (ds : List (DataW H)) (d : DataW H), d ∈ ds → ∀ n ∈ d.weights Tryz.prog e, n ∈ DataW.weightsAll Tryz.prog e ds := by
  intro ds
  induction ds with
  | nil => intro d h; cases h
  | cons a r ih =>
    intro d h n hn
    simp only [DataW.weightsAll, List.mem_append]
    rcases List.mem_cons.1 h with rfl | h
    · exact .inl hn
    · exact .inr (ih d h n hn)
/-- A slice whose elements read by R. -/
theorem opens_slice {α : Type} [Inhabited α] {t e : TypeId} (ht : Tryz.prog.underlying t = some (.slice e)) (sz bytes : Nat) (hs : Tryz.prog.cellsOf e = sz) (hs0 : 0 < sz) (hb : Tryz.prog.bytesOf e = bytes) (R : World → α → List Value → Prop)
    (he : Opens e (fun w cs => ∃ x : α, R w x cs)) : Opens t (fun w cs => ∃ A c, ∃ xs : List α, cs = [.slice A xs.length c] ∧ xs.length ≤ c ∧ xs.length * bytes ≤ 140737488351232 ∧ (xs.length ≤ 17592186044416 → RdL R sz w A xs)) := by
  intro H enc w base fuel spare held cs x hx hw
  rcases DataW.trod_slice ht hx with ⟨rfl, rfl⟩ | ⟨a, len, cap, elems, rest, n, rfl, rfl, rfl, hba, hl, hm, hel, helems, _, _⟩
  · exact ⟨none, 0, [], rfl, Nat.le_refl _, by simp, fun _ => RdL.nil _ _ _ _⟩
  have hwt : (elems.length + rest.length) * bytes ≤ 140737488351232 := by
    have := hw ((elems.length + rest.length) * Tryz.prog.bytesOf e) (by simp only [DataW.weights, ht, List.length_map]; exact List.mem_cons_self ..)
    rw [hb] at this
    exact this
  obtain ⟨f, hf⟩ := Go.Deep.choose_lt (α := α) (n := len) (p := fun i y => ∃ cs', w.cells? base (a.add (i * sz)) sz = some cs' ∧ R w y cs') (fun i hi => by
    have h1 := helems i hi
    rw [List.getElem?_eq_getElem (by omega)] at h1
    obtain ⟨cs', h2, h3⟩ := Option.bind_eq_some_iff.1 h1
    rw [hs] at h2
    obtain ⟨y, hy⟩ := he H enc w base n spare held cs' _ h3 (fun k hk => hw k (by
      simp only [DataW.weights, ht]
      refine List.mem_cons_of_mem _ (List.mem_append_left _ ?_)
      exact mem_all e _ elems[i].1 (List.mem_map.2 ⟨elems[i], List.getElem_mem _, rfl⟩) k hk))
    exact ⟨y, cs', h2, hy⟩)
  have hlen : ((List.range len).map f).length = len := by simp
  refine ⟨some a, cap, (List.range len).map f, by rw [hlen], by rw [hlen]; exact hl, ?_, fun hxl => ⟨hxl, fun j hj => ?_⟩⟩
  · rw [hlen, ← hel]; exact Nat.le_trans (Nat.mul_le_mul_right _ (Nat.le_add_right _ _)) hwt
  · have hj' : j < len := by rw [← hlen]; exact hj
    obtain ⟨cs', h1, h2⟩ := hf j hj'
    obtain ⟨_, hcl, hcc⟩ := World.cells?_some h1
    obtain ⟨b, off, spot⟩ := a
    have hspot : spot = none := by
      have g0 := hcc 0 hs0
      have : (0 : Nat) < cs'.length := by omega
      rw [List.getElem?_eq_getElem this] at g0
      by_cases hjs : j * sz = 0
      · rw [hjs] at g0
        simpa [Addr.add] using World.cell?_spot g0
      · have h0 := helems 0 (by omega)
        rw [List.getElem?_eq_getElem (by omega)] at h0
        obtain ⟨cs0, k2, k3⟩ := Option.bind_eq_some_iff.1 h0
        rw [hs, Nat.zero_mul] at k2
        obtain ⟨_, kl, kc⟩ := World.cells?_some k2
        have q0 := kc 0 hs0
        rw [List.getElem?_eq_getElem (show 0 < cs0.length by omega)] at q0
        simpa [Addr.add] using World.cell?_spot q0
    subst hspot
    refine ⟨b, off, cs', rfl, hcl, by simpa using h2, fun i hi => ?_⟩
    have := hcc i (by omega)
    rw [add_addr, add_addr, List.getElem?_eq_getElem hi] at this
    rw [← this, Nat.add_assoc]
/-- .. of numbers and structs of numbers: eight bytes and more. -/
theorem opens_slice8 {α : Type} [Inhabited α] {t e : TypeId} (ht : Tryz.prog.underlying t = some (.slice e)) (sz bytes : Nat) (hs : Tryz.prog.cellsOf e = sz) (hs0 : 0 < sz) (hb : Tryz.prog.bytesOf e = bytes) (hb8 : 8 ≤ bytes) (R : World → α → List Value → Prop)
    (he : Opens e (fun w cs => ∃ x : α, R w x cs)) : Opens t (fun w cs => ∃ A c, ∃ xs : List α, cs = [.slice A xs.length c] ∧ xs.length ≤ c ∧ RdL R sz w A xs) :=
  (opens_slice ht sz bytes hs hs0 hb R he).imp fun w cs ⟨A, c, xs, h1, h2, h3, h4⟩ => ⟨A, c, xs, h1, h2, h4 (by
    have : xs.length * 8 ≤ xs.length * bytes := Nat.mul_le_mul_left _ hb8
    omega)⟩
def ReadsI (w : World) (cs : List Value) : Prop := ∃ A c, ∃ xs : List Int, cs = [.slice A xs.length c] ∧ xs.length ≤ c ∧ RdI w A xs
theorem opens_ints : Opens 25 ReadsI :=
  opens_slice8 Tryz.underlying25 1 8 (by kernel_rfl) (by decide) (by kernel_rfl) (by decide) (fun _ x cs => cs = encI x) ((opens_int Tryz.underlying3).imp fun w cs ⟨n, h⟩ => ⟨n, h⟩)
theorem opens_expr : Opens 106 (fun _ cs => ∃ x : Ex, cs = encX x) := by
  refine (opens_struct Tryz.underlying106 [(0, 1, 3), (1, 1, 3), (2, 1, 3)] (by kernel_rfl) 3 (by kernel_rfl) (fun _ _ cs => ∃ n : Int, cs = [.int .i64 n]) ?_).imp ?_
  · intro i o s ty hi
    have : ty = 3 := by
      rcases i with _ | _ | _ | i <;> simp at hi <;> first | exact hi.2.2.symm | skip
    subst this
    exact opens_int Tryz.underlying3
  · rintro w cs ⟨hl, h⟩
    obtain ⟨c0, c1, c2, rfl⟩ : ∃ a b c, cs = [a, b, c] := by
      match cs, hl with
      | [a, b, c], _ => exact ⟨a, b, c, rfl⟩
    obtain ⟨a0, e0⟩ := h 0 _ _ _ rfl
    obtain ⟨a1, e1⟩ := h 1 _ _ _ rfl
    obtain ⟨a2, e2⟩ := h 2 _ _ _ rfl
    simp at e0 e1 e2
    subst e0 e1 e2
    exact ⟨⟨a0, a1, a2⟩, rfl⟩
theorem opens_stmt : Opens 164 (fun _ cs => ∃ x : St, cs = encS x) := by
  refine (opens_struct Tryz.underlying164 [(0, 1, 3), (1, 1, 3), (2, 1, 3), (3, 3, 106)] (by kernel_rfl) 6 (by kernel_rfl) (fun i _ cs => if i = 3 then ∃ x : Ex, cs = encX x else ∃ n : Int, cs = [.int .i64 n]) ?_).imp ?_
  · intro i o s ty hi
    rcases i with _ | _ | _ | _ | i <;> simp at hi
    · obtain ⟨_, _, rfl⟩ := hi; exact opens_int Tryz.underlying3
    · obtain ⟨_, _, rfl⟩ := hi; exact opens_int Tryz.underlying3
    · obtain ⟨_, _, rfl⟩ := hi; exact opens_int Tryz.underlying3
    · obtain ⟨_, _, rfl⟩ := hi; exact opens_expr
  · rintro w cs ⟨hl, h⟩
    obtain ⟨c0, c1, c2, c3, c4, c5, rfl⟩ : ∃ a b c d e f, cs = [a, b, c, d, e, f] := by
      match cs, hl with
      | [a, b, c, d, e, f], _ => exact ⟨a, b, c, d, e, f, rfl⟩
    have e0 := h 0 _ _ _ rfl
    have e1 := h 1 _ _ _ rfl
    have e2 := h 2 _ _ _ rfl
    have e3 := h 3 _ _ _ rfl
    simp at e0 e1 e2 e3
    obtain ⟨a0, rfl⟩ := e0
    obtain ⟨a1, rfl⟩ := e1
    obtain ⟨a2, rfl⟩ := e2
    obtain ⟨x, e3⟩ := e3
    simp [encX] at e3
    obtain ⟨rfl, rfl, rfl⟩ := e3
    exact ⟨⟨a0, a1, a2, x.op, x.a, x.b⟩, rfl⟩
def ReadsS (w : World) (cs : List Value) : Prop := ∃ A c, ∃ xs : List St, cs = [.slice A xs.length c] ∧ xs.length ≤ c ∧ RdS w A xs
theorem opens_stmts : Opens 104 ReadsS :=
  opens_slice8 Tryz.underlying104 6 48 (by kernel_rfl) (by decide) (by kernel_rfl) (by decide) (fun _ x cs => cs = encS x) opens_stmt
theorem opens_task : Opens 108 (fun w cs => ∃ x : Tk, cellsT w x cs) := by
  refine (opens_struct Tryz.underlying108 [(0, 1, 104), (1, 3, 106)] (by kernel_rfl) 4 (by kernel_rfl) (fun i w cs => if i = 0 then ReadsS w cs else ∃ x : Ex, cs = encX x) ?_).imp ?_
  · intro i o s ty hi
    rcases i with _ | _ | i <;> simp at hi
    · obtain ⟨_, _, rfl⟩ := hi; exact opens_stmts
    · obtain ⟨_, _, rfl⟩ := hi; exact opens_expr
  · rintro w cs ⟨hl, h⟩
    obtain ⟨c0, c1, c2, c3, rfl⟩ : ∃ a b c d, cs = [a, b, c, d] := by
      match cs, hl with
      | [a, b, c, d], _ => exact ⟨a, b, c, d, rfl⟩
    have e0 : ReadsS w [c0] := h 0 _ _ _ rfl
    have e1 := h 1 _ _ _ rfl
    simp at e1
    obtain ⟨A, c, xs, e0, hc, hr⟩ := e0
    obtain ⟨x, e1⟩ := e1
    simp [encX] at e1
    simp at e0
    obtain ⟨rfl, rfl, rfl⟩ := e1
    subst e0
    exact ⟨⟨xs, x.op, x.a, x.b⟩, A, c, rfl, hc, hr⟩
def ReadsT (w : World) (cs : List Value) : Prop := ∃ A c, ∃ xs : List Tk, cs = [.slice A xs.length c] ∧ xs.length ≤ c ∧ RdT w A xs
theorem opens_tasks : Opens 22 ReadsT :=
  opens_slice8 Tryz.underlying22 4 48 (by kernel_rfl) (by decide) (by kernel_rfl) (by decide) cellsT opens_task
theorem opens_prog : Opens 24 ReadsT := by
  refine (opens_struct Tryz.underlying24 [(0, 1, 22)] (by kernel_rfl) 1 (by kernel_rfl) (fun i w cs => ReadsT w cs) ?_).imp ?_
  · intro i o s ty hi
    rcases i with _ | i <;> simp at hi
    obtain ⟨_, _, rfl⟩ := hi; exact opens_tasks
  · rintro w cs ⟨hl, h⟩
    obtain ⟨c0, rfl⟩ : ∃ a, cs = [a] := by
      match cs, hl with
      | [a], _ => exact ⟨a, rfl⟩
    exact h 0 _ _ _ rfl
theorem opens_store : Opens 50 (fun _ cs => ∃ x : Sr, cs = [.int .i64 x.chg, .int .i64 x.cap, .int .i64 x.on, .int .i64 x.leak]) := by
  refine (opens_struct Tryz.underlying50 [(0, 1, 3), (1, 1, 3), (2, 1, 3), (3, 1, 3)] (by kernel_rfl) 4 (by kernel_rfl) (fun _ _ cs => ∃ n : Int, cs = [.int .i64 n]) ?_).imp ?_
  · intro i o s ty hi
    have : ty = 3 := by
      rcases i with _ | _ | _ | _ | i <;> simp at hi <;> first | exact hi.2.2.symm | skip
    subst this
    exact opens_int Tryz.underlying3
  · rintro w cs ⟨hl, h⟩
    obtain ⟨c0, c1, c2, c3, rfl⟩ : ∃ a b c d, cs = [a, b, c, d] := by
      match cs, hl with
      | [a, b, c, d], _ => exact ⟨a, b, c, d, rfl⟩
    obtain ⟨a0, e0⟩ := h 0 _ _ _ rfl
    obtain ⟨a1, e1⟩ := h 1 _ _ _ rfl
    obtain ⟨a2, e2⟩ := h 2 _ _ _ rfl
    obtain ⟨a3, e3⟩ := h 3 _ _ _ rfl
    simp at e0 e1 e2 e3
    subst e0 e1 e2 e3
    exact ⟨⟨a0, a1, a2, a3⟩, rfl⟩
theorem opens_span : Opens 52 (fun _ cs => ∃ l h : Int, cs = [.int .i64 l, .int .i64 h]) := by
  refine (opens_struct Tryz.underlying52 [(0, 1, 3), (1, 1, 3)] (by kernel_rfl) 2 (by kernel_rfl) (fun _ _ cs => ∃ n : Int, cs = [.int .i64 n]) ?_).imp ?_
  · intro i o s ty hi
    have : ty = 3 := by
      rcases i with _ | _ | i <;> simp at hi <;> first | exact hi.2.2.symm | skip
    subst this
    exact opens_int Tryz.underlying3
  · rintro w cs ⟨hl, h⟩
    obtain ⟨c0, c1, rfl⟩ : ∃ a b, cs = [a, b] := by
      match cs, hl with
      | [a, b], _ => exact ⟨a, b, rfl⟩
    obtain ⟨a0, e0⟩ := h 0 _ _ _ rfl
    obtain ⟨a1, e1⟩ := h 1 _ _ _ rfl
    simp at e0 e1
    subst e0 e1
    exact ⟨a0, a1, rfl⟩
theorem opens_gateway : Opens 54 ReadsI := by
  refine (opens_struct Tryz.underlying54 [(0, 1, 25)] (by kernel_rfl) 1 (by kernel_rfl) (fun i w cs => ReadsI w cs) ?_).imp ?_
  · intro i o s ty hi
    rcases i with _ | i <;> simp at hi
    obtain ⟨_, _, rfl⟩ := hi; exact opens_ints
  · rintro w cs ⟨hl, h⟩
    obtain ⟨c0, rfl⟩ : ∃ a, cs = [a] := by
      match cs, hl with
      | [a], _ => exact ⟨a, rfl⟩
    exact h 0 _ _ _ rfl
theorem opens_link : Opens 56 (fun w cs => ∃ k v, cs = [.int .i64 k, v] ∧ ReadsI w [v]) := by
  refine (opens_struct Tryz.underlying56 [(0, 1, 3), (1, 1, 54)] (by kernel_rfl) 2 (by kernel_rfl) (fun i w cs => if i = 0 then ∃ n : Int, cs = [.int .i64 n] else ReadsI w cs) ?_).imp ?_
  · intro i o s ty hi
    rcases i with _ | _ | i <;> simp at hi
    · obtain ⟨_, _, rfl⟩ := hi; exact opens_int Tryz.underlying3
    · obtain ⟨_, _, rfl⟩ := hi; exact opens_gateway
  · rintro w cs ⟨hl, h⟩
    obtain ⟨c0, c1, rfl⟩ : ∃ a b, cs = [a, b] := by
      match cs, hl with
      | [a, b], _ => exact ⟨a, b, rfl⟩
    have e0 := h 0 _ _ _ rfl
    have e1 : ReadsI w [c1] := h 1 _ _ _ rfl
    simp at e0
    obtain ⟨k, rfl⟩ := e0
    exact ⟨k, c1, rfl, e1⟩
theorem opens_node : Opens 58 (fun w cs => ∃ (a : NA) (n : Nd), cs = [.slice a.tA n.ts.length a.tc, .slice a.mA n.mem.length a.mc, .slice a.rA n.rd.length a.rc, .int .i64 n.at', .int .i64 n.sr.chg, .int .i64 n.sr.cap, .int .i64 n.sr.on, .int .i64 n.sr.leak, .int .i64 n.lo, .int .i64 n.hi, .int .i64 n.ack, .slice a.gA n.got.length a.gc, .int .i64 n.done] ∧ RdN w a n) := by
  refine (opens_struct Tryz.underlying58 [(0, 1, 24), (1, 1, 25), (2, 1, 25), (3, 1, 3), (4, 4, 50), (8, 2, 52), (10, 2, 56), (12, 1, 3)] (by kernel_rfl) 13 (by kernel_rfl)
    (fun i w cs => if i = 0 then ReadsT w cs else if i = 1 ∨ i = 2 then ReadsI w cs else if i = 4 then ∃ x : Sr, cs = [.int .i64 x.chg, .int .i64 x.cap, .int .i64 x.on, .int .i64 x.leak] else if i = 5 then ∃ l h : Int, cs = [.int .i64 l, .int .i64 h] else if i = 6 then ∃ k v, cs = [.int .i64 k, v] ∧ ReadsI w [v] else ∃ n : Int, cs = [.int .i64 n]) ?_).imp ?_
  · intro i o s ty hi
    rcases i with _ | _ | _ | _ | _ | _ | _ | _ | i <;> simp at hi
    · obtain ⟨_, _, rfl⟩ := hi; exact opens_prog
    · obtain ⟨_, _, rfl⟩ := hi; exact opens_ints
    · obtain ⟨_, _, rfl⟩ := hi; exact opens_ints
    · obtain ⟨_, _, rfl⟩ := hi; exact opens_int Tryz.underlying3
    · obtain ⟨_, _, rfl⟩ := hi; exact opens_store
    · obtain ⟨_, _, rfl⟩ := hi; exact opens_span
    · obtain ⟨_, _, rfl⟩ := hi; exact opens_link
    · obtain ⟨_, _, rfl⟩ := hi; exact opens_int Tryz.underlying3
  · rintro w cs ⟨hl, h⟩
    obtain ⟨c0, c1, c2, c3, c4, c5, c6, c7, c8, c9, c10, c11, c12, rfl⟩ : ∃ a0 a1 a2 a3 a4 a5 a6 a7 a8 a9 a10 a11 a12, cs = [a0, a1, a2, a3, a4, a5, a6, a7, a8, a9, a10, a11, a12] := by
      match cs, hl with
      | [a0, a1, a2, a3, a4, a5, a6, a7, a8, a9, a10, a11, a12], _ => exact ⟨a0, a1, a2, a3, a4, a5, a6, a7, a8, a9, a10, a11, a12, rfl⟩
    obtain ⟨tA, tc, ts, et, htc, hts⟩ : ReadsT w [c0] := h 0 _ _ _ rfl
    obtain ⟨mA, mc, mem, em, hmc, hmem⟩ : ReadsI w [c1] := h 1 _ _ _ rfl
    obtain ⟨rA, rc, rd, er, hrc, hrd⟩ : ReadsI w [c2] := h 2 _ _ _ rfl
    obtain ⟨x3, e3⟩ : ∃ n : Int, [c3] = [.int .i64 n] := h 3 _ _ _ rfl
    obtain ⟨sr, e4⟩ : ∃ x : Sr, [c4, c5, c6, c7] = [.int .i64 x.chg, .int .i64 x.cap, .int .i64 x.on, .int .i64 x.leak] := h 4 _ _ _ rfl
    obtain ⟨lo, hi, e5⟩ : ∃ l h : Int, [c8, c9] = [.int .i64 l, .int .i64 h] := h 5 _ _ _ rfl
    obtain ⟨ack, v, e6, gA, gc, got, eg, hgc, hgot⟩ : ∃ k v, [c10, c11] = [.int .i64 k, v] ∧ ReadsI w [v] := h 6 _ _ _ rfl
    obtain ⟨x7, e7⟩ : ∃ n : Int, [c12] = [.int .i64 n] := h 7 _ _ _ rfl
    simp only [List.cons.injEq, and_true] at et em er e3 e4 e5 e6 e7 eg
    obtain ⟨rfl, rfl, rfl, rfl⟩ := e4
    obtain ⟨rfl, rfl⟩ := e5
    obtain ⟨rfl, rfl⟩ := e6
    subst et em er e3 e7 eg
    exact ⟨⟨tA, tc, mA, mc, rA, rc, gA, gc⟩, ⟨ts, mem, rd, x3, sr, lo, hi, ack, got, x7⟩, rfl, hts, hmem, hrd, hgot, htc, hmc, hrc, hgc⟩
end Go.Proofs.YtgodbldchaonpaaGreat

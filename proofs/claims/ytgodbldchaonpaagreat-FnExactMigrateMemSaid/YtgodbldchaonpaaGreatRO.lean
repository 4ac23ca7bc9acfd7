/- What has been made anew can be read. No condition. -/
import Derived.Test.YtgodbldchaonpaaGreatMO
import Derived.Test.YtgodbldchaonpaaGreatSZ
namespace Go.Proofs.YtgodbldchaonpaaGreat
open Go.RowKit
set_option linter.unusedVariables false
set_option maxRecDepth 100000
theorem own_rd' {α : Type} {enc : α → List Value} {sz : Nat} (he : EncOk enc sz) {w : World} {base : Nat} {e : TypeId} {A : Option Addr} {c n : Nat} {xs : List α} (h : w.ownsRow base e sz (.slice A n c) n (xs.flatMap enc)) (hn : n = xs.length) (hl : xs.length ≤ 17592186044416) : RdF enc sz w A xs ∧ xs.length ≤ c := by
  subst hn
  obtain ⟨A', c', e, hc, hr⟩ := own_rd he h hl
  cases e
  exact ⟨hr, hc⟩
theorem OwT.rd {lo : Nat} {w : World} {A : Option Addr} {c : Nat} {ps : List (Value × Tk)} (h : OwT lo w (.slice A ps.length c) ps) (hl : ps.length ≤ 17592186044416) (hsm : ∀ p ∈ ps, p.2.body.length ≤ 17592186044416) : RdT w A (ps.map (·.2)) ∧ ps.length ≤ c := by
  obtain ⟨_, _, e, hc⟩ := own_shape h.row
  cases e
  refine ⟨⟨by rw [List.length_map]; exact hl, fun j hj => ?_⟩, hc⟩
  rw [List.length_map] at hj
  obtain ⟨g, rfl⟩ := own_some h.row (by omega)
  obtain ⟨c0, c1, c2, c3⟩ := h.cell4 rfl hj
  have hm : ps[j] ∈ ps := List.getElem_mem hj
  obtain ⟨B, c', hp, hcc⟩ := own_shape (h.body _ hm)
  have hb := h.body _ hm
  rw [hp] at hb c0
  have hr := (own_rd' encS_ok hb rfl (hsm _ hm)).1
  refine ⟨g, 0, [.slice B ps[j].2.body.length c', .int .i64 ps[j].2.op, .int .i64 ps[j].2.a, .int .i64 ps[j].2.b], rfl, rfl, ⟨B, c', by simp, by simpa using hcc, by simpa using hr⟩, fun i hi => ?_⟩
  have hi4 : i = 0 ∨ i = 1 ∨ i = 2 ∨ i = 3 := by simp at hi; omega
  rcases hi4 with rfl | rfl | rfl | rfl
  · simpa using c0
  · simpa using c1
  · simpa using c2
  · simpa using c3
theorem OwN.rd' {lo : Nat} {w : World} {tA mA rA gA : Option Addr} {tc mc rc gc : Nat} {ps : List (Value × Tk)} {n : Nd} (h : OwN lo w (.slice tA ps.length tc) (.slice mA n.mem.length mc) (.slice rA n.rd.length rc) (.slice gA n.got.length gc) ps n)
    (hl : ps.length ≤ 17592186044416) (hsm : ∀ p ∈ ps, p.2.body.length ≤ 17592186044416) (hm : n.mem.length ≤ 17592186044416) (hr : n.rd.length ≤ 17592186044416) (hg : n.got.length ≤ 17592186044416) : RdN w ⟨tA, tc, mA, mc, rA, rc, gA, gc⟩ n := by
  have ht := h.ts.rd hl hsm
  have hpl : ps.length = n.ts.length := by rw [← h.eq, List.length_map]
  exact ⟨h.eq ▸ ht.1, (own_rd' encI_ok h.mem rfl hm).1, (own_rd' encI_ok h.rd rfl hr).1, (own_rd' encI_ok h.got rfl hg).1, hpl ▸ ht.2, (own_rd' encI_ok h.mem rfl hm).2, (own_rd' encI_ok h.rd rfl hr).2, (own_rd' encI_ok h.got rfl hg).2⟩
theorem cnt_eq (ps : List (Value × Tk)) : cnt ps = 6 * bodies (ps.map (·.2)) + 3 * ps.length := by
  induction ps with
  | nil => rfl
  | cons p r ih => simp only [cnt, ih, bodies, List.map_cons, List.sum_cons, List.length_cons]; omega
theorem bodies_mem {ts : List Tk} {t : Tk} (h : t ∈ ts) : t.body.length ≤ bodies ts := by
  unfold bodies
  induction ts with
  | nil => cases h
  | cons x r ih =>
    rw [List.map_cons, List.sum_cons]
    rcases List.mem_cons.1 h with rfl | h
    · omega
    · have := ih h; omega
/-- A node that the sizes let by. -/
structure Sml (n : Nd) : Prop where
  ts : n.ts.length ≤ 1048576
  body : ∀ t ∈ n.ts, t.body.length ≤ 1048576
  mem : n.mem.length ≤ 1048576
  rd : n.rd.length ≤ 1048576
  got : n.got.length ≤ 1048576
  bods : bodies n.ts ≤ 1048576
theorem Sml.of {n : Nd} (h : ¬ (1048576 : Int) - totN n < 0) : Sml n := by
  have h' : totN n ≤ 1048576 := by omega
  unfold totN tot at h'
  exact ⟨by omega, fun t ht => by have := bodies_mem ht; omega, by omega, by omega, by omega, by omega⟩
/-- A node made anew, with its places told. -/
def MkN' (n : Nd) (w : World) (e : Ending) (w' : World) : Prop := ∃ (a : NA) (ps : List (Value × Tk)), e = .returned (.agg #[.slice a.tA n.ts.length a.tc, .slice a.mA n.mem.length a.mc, .slice a.rA n.rd.length a.rc, .int .i64 n.at', .int .i64 n.sr.chg, .int .i64 n.sr.cap, .int .i64 n.sr.on, .int .i64 n.sr.leak, .int .i64 n.lo, .int .i64 n.hi, .int .i64 n.ack, .slice a.gA n.got.length a.gc, .int .i64 n.done]) ∧ ps.length = n.ts.length ∧ OwN w.heap.size w' (.slice a.tA ps.length a.tc) (.slice a.mA n.mem.length a.mc) (.slice a.rA n.rd.length a.rc) (.slice a.gA n.got.length a.gc) ps n ∧ RdN w' a n ∧ Bel w w'
theorem toNode_sml (a : NA) (n : Nd) (w : World) (hN : RdN w a n) (hs : Sml n) : Calls Tryz.prog 21 #[.agg #[.slice a.tA n.ts.length a.tc, .slice a.mA n.mem.length a.mc, .slice a.rA n.rd.length a.rc, .int .i64 n.at', .int .i64 n.sr.chg, .int .i64 n.sr.cap, .int .i64 n.sr.on, .int .i64 n.sr.leak, .int .i64 n.lo, .int .i64 n.hi, .int .i64 n.ack, .slice a.gA n.got.length a.gc, .int .i64 n.done]] w (MkN' n w) := by
  refine (toNode_any a n w hN (fun t ht => by have := hs.body t ht; omega) (by have := hs.ts; omega)).mono ?_
  rintro e w' ⟨vt, vm, vr, vg, ps, rfl, ho, hb⟩
  obtain ⟨tA, tc, rfl, _⟩ := ho.ts.shape
  obtain ⟨mA, mc, rfl, _⟩ := own_shape ho.mem
  obtain ⟨rA, rc, rfl, _⟩ := own_shape ho.rd
  obtain ⟨gA, gc, rfl, _⟩ := own_shape ho.got
  have hpl : ps.length = n.ts.length := by rw [← ho.eq, List.length_map]
  have hr := ho.rd' (by rw [hpl]; have := hs.ts; omega) (fun p hp => by have := hs.body p.2 (by rw [← ho.eq]; exact List.mem_map.2 ⟨p, hp, rfl⟩); omega) (by have := hs.mem; omega) (by have := hs.rd; omega) (by have := hs.got; omega)
  refine ⟨⟨tA, tc, mA, mc, rA, rc, gA, gc⟩, ps, ?_, hpl, ho, hr, hb⟩
  unfold valN
  rw [hpl]
end Go.Proofs.YtgodbldchaonpaaGreat

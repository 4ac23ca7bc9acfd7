/- The laws' own copies of nodes. No condition. -/
import Derived.Test.YtgodbldchaonpaaGreatY
namespace Go.Proofs.YtgodbldchaonpaaGreat
open Go.RowKit
set_option linter.unusedVariables false
set_option linter.unusedSimpArgs false
set_option maxRecDepth 100000
def MkG (x : List Value) (xs : List Int) (w : World) (e : Ending) (w' : World) : Prop := ∃ v, e = .returned (.agg (x ++ [v]).toArray) ∧ w'.ownsRow w.heap.size 3 1 v xs.length (xs.flatMap encI) ∧ Bel w w'
set_option maxHeartbeats 1000000 in
theorem toStore_any (s : Sr) (w : World) : Calls Tryz.prog 56 #[.agg #[.int .i64 s.chg, .int .i64 s.cap, .int .i64 s.on, .int .i64 s.leak]] w (Bl (.agg #[.int .i64 s.chg, .int .i64 s.cap, .int .i64 s.on, .int .i64 s.leak]) w) := by
  go_enter Tryz.func56, Tryz.ntmps56
  go_wp2
  refine bodyPost_ret (v := .agg #[.int .i64 s.chg, .int .i64 s.cap, .int .i64 s.on, .int .i64 s.leak]) (by simp [results, Tryz.results56, go_sem]) rfl ⟨rfl, ?_⟩
  repeat (first | (with_reducible exact Bel.refl _) | (with_reducible assumption) | (with_reducible apply Bel.alloc) | (with_reducible apply Bel.drewN) | (with_reducible apply Bel.drew) | (with_reducible refine Bel.set ?_ (by simp <;> omega) _) | (refine Bel.trans ?_ (by with_reducible assumption)))
set_option maxHeartbeats 1000000 in
theorem toSpan_any (l h : Int) (w : World) : Calls Tryz.prog 57 #[.agg #[.int .i64 l, .int .i64 h]] w (Bl (.agg #[.int .i64 l, .int .i64 h]) w) := by
  go_enter Tryz.func57, Tryz.ntmps57
  go_wp2
  refine bodyPost_ret (v := .agg #[.int .i64 l, .int .i64 h]) (by simp [results, Tryz.results57, go_sem]) rfl ⟨rfl, ?_⟩
  repeat (first | (with_reducible exact Bel.refl _) | (with_reducible assumption) | (with_reducible apply Bel.alloc) | (with_reducible apply Bel.drewN) | (with_reducible apply Bel.drew) | (with_reducible refine Bel.set ?_ (by simp <;> omega) _) | (refine Bel.trans ?_ (by with_reducible assumption)))
set_option maxHeartbeats 2000000 in
theorem toGateway_any (A : Option Addr) (xs : List Int) (c : Nat) (w : World) (ha : RdI w A xs) : Calls Tryz.prog 104 #[.agg #[.slice A xs.length c]] w (MkG [] xs w) := by
  have HA := Hd.mk ha
  clear ha
  go_enter Tryz.func104, Tryz.ntmps104
  go_wp2_with (go_at_call 9; refine (toIntS_any A xs c _ (HA.out.bel (by repeat (first | exact Bel.refl _ | assumption | apply Bel.alloc | apply Bel.drewN | apply Bel.drew | (refine Bel.trans ?_ (by assumption)))))).mono ?_; rintro e w' ⟨v, rfl, hown, hb⟩; obtain ⟨A', c', rfl, hcc⟩ := own_shape hown; replace hown := Hd.mk hown; obtain ⟨hc, hf⟩ := hb.rd; have hz := hb.size; (try simp at hz); (first | (have hz0 : w.heap.size < w'.heap.size := by omega) | skip); (first | (have hz1 : w.heap.size + 1 < w'.heap.size := by omega) | skip); (first | (have hz2 : w.heap.size + 1 + 1 < w'.heap.size := by omega) | skip))
  have q0 := hc (w.heap.size + 1) 0 (by simp)
  simp [go_sem] at q0
  have hs3 : ((((w.alloc (.cells #[.slice A xs.length c] 54)).alloc (.cells #[.slice none 0 0] 63)).alloc (.cells #[.slice none 0 0] 63)).heap.size) = w.heap.size + 1 + 1 + 1 := by simp
  rw [hs3] at hown
  clear hs3
  refine bodyPost_ret (v := .agg #[.slice A' xs.length c']) ?_ rfl ⟨_, rfl, own_raise (b := w.heap.size + 1 + 1 + 1) ?_ (fun k hk => by have := (hown.out.lt k hk).1; omega), ?_⟩
  · simp [results, Tryz.results104, go_sem, hz0, hz1, hz2, q0]
  · repeat (first | (with_reducible exact hown.out) | (with_reducible refine World.ownsRow.alloc ?_ _) | (with_reducible refine own_set ?_ _ (by omega)))
  · repeat (first | (with_reducible exact Bel.refl _) | (with_reducible assumption) | (with_reducible apply Bel.alloc) | (with_reducible apply Bel.drewN) | (with_reducible apply Bel.drew) | (with_reducible refine Bel.set ?_ (by simp <;> omega) _) | (refine Bel.trans ?_ (by with_reducible assumption)))
set_option maxHeartbeats 2000000 in
theorem toLink_any (x : Int) (A : Option Addr) (xs : List Int) (c : Nat) (w : World) (ha : RdI w A xs) : Calls Tryz.prog 58 #[.agg #[.int .i64 x, .slice A xs.length c]] w (MkG [.int .i64 x] xs w) := by
  have HA := Hd.mk ha
  clear ha
  go_enter Tryz.func58, Tryz.ntmps58
  go_wp2_with (go_at_call 104; refine (toGateway_any A xs c _ (HA.out.bel (by repeat (first | exact Bel.refl _ | assumption | apply Bel.alloc | apply Bel.drewN | apply Bel.drew | (refine Bel.trans ?_ (by assumption)))))).mono ?_; rintro e w' ⟨v, rfl, hown, hb⟩; obtain ⟨A', c', rfl, hcc⟩ := own_shape hown; replace hown := Hd.mk hown; obtain ⟨hc, hf⟩ := hb.rd; simp only [List.nil_append]; have hz := hb.size; (try simp at hz); (first | (have hz0 : w.heap.size < w'.heap.size := by omega) | skip); (first | (have hz1 : w.heap.size + 1 < w'.heap.size := by omega) | skip); (first | (have hz2 : w.heap.size + 1 + 1 < w'.heap.size := by omega) | skip))
  have q0 := hc (w.heap.size + 1) 0 (by simp)
  have q1 := hc (w.heap.size + 1) 1 (by simp)
  have p0 := hc (w.heap.size + 1 + 1) 0 (by simp)
  simp [go_sem] at q0 q1 p0
  have hlo : ∀ k, (Value.slice A' xs.length c').ownBlock = some k → w.heap.size + 1 + 1 + 1 ≤ k := fun k hk => by have := (hown.out.lt k hk).1; simp at this; omega
  replace hown := Hd.mk (own_raise hown.out hlo)
  refine bodyPost_ret (v := .agg #[.int .i64 x, .slice A' xs.length c']) ?_ rfl ⟨_, rfl, own_raise (b := w.heap.size + 1 + 1 + 1) ?_ (fun k hk => by have := hlo k hk; omega), ?_⟩
  · simp [results, Tryz.results58, go_sem, hz0, hz1, hz2, q0, q1, p0]
  · repeat (first | (with_reducible exact hown.out) | (with_reducible refine World.ownsRow.alloc ?_ _) | (with_reducible refine own_set ?_ _ (by omega)))
  · repeat (first | (with_reducible exact Bel.refl _) | (with_reducible assumption) | (with_reducible apply Bel.alloc) | (with_reducible apply Bel.drewN) | (with_reducible apply Bel.drew) | (with_reducible refine Bel.set ?_ (by simp <;> omega) _) | (refine Bel.trans ?_ (by with_reducible assumption)))
/-- A node made anew. -/
structure OwN (lo : Nat) (w : World) (vt vm vr vg : Value) (ps : List (Value × Tk)) (n : Nd) : Prop where
  ts : OwT lo w vt ps
  mem : w.ownsRow lo 3 1 vm n.mem.length (n.mem.flatMap encI)
  rd : w.ownsRow lo 3 1 vr n.rd.length (n.rd.flatMap encI)
  got : w.ownsRow lo 3 1 vg n.got.length (n.got.flatMap encI)
  mr : ∀ k, vm.ownBlock = some k → vr.ownBlock ≠ some k
  mg : ∀ k, vm.ownBlock = some k → vg.ownBlock ≠ some k
  rg : ∀ k, vr.ownBlock = some k → vg.ownBlock ≠ some k
  eq : ps.map (·.2) = n.ts
def valN (vt vm vr vg : Value) (n : Nd) : Value := .agg #[vt, vm, vr, .int .i64 n.at', .int .i64 n.sr.chg, .int .i64 n.sr.cap, .int .i64 n.sr.on, .int .i64 n.sr.leak, .int .i64 n.lo, .int .i64 n.hi, .int .i64 n.ack, vg, .int .i64 n.done]
def MkN (n : Nd) (w : World) (e : Ending) (w' : World) : Prop := ∃ vt vm vr vg ps, e = .returned (valN vt vm vr vg n) ∧ OwN w.heap.size w' vt vm vr vg ps n ∧ Bel w w'
set_option maxHeartbeats 4000000 in
theorem toNode_any (a : NA) (n : Nd) (w : World) (hN : RdN w a n) (hs : small n.ts) (hsz : n.ts.length ≤ 1099511627776) : Calls Tryz.prog 21 #[.agg #[.slice a.tA n.ts.length a.tc, .slice a.mA n.mem.length a.mc, .slice a.rA n.rd.length a.rc, .int .i64 n.at', .int .i64 n.sr.chg, .int .i64 n.sr.cap, .int .i64 n.sr.on, .int .i64 n.sr.leak, .int .i64 n.lo, .int .i64 n.hi, .int .i64 n.ack, .slice a.gA n.got.length a.gc, .int .i64 n.done]] w (MkN n w) := by
  have HN := Hd.mk hN
  have HS := Hd.mk hs
  clear hN hs
  go_enter Tryz.func21, Tryz.ntmps21
  go_wp2_with (first | (go_at_call 8; (with_reducible refine (toProgram_any a.tA n.ts a.tc _ ?_ HS.out hsz).mono ?_); (exact RdT.bel HN.out.ts (by repeat (first | (with_reducible exact Bel.refl _) | (with_reducible assumption) | (with_reducible apply Bel.alloc) | (with_reducible apply Bel.drewN) | (with_reducible apply Bel.drew) | (with_reducible refine Bel.set ?_ (by simp <;> omega) _) | (refine Bel.trans ?_ (by with_reducible assumption))))); rintro e w' ⟨v, ps, rfl, hps, hownT, hb⟩; obtain ⟨tA', tc', rfl, hcc⟩ := hownT.shape; replace hownT := Hd.mk hownT; replace hps := Hd.mk hps; obtain ⟨hc, hf⟩ := hb.rd; have hz := hb.size; (try simp at hz); (first | (have hz0 : w.heap.size < w'.heap.size := by omega) | skip); (first | (have hz1 : w.heap.size + 1 < w'.heap.size := by omega) | skip); (first | (have hz2 : w.heap.size + 1 + 1 < w'.heap.size := by omega) | skip)) | (go_at_call 9; (with_reducible refine (toIntS_any a.mA n.mem a.mc _ ?_).mono ?_); (exact HN.out.mem.bel (by repeat (first | (with_reducible exact Bel.refl _) | (with_reducible assumption) | (with_reducible apply Bel.alloc) | (with_reducible apply Bel.drewN) | (with_reducible apply Bel.drew) | (with_reducible refine Bel.set ?_ (by simp <;> omega) _) | (refine Bel.trans ?_ (by with_reducible assumption))))); rintro e w' ⟨v, rfl, hownM, hb⟩; obtain ⟨mA', mc', rfl, hcc⟩ := own_shape hownM; replace hownM := Hd.mk hownM; obtain ⟨hc, hf⟩ := hb.rd; have hz := hb.size; (try simp at hz); (first | (have hz0 : w.heap.size < w'.heap.size := by omega) | skip); (first | (have hz1 : w.heap.size + 1 < w'.heap.size := by omega) | skip); (first | (have hz2 : w.heap.size + 1 + 1 < w'.heap.size := by omega) | skip)) | (go_at_call 9; (with_reducible refine (toIntS_any a.rA n.rd a.rc _ ?_).mono ?_); (exact HN.out.rd.bel (by repeat (first | (with_reducible exact Bel.refl _) | (with_reducible assumption) | (with_reducible apply Bel.alloc) | (with_reducible apply Bel.drewN) | (with_reducible apply Bel.drew) | (with_reducible refine Bel.set ?_ (by simp <;> omega) _) | (refine Bel.trans ?_ (by with_reducible assumption))))); rintro e w' ⟨v, rfl, hownR, hb⟩; obtain ⟨rA', rc', rfl, hcc⟩ := own_shape hownR; replace hownR := Hd.mk hownR; obtain ⟨hc, hf⟩ := hb.rd; have hz := hb.size; (try simp at hz); (first | (have hz0 : w.heap.size < w'.heap.size := by omega) | skip); (first | (have hz1 : w.heap.size + 1 < w'.heap.size := by omega) | skip); (first | (have hz2 : w.heap.size + 1 + 1 < w'.heap.size := by omega) | skip)) | (go_at_call 56; (with_reducible refine (toStore_any n.sr _).mono ?_); rintro e w' ⟨rfl, hb⟩; obtain ⟨hc, hf⟩ := hb.rd; have hz := hb.size; (try simp at hz); (first | (have hz0 : w.heap.size < w'.heap.size := by omega) | skip); (first | (have hz1 : w.heap.size + 1 < w'.heap.size := by omega) | skip); (first | (have hz2 : w.heap.size + 1 + 1 < w'.heap.size := by omega) | skip)) | (go_at_call 57; (with_reducible refine (toSpan_any n.lo n.hi _).mono ?_); rintro e w' ⟨rfl, hb⟩; obtain ⟨hc, hf⟩ := hb.rd; have hz := hb.size; (try simp at hz); (first | (have hz0 : w.heap.size < w'.heap.size := by omega) | skip); (first | (have hz1 : w.heap.size + 1 < w'.heap.size := by omega) | skip); (first | (have hz2 : w.heap.size + 1 + 1 < w'.heap.size := by omega) | skip)) | (go_at_call 58; (with_reducible refine (toLink_any n.ack a.gA n.got a.gc _ ?_).mono ?_); (exact HN.out.got.bel (by repeat (first | (with_reducible exact Bel.refl _) | (with_reducible assumption) | (with_reducible apply Bel.alloc) | (with_reducible apply Bel.drewN) | (with_reducible apply Bel.drew) | (with_reducible refine Bel.set ?_ (by simp <;> omega) _) | (refine Bel.trans ?_ (by with_reducible assumption))))); rintro e w' ⟨v, rfl, hownG, hb⟩; obtain ⟨gA', gc', rfl, hcc⟩ := own_shape hownG; replace hownG := Hd.mk hownG; obtain ⟨hc, hf⟩ := hb.rd; simp only [List.cons_append, List.nil_append]; have hz := hb.size; (try simp at hz); (first | (have hz0 : w.heap.size < w'.heap.size := by omega) | skip); (first | (have hz1 : w.heap.size + 1 < w'.heap.size := by omega) | skip); (first | (have hz2 : w.heap.size + 1 + 1 < w'.heap.size := by omega) | skip)))
  have HT' : Hd (OwT (w.heap.size + 1 + 1 + 1) _ _ _) := ⟨hownT.out.lower (by simp)⟩
  have HM' : Hd (World.ownsRow _ (w.heap.size + 1 + 1 + 1) _ _ _ _ _) := ⟨own_raise hownM.out (fun k hk => by have := (hownM.out.lt k hk).1; simp at this; omega)⟩
  have HR' : Hd (World.ownsRow _ (w.heap.size + 1 + 1 + 1) _ _ _ _ _) := ⟨own_raise hownR.out (fun k hk => by have := (hownR.out.lt k hk).1; simp at this; omega)⟩
  have HG' : Hd (World.ownsRow _ (w.heap.size + 1 + 1 + 1) _ _ _ _ _) := ⟨own_raise hownG.out (fun k hk => by have := (hownG.out.lt k hk).1; simp at this; omega)⟩
  have hMR : ∀ k, (Value.slice mA' n.mem.length mc').ownBlock = some k → (Value.slice rA' n.rd.length rc').ownBlock ≠ some k := fun k h1 h2 => by
    have a1 := (hownM.out.lt k h1).2; have a2 := (hownR.out.lt k h2).1; simp at a2; omega
  have hRG : ∀ k, (Value.slice rA' n.rd.length rc').ownBlock = some k → (Value.slice gA' n.got.length gc').ownBlock ≠ some k := fun k h1 h2 => by
    have a1 := (hownR.out.lt k h1).2; have a2 := (hownG.out.lt k h2).1; simp at a2; omega
  have hMG : ∀ k, (Value.slice mA' n.mem.length mc').ownBlock = some k → (Value.slice gA' n.got.length gc').ownBlock ≠ some k := fun k h1 h2 => by
    have a1 := (hownM.out.lt k h1).2; have a2 := (hownG.out.lt k h2).1; simp at a2; omega
  refine bodyPost_ret (v := valN (.slice tA' ps.length tc') (.slice mA' n.mem.length mc') (.slice rA' n.rd.length rc') (.slice gA' n.got.length gc') n) ?_ rfl ⟨_, _, _, _, ps, rfl, ⟨OwT.lower (lo := w.heap.size + 1 + 1 + 1) ?_ (by omega), own_raise (b := w.heap.size + 1 + 1 + 1) ?_ ?_, own_raise (b := w.heap.size + 1 + 1 + 1) ?_ ?_, own_raise (b := w.heap.size + 1 + 1 + 1) ?_ ?_, hMR, hMG, hRG, hps.out⟩, ?_⟩
  · clear HT' HM' HR' HG' hMR hMG hRG HN HS hps hownT hownM hownR hownG
    simp [results, Tryz.results21, go_sem, valN, *]
  · repeat (first | (with_reducible exact HT'.out) | (with_reducible refine OwT.alloc ?_ _) | (with_reducible refine OwT.set ?_ _ (by omega)) | (refine OwT.bel ?_ (by with_reducible assumption)))
  · repeat (first | (with_reducible exact HM'.out) | (with_reducible refine World.ownsRow.alloc ?_ _) | (with_reducible refine own_set ?_ _ (by omega)) | (refine own_bel ?_ (by with_reducible assumption)))
  · intro k hk; have := (HM'.out.lt k hk).1; omega
  · repeat (first | (with_reducible exact HR'.out) | (with_reducible refine World.ownsRow.alloc ?_ _) | (with_reducible refine own_set ?_ _ (by omega)) | (refine own_bel ?_ (by with_reducible assumption)))
  · intro k hk; have := (HR'.out.lt k hk).1; omega
  · repeat (first | (with_reducible exact HG'.out) | (with_reducible refine World.ownsRow.alloc ?_ _) | (with_reducible refine own_set ?_ _ (by omega)) | (refine own_bel ?_ (by with_reducible assumption)))
  · intro k hk; have := (HG'.out.lt k hk).1; omega
  · repeat (first | (with_reducible exact Bel.refl _) | (with_reducible assumption) | (with_reducible apply Bel.alloc) | (with_reducible apply Bel.drewN) | (with_reducible apply Bel.drew) | (with_reducible refine Bel.set ?_ (by simp <;> omega) _) | (refine Bel.trans ?_ (by with_reducible assumption)))
end Go.Proofs.YtgodbldchaonpaaGreat

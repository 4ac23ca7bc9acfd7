/- The law FnExactSentBy: its walk. No condition. -/
import Derived.Test.YtgodbldchaonpaaGreatRO
namespace Go.Proofs.YtgodbldchaonpaaGreat
open Go.RowKit
set_option linter.unusedVariables false
set_option maxRecDepth 100000
theorem box_all (w : World) (cs : Array Value) (t : TypeId) : ∀ o, (w.alloc (.cells cs t)).cell? ⟨w.heap.size, o, none⟩ = cs[o]? := fun o => cell_of_row _ _ _ cs t (0, 0) (heap_alloc_new w _)
theorem box_bel {W w' : World} {g : Nat} {cs : Array Value} (h : ∀ o, W.cell? ⟨g, o, none⟩ = cs[o]?) (hb : Bel W w') (hg : g < W.heap.size) : ∀ o, w'.cell? ⟨g, o, none⟩ = cs[o]? := fun o => (hb.out.cell (p := ⟨g, o, none⟩) hg).trans (h o)
theorem OwN.bel {lo : Nat} {w w' : World} {vt vm vr vg : Value} {ps : List (Value × Tk)} {n : Nd} (h : OwN lo w vt vm vr vg ps n) (hb : Bel w w') : OwN lo w' vt vm vr vg ps n :=
  ⟨h.ts.bel hb, own_bel h.mem hb, own_bel h.rd hb, own_bel h.got hb, h.mr, h.mg, h.rg, h.eq⟩
/-- A node made anew and small is marked. -/
theorem markNode_sml (lo : Nat) (a : NA) (ps : List (Value × Tk)) (n : Nd) (w : World) (hpl : ps.length = n.ts.length) (hs : Sml n)
    (ho : OwN lo w (.slice a.tA ps.length a.tc) (.slice a.mA n.mem.length a.mc) (.slice a.rA n.rd.length a.rc) (.slice a.gA n.got.length a.gc) ps n) :
    Calls Tryz.prog 26 #[.agg #[.slice a.tA n.ts.length a.tc, .slice a.mA n.mem.length a.mc, .slice a.rA n.rd.length a.rc, .int .i64 n.at', .int .i64 n.sr.chg, .int .i64 n.sr.cap, .int .i64 n.sr.on, .int .i64 n.sr.leak, .int .i64 n.lo, .int .i64 n.hi, .int .i64 n.ack, .slice a.gA n.got.length a.gc, .int .i64 n.done], .int .i64 1] w (Mrk (.slice a.tA ps.length a.tc) 1 (cntN ps n) (fun w' => OwN lo w' (.slice a.tA ps.length a.tc) (.slice a.mA n.mem.length a.mc) (.slice a.rA n.rd.length a.rc) (.slice a.gA n.got.length a.gc) (mkTs 1 ps) (mkN 1 ps n)) (NodeB (.slice a.tA ps.length a.tc) (.slice a.mA n.mem.length a.mc) (.slice a.rA n.rd.length a.rc) (.slice a.gA n.got.length a.gc) ps) w) := by
  have hc : cntN ps n ≤ 20000000 := by
    unfold cntN; rw [cnt_eq, ho.eq, hpl]
    have := hs.bods; have := hs.ts; have := hs.mem; have := hs.rd; have := hs.got; omega
  have h := markNode_any lo a.tA a.mA a.rA a.gA a.tc a.mc a.rc a.gc ps n 1 w ho (by omega) (by omega) (by rw [hpl]; have := hs.ts; omega) (fun p hp => by have := hs.body p.2 (by rw [← ho.eq]; exact List.mem_map.2 ⟨p, hp, rfl⟩); omega) (by have := hs.mem; omega) (by have := hs.rd; omega) (by have := hs.got; omega)
  unfold valN at h
  rw [hpl] at h ⊢
  exact h
theorem Bel.trans' {S : Nat → Prop} {w a b : World} (h : Bel w a) (hc : Chg S a b) (hS : ∀ k, S k → w.heap.size ≤ k) : Bel w b :=
  ⟨⟨hc.os.trans h.out.os, hc.tape.trans h.out.tape, hc.output.trans h.out.output, Nat.le_trans h.out.size hc.size, fun k hk => (hc.block k (Nat.lt_of_lt_of_le hk h.out.size) (fun e => by have := hS k e; omega)).trans (h.out.block k hk)⟩⟩
theorem Chg.toBel {S : Nat → Prop} {w a b : World} (hc : Chg S a b) (h : Bel w a) (hS : ∀ k, S k → w.heap.size ≤ k) : Bel w b :=
  h.trans' hc hS
theorem sent_by_len (n : Nd) : (sentBy n).length ≤ 24 := by
  unfold sentBy; split
  · exact sent_len _
  · simp

/- What program and reference answer on nodes. No condition. -/
import Derived.Test.YtgodbldchaonpaaGreatT
namespace Go.Proofs.YtgodbldchaonpaaGreat
open Go.RowKit
set_option linter.unusedVariables false
set_option maxRecDepth 100000
structure Nd where
  ts : List Tk
  mem : List Int
  rd : List Int
  at' : Int
  sr : Sr
  lo : Int
  hi : Int
  ack : Int
  got : List Int
  done : Int
  deriving DecidableEq, Inhabited
/-- Where a node's rows lie. -/
structure NA where
  tA : Option Addr
  tc : Nat
  mA : Option Addr
  mc : Nat
  rA : Option Addr
  rc : Nat
  gA : Option Addr
  gc : Nat
structure RdN (w : World) (a : NA) (n : Nd) : Prop where
  ts : RdT w a.tA n.ts
  mem : RdI w a.mA n.mem
  rd : RdI w a.rA n.rd
  got : RdI w a.gA n.got
  tcap : n.ts.length ≤ a.tc
  mcap : n.mem.length ≤ a.mc
  rcap : n.rd.length ≤ a.rc
  gcap : n.got.length ≤ a.gc
theorem RdN.bel {w w' : World} {a : NA} {n : Nd} (h : RdN w a n) (hb : Bel w w') : RdN w' a n := ⟨RdT.bel h.ts hb, h.mem.bel hb, h.rd.bel hb, h.got.bel hb, h.tcap, h.mcap, h.rcap, h.gcap⟩
def nodeOk (n : Nd) : Bool := memOk n.ts n.mem && (srOk n.sr && (n.rd.all vOk && (inB n.at' 0 400000 && (spOk n.lo n.hi && (linkOk n.mem n.ack n.got && inB n.done 0 100000)))))
def sentBy (n : Nd) : List Int := if nodeOk n = true then sentOf n.mem else []
set_option maxHeartbeats 4000000 in
theorem NodeOk_any (a : NA) (n : Nd) (w : World) (hN : RdN w a n) : Calls Tryz.prog 60 #[.agg #[.slice a.tA n.ts.length a.tc, .slice a.mA n.mem.length a.mc, .slice a.rA n.rd.length a.rc, .int .i64 n.at', .int .i64 n.sr.chg, .int .i64 n.sr.cap, .int .i64 n.sr.on, .int .i64 n.sr.leak, .int .i64 n.lo, .int .i64 n.hi, .int .i64 n.ack, .slice a.gA n.got.length a.gc, .int .i64 n.done]] w (Bl (.bool (nodeOk n)) w) := by
  replace hN := Hd.mk hN
  go_enter Tryz.func60, Tryz.ntmps60
  go_wp2_with (first | (go_at_call 40; refine (MemOk_any a.tA a.mA n.ts n.mem a.tc a.mc _ hN.out.mcap (RdT.bel hN.out.ts (by repeat (first | exact Bel.refl _ | assumption | apply Bel.alloc | apply Bel.drewN | apply Bel.drew | (refine Bel.trans ?_ (by assumption))))) (hN.out.mem.bel (by repeat (first | exact Bel.refl _ | assumption | apply Bel.alloc | apply Bel.drewN | apply Bel.drew | (refine Bel.trans ?_ (by assumption)))))).mono ?_; rintro e w' ⟨rfl, hb⟩; have hB : Bel w w' := (by repeat (first | exact Bel.refl _ | assumption | apply Bel.alloc | apply Bel.drewN | apply Bel.drew | (refine Bel.trans ?_ (by assumption)))); obtain ⟨hc0, hf0⟩ := hB.rd; obtain ⟨hc, hf⟩ := hb.rd; have hz := hb.size; (try simp at hz); (first | (have hz0 : w.heap.size < w'.heap.size := by omega) | skip); (first | (have hz1 : w.heap.size + 1 < w'.heap.size := by omega) | skip)) | (go_at_call 107; refine (StoreOk_any n.sr _).mono ?_; rintro e w' ⟨rfl, hb⟩; have hB : Bel w w' := (by repeat (first | exact Bel.refl _ | assumption | apply Bel.alloc | apply Bel.drewN | apply Bel.drew | (refine Bel.trans ?_ (by assumption)))); obtain ⟨hc0, hf0⟩ := hB.rd; obtain ⟨hc, hf⟩ := hb.rd; have hz := hb.size; (try simp at hz); (first | (have hz0 : w.heap.size < w'.heap.size := by omega) | skip); (first | (have hz1 : w.heap.size + 1 < w'.heap.size := by omega) | skip)) | (go_at_call 81; refine (areValues_any a.rA n.rd a.rc _ (hN.out.rd.bel (by repeat (first | exact Bel.refl _ | assumption | apply Bel.alloc | apply Bel.drewN | apply Bel.drew | (refine Bel.trans ?_ (by assumption)))))).mono ?_; rintro e w' ⟨rfl, hb⟩; have hB : Bel w w' := (by repeat (first | exact Bel.refl _ | assumption | apply Bel.alloc | apply Bel.drewN | apply Bel.drew | (refine Bel.trans ?_ (by assumption)))); obtain ⟨hc0, hf0⟩ := hB.rd; obtain ⟨hc, hf⟩ := hb.rd; have hz := hb.size; (try simp at hz); (first | (have hz0 : w.heap.size < w'.heap.size := by omega) | skip); (first | (have hz1 : w.heap.size + 1 < w'.heap.size := by omega) | skip)) | (go_at_call 92; refine (within_any _ _ _ _).mono ?_; rintro e w' ⟨rfl, rfl⟩) | (go_at_call 108; refine (SpanOk_any n.lo n.hi _).mono ?_; rintro e w' ⟨rfl, hb⟩; have hB : Bel w w' := (by repeat (first | exact Bel.refl _ | assumption | apply Bel.alloc | apply Bel.drewN | apply Bel.drew | (refine Bel.trans ?_ (by assumption)))); obtain ⟨hc0, hf0⟩ := hB.rd; obtain ⟨hc, hf⟩ := hb.rd; have hz := hb.size; (try simp at hz); (first | (have hz0 : w.heap.size < w'.heap.size := by omega) | skip); (first | (have hz1 : w.heap.size + 1 < w'.heap.size := by omega) | skip)) | (go_at_call 109; refine (LinkOk_any a.mA a.gA n.mem n.got n.ack a.mc a.gc _ hN.out.mcap (hN.out.mem.bel (by repeat (first | exact Bel.refl _ | assumption | apply Bel.alloc | apply Bel.drewN | apply Bel.drew | (refine Bel.trans ?_ (by assumption))))) (hN.out.got.bel (by repeat (first | exact Bel.refl _ | assumption | apply Bel.alloc | apply Bel.drewN | apply Bel.drew | (refine Bel.trans ?_ (by assumption)))))).mono ?_; rintro e w' ⟨rfl, hb⟩; have hB : Bel w w' := (by repeat (first | exact Bel.refl _ | assumption | apply Bel.alloc | apply Bel.drewN | apply Bel.drew | (refine Bel.trans ?_ (by assumption)))); obtain ⟨hc0, hf0⟩ := hB.rd; obtain ⟨hc, hf⟩ := hb.rd; have hz := hb.size; (try simp at hz); (first | (have hz0 : w.heap.size < w'.heap.size := by omega) | skip); (first | (have hz1 : w.heap.size + 1 < w'.heap.size := by omega) | skip)))
  all_goals (go_ret; refine ⟨retB ?_, ?_⟩; rotate_left; (repeat (first | exact Bel.refl _ | assumption | apply Bel.alloc | apply Bel.drewN | apply Bel.drew | (refine Bel.trans ?_ (by assumption)))); unfold nodeOk; first | (simp_all; done) | grind)
set_option maxHeartbeats 4000000 in
theorem sNodeOk_any (a : NA) (n : Nd) (w : World) (hN : RdN w a n) : Calls Tryz.prog 54 #[.agg #[.slice a.tA n.ts.length a.tc, .slice a.mA n.mem.length a.mc, .slice a.rA n.rd.length a.rc, .int .i64 n.at', .int .i64 n.sr.chg, .int .i64 n.sr.cap, .int .i64 n.sr.on, .int .i64 n.sr.leak, .int .i64 n.lo, .int .i64 n.hi, .int .i64 n.ack, .slice a.gA n.got.length a.gc, .int .i64 n.done]] w (Bl (.bool (nodeOk n)) w) := by
  replace hN := Hd.mk hN
  go_enter Tryz.func54, Tryz.ntmps54
  go_wp2_with (first | (go_at_call 31; refine (sMemOk_any a.tA a.mA n.ts n.mem a.tc a.mc _ hN.out.mcap (RdT.bel hN.out.ts (by repeat (first | exact Bel.refl _ | assumption | apply Bel.alloc | apply Bel.drewN | apply Bel.drew | (refine Bel.trans ?_ (by assumption))))) (hN.out.mem.bel (by repeat (first | exact Bel.refl _ | assumption | apply Bel.alloc | apply Bel.drewN | apply Bel.drew | (refine Bel.trans ?_ (by assumption)))))).mono ?_; rintro e w' ⟨rfl, hb⟩; have hB : Bel w w' := (by repeat (first | exact Bel.refl _ | assumption | apply Bel.alloc | apply Bel.drewN | apply Bel.drew | (refine Bel.trans ?_ (by assumption)))); obtain ⟨hc0, hf0⟩ := hB.rd; obtain ⟨hc, hf⟩ := hb.rd; have hz := hb.size; (try simp at hz); (first | (have hz0 : w.heap.size < w'.heap.size := by omega) | skip); (first | (have hz1 : w.heap.size + 1 < w'.heap.size := by omega) | skip)) | (go_at_call 99; refine (sStoreOk_any n.sr _).mono ?_; rintro e w' ⟨rfl, hb⟩; have hB : Bel w w' := (by repeat (first | exact Bel.refl _ | assumption | apply Bel.alloc | apply Bel.drewN | apply Bel.drew | (refine Bel.trans ?_ (by assumption)))); obtain ⟨hc0, hf0⟩ := hB.rd; obtain ⟨hc, hf⟩ := hb.rd; have hz := hb.size; (try simp at hz); (first | (have hz0 : w.heap.size < w'.heap.size := by omega) | skip); (first | (have hz1 : w.heap.size + 1 < w'.heap.size := by omega) | skip)) | (go_at_call 70; refine (l09Values_any a.rA n.rd a.rc _ (hN.out.rd.bel (by repeat (first | exact Bel.refl _ | assumption | apply Bel.alloc | apply Bel.drewN | apply Bel.drew | (refine Bel.trans ?_ (by assumption)))))).mono ?_; rintro e w' ⟨rfl, hb⟩; have hB : Bel w w' := (by repeat (first | exact Bel.refl _ | assumption | apply Bel.alloc | apply Bel.drewN | apply Bel.drew | (refine Bel.trans ?_ (by assumption)))); obtain ⟨hc0, hf0⟩ := hB.rd; obtain ⟨hc, hf⟩ := hb.rd; have hz := hb.size; (try simp at hz); (first | (have hz0 : w.heap.size < w'.heap.size := by omega) | skip); (first | (have hz1 : w.heap.size + 1 < w'.heap.size := by omega) | skip)) | (go_at_call 71; refine (l01In_any _ _ _ _).mono ?_; rintro e w' ⟨rfl, rfl⟩) | (go_at_call 100; refine (sSpanOk_any n.lo n.hi _).mono ?_; rintro e w' ⟨rfl, hb⟩; have hB : Bel w w' := (by repeat (first | exact Bel.refl _ | assumption | apply Bel.alloc | apply Bel.drewN | apply Bel.drew | (refine Bel.trans ?_ (by assumption)))); obtain ⟨hc0, hf0⟩ := hB.rd; obtain ⟨hc, hf⟩ := hb.rd; have hz := hb.size; (try simp at hz); (first | (have hz0 : w.heap.size < w'.heap.size := by omega) | skip); (first | (have hz1 : w.heap.size + 1 < w'.heap.size := by omega) | skip)) | (go_at_call 101; refine (sLinkOk_any a.mA a.gA n.mem n.got n.ack a.mc a.gc _ hN.out.mcap (hN.out.mem.bel (by repeat (first | exact Bel.refl _ | assumption | apply Bel.alloc | apply Bel.drewN | apply Bel.drew | (refine Bel.trans ?_ (by assumption))))) (hN.out.got.bel (by repeat (first | exact Bel.refl _ | assumption | apply Bel.alloc | apply Bel.drewN | apply Bel.drew | (refine Bel.trans ?_ (by assumption)))))).mono ?_; rintro e w' ⟨rfl, hb⟩; have hB : Bel w w' := (by repeat (first | exact Bel.refl _ | assumption | apply Bel.alloc | apply Bel.drewN | apply Bel.drew | (refine Bel.trans ?_ (by assumption)))); obtain ⟨hc0, hf0⟩ := hB.rd; obtain ⟨hc, hf⟩ := hb.rd; have hz := hb.size; (try simp at hz); (first | (have hz0 : w.heap.size < w'.heap.size := by omega) | skip); (first | (have hz1 : w.heap.size + 1 < w'.heap.size := by omega) | skip)))
  all_goals (go_ret; refine ⟨retB ?_, ?_⟩; rotate_left; (repeat (first | exact Bel.refl _ | assumption | apply Bel.alloc | apply Bel.drewN | apply Bel.drew | (refine Bel.trans ?_ (by assumption)))); unfold nodeOk; first | (simp_all; done) | grind)

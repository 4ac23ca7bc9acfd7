/- The laws' own helpers: what equals itself is told equal; what a size leaves. No condition. -/
import Derived.Test.YtgodbldchaonpaaGreatU
namespace Go.Proofs.YtgodbldchaonpaaGreat
open Go.RowKit
set_option linter.unusedVariables false
set_option maxRecDepth 100000
set_option maxHeartbeats 1000000 in
theorem eqExpr_same (e : Ex) (w : World) : Calls Tryz.prog 94 #[.agg #[.int .i64 e.op, .int .i64 e.a, .int .i64 e.b], .agg #[.int .i64 e.op, .int .i64 e.a, .int .i64 e.b]] w (Bl (.bool true) w) := by
  go_enter Tryz.func94, Tryz.ntmps94
  go_wp2
  all_goals (go_ret; exact ⟨rfl, (by repeat (first | exact Bel.refl _ | assumption | apply Bel.alloc | apply Bel.drewN | apply Bel.drew | (refine Bel.trans ?_ (by assumption))))⟩)
set_option maxHeartbeats 1000000 in
theorem eqStmt_same (s : St) (w : World) : Calls Tryz.prog 154 #[.agg #[.int .i64 s.kind, .int .i64 s.var, .int .i64 s.n, .int .i64 s.op, .int .i64 s.a, .int .i64 s.b], .agg #[.int .i64 s.kind, .int .i64 s.var, .int .i64 s.n, .int .i64 s.op, .int .i64 s.a, .int .i64 s.b]] w (Bl (.bool true) w) := by
  go_enter Tryz.func154, Tryz.ntmps154
  go_wp2_with (go_at_call 94; refine (eqExpr_same ⟨_, _, _⟩ _).mono ?_; rintro e w' ⟨rfl, hb⟩; obtain ⟨hc, hf⟩ := hb.rd)
  all_goals (go_ret; exact ⟨rfl, (by repeat (first | exact Bel.refl _ | assumption | apply Bel.alloc | apply Bel.drewN | apply Bel.drew | (refine Bel.trans ?_ (by assumption))))⟩)
set_option maxHeartbeats 2000000 in
theorem eqStmtS_same (A B : Option Addr) (xs : List St) (c d : Nat) (w : World) (ha : RdS w A xs) (hb : RdS w B xs) :
   Calls Tryz.prog 138 #[.slice A xs.length c, .slice B xs.length d] w (Bl (.bool true) w) := by
  have hlen := ha.len
  have HA := Hd.mk ha
  have HB := Hd.mk hb
  clear ha hb
  go_enter Tryz.func138, Tryz.ntmps138
  go_wp2
  go_loopw [5] (fun i wr => ∃ k : Nat, k ≤ xs.length ∧ i = .int .i64 k ∧ Bel w wr) (fun i _ => xs.length - (intOf i).toNat)
  case atStart => exact ⟨0, Nat.zero_le _, rfl, Bel.refl _⟩
  case round =>
    obtain ⟨k, hk, rfl, HBL⟩ := hrel
    by_cases hlt : k < xs.length
    · obtain ⟨b, off, rfl, c0, c1, c2, c3, c4, c5⟩ := (HA.out.bel HBL).atS k hlt
      obtain ⟨b', off', rfl, d0, d1, d2, d3, d4, d5⟩ := (HB.out.bel HBL).atS k hlt
      go_wp2
      go_still_tail 8, (by kernel_rfl)
      change wpList _ _ _ _ _ wr.drew
      have hdr := (Bel.refl wr).drew
      generalize wr.drew = w2 at hdr ⊢
      go_wp2_with (go_at_call 154; refine (eqStmt_same xs[k] _).mono ?_; rintro e w' ⟨rfl, hb⟩)
      go_roundw
      case rel => exact ⟨k + 1, by omega, by go_num, (by repeat (first | exact Bel.refl _ | assumption | apply Bel.alloc | apply Bel.drewN | apply Bel.drew | (refine Bel.trans ?_ (by assumption))))⟩
      case measure => simp [intOf]; omega
    · go_wp2
      go_ret
      exact ⟨rfl, (by repeat (first | exact Bel.refl _ | assumption | apply Bel.alloc | apply Bel.drewN | apply Bel.drew | (refine Bel.trans ?_ (by assumption))))⟩
set_option maxHeartbeats 2000000 in
theorem eqIntS_same (A B : Option Addr) (xs : List Int) (c d : Nat) (w : World) (ha : RdI w A xs) (hb : RdI w B xs) :
   Calls Tryz.prog 12 #[.slice A xs.length c, .slice B xs.length d] w (Bl (.bool true) w) := by
  have hlen := ha.len
  have HA := Hd.mk ha
  have HB := Hd.mk hb
  clear ha hb
  go_enter Tryz.func12, Tryz.ntmps12
  go_wp2
  go_loopw [5] (fun i wr => ∃ k : Nat, k ≤ xs.length ∧ i = .int .i64 k ∧ Bel w wr) (fun i _ => xs.length - (intOf i).toNat)
  case atStart => exact ⟨0, Nat.zero_le _, rfl, Bel.refl _⟩
  case round =>
    obtain ⟨k, hk, rfl, HBL⟩ := hrel
    by_cases hlt : k < xs.length
    · obtain ⟨b, off, rfl, c0⟩ := (HA.out.bel HBL).atI k hlt
      obtain ⟨b', off', rfl, d0⟩ := (HB.out.bel HBL).atI k hlt
      go_wp2
      go_quiet (fail)
      all_goals
        go_wp2
        go_roundw
        case rel => exact ⟨k + 1, by omega, by go_num, (by repeat (first | exact Bel.refl _ | assumption | apply Bel.alloc | apply Bel.drewN | apply Bel.drew | (refine Bel.trans ?_ (by assumption))))⟩
        case measure => simp [intOf]; omega
    · go_wp2
      go_ret
      exact ⟨rfl, (by repeat (first | exact Bel.refl _ | assumption | apply Bel.alloc | apply Bel.drewN | apply Bel.drew | (refine Bel.trans ?_ (by assumption))))⟩
set_option maxHeartbeats 1000000 in
theorem eqTask_same (t : Tk) (B C : Option Addr) (c d : Nat) (w : World) (ha : RdS w B t.body) (hb : RdS w C t.body) : Calls Tryz.prog 93 #[.agg #[.slice B t.body.length c, .int .i64 t.op, .int .i64 t.a, .int .i64 t.b], .agg #[.slice C t.body.length d, .int .i64 t.op, .int .i64 t.a, .int .i64 t.b]] w (Bl (.bool true) w) := by
  have HA := Hd.mk ha
  have HB := Hd.mk hb
  clear ha hb
  go_enter Tryz.func93, Tryz.ntmps93
  go_wp2_with (first | (go_at_call 138; refine (eqStmtS_same _ _ t.body _ _ _ (HA.out.bel (by repeat (first | exact Bel.refl _ | assumption | apply Bel.alloc | apply Bel.drewN | apply Bel.drew | (refine Bel.trans ?_ (by assumption))))) (HB.out.bel (by repeat (first | exact Bel.refl _ | assumption | apply Bel.alloc | apply Bel.drewN | apply Bel.drew | (refine Bel.trans ?_ (by assumption)))))).mono ?_; rintro e w' ⟨rfl, hb⟩; have hB : Bel w w' := (by repeat (first | exact Bel.refl _ | assumption | apply Bel.alloc | apply Bel.drewN | apply Bel.drew | (refine Bel.trans ?_ (by assumption)))); obtain ⟨hc0, hf0⟩ := hB.rd; obtain ⟨hc, hf⟩ := hb.rd; have hz := hb.size; (try simp at hz); (first | (have hz0 : w.heap.size < w'.heap.size := by omega) | skip); (first | (have hz1 : w.heap.size + 1 < w'.heap.size := by omega) | skip)) | (go_at_call 94; refine (eqExpr_same ⟨_, _, _⟩ _).mono ?_; rintro e w' ⟨rfl, hb⟩; have hB : Bel w w' := (by repeat (first | exact Bel.refl _ | assumption | apply Bel.alloc | apply Bel.drewN | apply Bel.drew | (refine Bel.trans ?_ (by assumption)))); obtain ⟨hc0, hf0⟩ := hB.rd; obtain ⟨hc, hf⟩ := hb.rd; have hz := hb.size; (try simp at hz); (first | (have hz0 : w.heap.size < w'.heap.size := by omega) | skip); (first | (have hz1 : w.heap.size + 1 < w'.heap.size := by omega) | skip)))
  all_goals (go_ret; exact ⟨rfl, (by repeat (first | exact Bel.refl _ | assumption | apply Bel.alloc | apply Bel.drewN | apply Bel.drew | (refine Bel.trans ?_ (by assumption))))⟩)
set_option maxHeartbeats 2000000 in
theorem eqTaskS_same (A B : Option Addr) (xs : List Tk) (c d : Nat) (w : World) (ha : RdT w A xs) (hb : RdT w B xs) :
   Calls Tryz.prog 47 #[.slice A xs.length c, .slice B xs.length d] w (Bl (.bool true) w) := by
  have hlen := ha.len
  have HA := Hd.mk ha
  have HB := Hd.mk hb
  clear ha hb
  go_enter Tryz.func47, Tryz.ntmps47
  go_wp2
  go_loopw [5] (fun i wr => ∃ k : Nat, k ≤ xs.length ∧ i = .int .i64 k ∧ Bel w wr) (fun i _ => xs.length - (intOf i).toNat)
  case atStart => exact ⟨0, Nat.zero_le _, rfl, Bel.refl _⟩
  case round =>
    obtain ⟨k, hk, rfl, HBL⟩ := hrel
    by_cases hlt : k < xs.length
    · obtain ⟨b, off, C, c', rfl, hcc, HC, c0, c1, c2, c3⟩ := (RdT.bel HA.out HBL).atT k hlt
      obtain ⟨b', off', D, d', rfl, hdd, HD, d0, d1, d2, d3⟩ := (RdT.bel HB.out HBL).atT k hlt
      go_wp2
      go_still_tail 8, (by kernel_rfl)
      change wpList _ _ _ _ _ wr.drew
      have hdr := (Bel.refl wr).drew
      generalize wr.drew = w2 at hdr ⊢
      go_wp2_with (go_at_call 93; refine (eqTask_same xs[k] _ _ _ _ _ (HC.out.bel hdr) (HD.out.bel hdr)).mono ?_; rintro e w' ⟨rfl, hb⟩)
      go_roundw
      case rel => exact ⟨k + 1, by omega, by go_num, (by repeat (first | exact Bel.refl _ | assumption | apply Bel.alloc | apply Bel.drewN | apply Bel.drew | (refine Bel.trans ?_ (by assumption))))⟩
      case measure => simp [intOf]; omega
    · go_wp2
      go_ret
      exact ⟨rfl, (by repeat (first | exact Bel.refl _ | assumption | apply Bel.alloc | apply Bel.drewN | apply Bel.drew | (refine Bel.trans ?_ (by assumption))))⟩
set_option maxHeartbeats 1000000 in
theorem eqProgram_same (A B : Option Addr) (xs : List Tk) (c d : Nat) (w : World) (ha : RdT w A xs) (hb : RdT w B xs) :
   Calls Tryz.prog 13 #[.agg #[.slice A xs.length c], .agg #[.slice B xs.length d]] w (Bl (.bool true) w) := by
  have HA := Hd.mk ha
  have HB := Hd.mk hb
  clear ha hb
  go_enter Tryz.func13, Tryz.ntmps13
  go_wp2_with (go_at_call 47; refine (eqTaskS_same _ _ xs _ _ _ (RdT.bel HA.out (by repeat (first | exact Bel.refl _ | assumption | apply Bel.alloc | apply Bel.drewN | apply Bel.drew | (refine Bel.trans ?_ (by assumption))))) (RdT.bel HB.out (by repeat (first | exact Bel.refl _ | assumption | apply Bel.alloc | apply Bel.drewN | apply Bel.drew | (refine Bel.trans ?_ (by assumption)))))).mono ?_; rintro e w' ⟨rfl, hb⟩; have hB : Bel w w' := (by repeat (first | exact Bel.refl _ | assumption | apply Bel.alloc | apply Bel.drewN | apply Bel.drew | (refine Bel.trans ?_ (by assumption)))); obtain ⟨hc0, hf0⟩ := hB.rd; obtain ⟨hc, hf⟩ := hb.rd; have hz := hb.size; (try simp at hz); (first | (have hz0 : w.heap.size < w'.heap.size := by omega) | skip); (first | (have hz1 : w.heap.size + 1 < w'.heap.size := by omega) | skip))
  all_goals (go_ret; exact ⟨rfl, (by repeat (first | exact Bel.refl _ | assumption | apply Bel.alloc | apply Bel.drewN | apply Bel.drew | (refine Bel.trans ?_ (by assumption))))⟩)
set_option maxHeartbeats 1000000 in
theorem eqGateway_same (A B : Option Addr) (xs : List Int) (c d : Nat) (w : World) (ha : RdI w A xs) (hb : RdI w B xs) :
   Calls Tryz.prog 112 #[.agg #[.slice A xs.length c], .agg #[.slice B xs.length d]] w (Bl (.bool true) w) := by
  have HA := Hd.mk ha
  have HB := Hd.mk hb
  clear ha hb
  go_enter Tryz.func112, Tryz.ntmps112
  go_wp2_with (go_at_call 12; refine (eqIntS_same _ _ xs _ _ _ (HA.out.bel (by repeat (first | exact Bel.refl _ | assumption | apply Bel.alloc | apply Bel.drewN | apply Bel.drew | (refine Bel.trans ?_ (by assumption))))) (HB.out.bel (by repeat (first | exact Bel.refl _ | assumption | apply Bel.alloc | apply Bel.drewN | apply Bel.drew | (refine Bel.trans ?_ (by assumption)))))).mono ?_; rintro e w' ⟨rfl, hb⟩; have hB : Bel w w' := (by repeat (first | exact Bel.refl _ | assumption | apply Bel.alloc | apply Bel.drewN | apply Bel.drew | (refine Bel.trans ?_ (by assumption)))); obtain ⟨hc0, hf0⟩ := hB.rd; obtain ⟨hc, hf⟩ := hb.rd; have hz := hb.size; (try simp at hz); (first | (have hz0 : w.heap.size < w'.heap.size := by omega) | skip); (first | (have hz1 : w.heap.size + 1 < w'.heap.size := by omega) | skip))
  all_goals (go_ret; exact ⟨rfl, (by repeat (first | exact Bel.refl _ | assumption | apply Bel.alloc | apply Bel.drewN | apply Bel.drew | (refine Bel.trans ?_ (by assumption))))⟩)
set_option maxHeartbeats 1000000 in
theorem eqLink_same (x : Int) (A B : Option Addr) (xs : List Int) (c d : Nat) (w : World) (ha : RdI w A xs) (hb : RdI w B xs) :
   Calls Tryz.prog 64 #[.agg #[.int .i64 x, .slice A xs.length c], .agg #[.int .i64 x, .slice B xs.length d]] w (Bl (.bool true) w) := by
  have HA := Hd.mk ha
  have HB := Hd.mk hb
  clear ha hb
  go_enter Tryz.func64, Tryz.ntmps64
  go_wp2_with (go_at_call 112; refine (eqGateway_same _ _ xs _ _ _ (HA.out.bel (by repeat (first | exact Bel.refl _ | assumption | apply Bel.alloc | apply Bel.drewN | apply Bel.drew | (refine Bel.trans ?_ (by assumption))))) (HB.out.bel (by repeat (first | exact Bel.refl _ | assumption | apply Bel.alloc | apply Bel.drewN | apply Bel.drew | (refine Bel.trans ?_ (by assumption)))))).mono ?_; rintro e w' ⟨rfl, hb⟩; have hB : Bel w w' := (by repeat (first | exact Bel.refl _ | assumption | apply Bel.alloc | apply Bel.drewN | apply Bel.drew | (refine Bel.trans ?_ (by assumption)))); obtain ⟨hc0, hf0⟩ := hB.rd; obtain ⟨hc, hf⟩ := hb.rd; have hz := hb.size; (try simp at hz); (first | (have hz0 : w.heap.size < w'.heap.size := by omega) | skip); (first | (have hz1 : w.heap.size + 1 < w'.heap.size := by omega) | skip))
  all_goals (go_ret; exact ⟨rfl, (by repeat (first | exact Bel.refl _ | assumption | apply Bel.alloc | apply Bel.drewN | apply Bel.drew | (refine Bel.trans ?_ (by assumption))))⟩)
set_option maxHeartbeats 1000000 in
theorem eqStore_same (s : Sr) (w : World) : Calls Tryz.prog 62 #[.agg #[.int .i64 s.chg, .int .i64 s.cap, .int .i64 s.on, .int .i64 s.leak], .agg #[.int .i64 s.chg, .int .i64 s.cap, .int .i64 s.on, .int .i64 s.leak]] w (Bl (.bool true) w) := by
  go_enter Tryz.func62, Tryz.ntmps62
  go_wp2
  all_goals (go_ret; exact ⟨rfl, (by repeat (first | exact Bel.refl _ | assumption | apply Bel.alloc | apply Bel.drewN | apply Bel.drew | (refine Bel.trans ?_ (by assumption))))⟩)
set_option maxHeartbeats 1000000 in
theorem eqSpan_same (l h : Int) (w : World) : Calls Tryz.prog 63 #[.agg #[.int .i64 l, .int .i64 h], .agg #[.int .i64 l, .int .i64 h]] w (Bl (.bool true) w) := by
  go_enter Tryz.func63, Tryz.ntmps63
  go_wp2
  all_goals (go_ret; exact ⟨rfl, (by repeat (first | exact Bel.refl _ | assumption | apply Bel.alloc | apply Bel.drewN | apply Bel.drew | (refine Bel.trans ?_ (by assumption))))⟩)
set_option maxHeartbeats 4000000 in
theorem eqNode_same (a b : NA) (n : Nd) (w : World) (ha : RdN w a n) (hb : RdN w b n) : Calls Tryz.prog 24 #[.agg #[.slice a.tA n.ts.length a.tc, .slice a.mA n.mem.length a.mc, .slice a.rA n.rd.length a.rc, .int .i64 n.at', .int .i64 n.sr.chg, .int .i64 n.sr.cap, .int .i64 n.sr.on, .int .i64 n.sr.leak, .int .i64 n.lo, .int .i64 n.hi, .int .i64 n.ack, .slice a.gA n.got.length a.gc, .int .i64 n.done], .agg #[.slice b.tA n.ts.length b.tc, .slice b.mA n.mem.length b.mc, .slice b.rA n.rd.length b.rc, .int .i64 n.at', .int .i64 n.sr.chg, .int .i64 n.sr.cap, .int .i64 n.sr.on, .int .i64 n.sr.leak, .int .i64 n.lo, .int .i64 n.hi, .int .i64 n.ack, .slice b.gA n.got.length b.gc, .int .i64 n.done]] w (Bl (.bool true) w) := by
  have HA := Hd.mk ha
  have HB := Hd.mk hb
  clear ha hb
  go_enter Tryz.func24, Tryz.ntmps24
  go_wp2_with (first | (go_at_call 13; refine (eqProgram_same _ _ n.ts _ _ _ (RdT.bel HA.out.ts (by repeat (first | exact Bel.refl _ | assumption | apply Bel.alloc | apply Bel.drewN | apply Bel.drew | (refine Bel.trans ?_ (by assumption))))) (RdT.bel HB.out.ts (by repeat (first | exact Bel.refl _ | assumption | apply Bel.alloc | apply Bel.drewN | apply Bel.drew | (refine Bel.trans ?_ (by assumption)))))).mono ?_; rintro e w' ⟨rfl, hb⟩; have hB : Bel w w' := (by repeat (first | exact Bel.refl _ | assumption | apply Bel.alloc | apply Bel.drewN | apply Bel.drew | (refine Bel.trans ?_ (by assumption)))); obtain ⟨hc0, hf0⟩ := hB.rd; obtain ⟨hc, hf⟩ := hb.rd; have hz := hb.size; (try simp at hz); (first | (have hz0 : w.heap.size < w'.heap.size := by omega) | skip); (first | (have hz1 : w.heap.size + 1 < w'.heap.size := by omega) | skip)) | (go_at_call 12; (with_reducible refine (eqIntS_same a.mA b.mA n.mem a.mc b.mc _ ?_ ?_).mono ?_); (exact HA.out.mem.bel (by repeat (first | exact Bel.refl _ | assumption | apply Bel.alloc | apply Bel.drewN | apply Bel.drew | (refine Bel.trans ?_ (by assumption))))); (exact HB.out.mem.bel (by repeat (first | exact Bel.refl _ | assumption | apply Bel.alloc | apply Bel.drewN | apply Bel.drew | (refine Bel.trans ?_ (by assumption))))); rintro e w' ⟨rfl, hb⟩; have hB : Bel w w' := (by repeat (first | exact Bel.refl _ | assumption | apply Bel.alloc | apply Bel.drewN | apply Bel.drew | (refine Bel.trans ?_ (by assumption)))); obtain ⟨hc0, hf0⟩ := hB.rd; obtain ⟨hc, hf⟩ := hb.rd; have hz := hb.size; (try simp at hz); (first | (have hz0 : w.heap.size < w'.heap.size := by omega) | skip); (first | (have hz1 : w.heap.size + 1 < w'.heap.size := by omega) | skip)) | (go_at_call 12; (with_reducible refine (eqIntS_same a.rA b.rA n.rd a.rc b.rc _ ?_ ?_).mono ?_); (exact HA.out.rd.bel (by repeat (first | exact Bel.refl _ | assumption | apply Bel.alloc | apply Bel.drewN | apply Bel.drew | (refine Bel.trans ?_ (by assumption))))); (exact HB.out.rd.bel (by repeat (first | exact Bel.refl _ | assumption | apply Bel.alloc | apply Bel.drewN | apply Bel.drew | (refine Bel.trans ?_ (by assumption))))); rintro e w' ⟨rfl, hb⟩; have hB : Bel w w' := (by repeat (first | exact Bel.refl _ | assumption | apply Bel.alloc | apply Bel.drewN | apply Bel.drew | (refine Bel.trans ?_ (by assumption)))); obtain ⟨hc0, hf0⟩ := hB.rd; obtain ⟨hc, hf⟩ := hb.rd; have hz := hb.size; (try simp at hz); (first | (have hz0 : w.heap.size < w'.heap.size := by omega) | skip); (first | (have hz1 : w.heap.size + 1 < w'.heap.size := by omega) | skip)) | (go_at_call 62; refine (eqStore_same n.sr _).mono ?_; rintro e w' ⟨rfl, hb⟩; have hB : Bel w w' := (by repeat (first | exact Bel.refl _ | assumption | apply Bel.alloc | apply Bel.drewN | apply Bel.drew | (refine Bel.trans ?_ (by assumption)))); obtain ⟨hc0, hf0⟩ := hB.rd; obtain ⟨hc, hf⟩ := hb.rd; have hz := hb.size; (try simp at hz); (first | (have hz0 : w.heap.size < w'.heap.size := by omega) | skip); (first | (have hz1 : w.heap.size + 1 < w'.heap.size := by omega) | skip)) | (go_at_call 63; refine (eqSpan_same n.lo n.hi _).mono ?_; rintro e w' ⟨rfl, hb⟩; have hB : Bel w w' := (by repeat (first | exact Bel.refl _ | assumption | apply Bel.alloc | apply Bel.drewN | apply Bel.drew | (refine Bel.trans ?_ (by assumption)))); obtain ⟨hc0, hf0⟩ := hB.rd; obtain ⟨hc, hf⟩ := hb.rd; have hz := hb.size; (try simp at hz); (first | (have hz0 : w.heap.size < w'.heap.size := by omega) | skip); (first | (have hz1 : w.heap.size + 1 < w'.heap.size := by omega) | skip)) | (go_at_call 64; refine (eqLink_same n.ack _ _ n.got _ _ _ (HA.out.got.bel (by repeat (first | exact Bel.refl _ | assumption | apply Bel.alloc | apply Bel.drewN | apply Bel.drew | (refine Bel.trans ?_ (by assumption))))) (HB.out.got.bel (by repeat (first | exact Bel.refl _ | assumption | apply Bel.alloc | apply Bel.drewN | apply Bel.drew | (refine Bel.trans ?_ (by assumption)))))).mono ?_; rintro e w' ⟨rfl, hb⟩; have hB : Bel w w' := (by repeat (first | exact Bel.refl _ | assumption | apply Bel.alloc | apply Bel.drewN | apply Bel.drew | (refine Bel.trans ?_ (by assumption)))); obtain ⟨hc0, hf0⟩ := hB.rd; obtain ⟨hc, hf⟩ := hb.rd; have hz := hb.size; (try simp at hz); (first | (have hz0 : w.heap.size < w'.heap.size := by omega) | skip); (first | (have hz1 : w.heap.size + 1 < w'.heap.size := by omega) | skip)))
  all_goals (go_ret; exact ⟨rfl, (by repeat (first | exact Bel.refl _ | assumption | apply Bel.alloc | apply Bel.drewN | apply Bel.drew | (refine Bel.trans ?_ (by assumption))))⟩)
def szL (l n : Int) : Int := if l - n < 0 then -1 else l - n
def bodies (ts : List Tk) : Nat := (ts.map (·.body.length)).sum
theorem bodies_take {ts : List Tk} {k : Nat} (hk : k < ts.length) : bodies (ts.take (k + 1)) = bodies (ts.take k) + ts[k].body.length := by
  unfold bodies; rw [List.take_succ_eq_append_getElem hk]
  simp only [List.map_append, List.map_cons, List.map_nil, List.sum_append, List.sum_cons, List.sum_nil, Nat.add_zero]
theorem bodies_le (ts : List Tk) (k : Nat) : bodies (ts.take k) ≤ bodies ts := by
  unfold bodies
  conv => rhs; rw [← List.take_append_drop k ts]
  rw [List.map_append, List.sum_append]; omega
theorem szStmtS_any (A : Option Addr) (n c : Nat) (l : Int) (w : World) (h0 : 0 ≤ l) (h1 : l ≤ 1048576) (hn : n ≤ 17592186044416) : Calls Tryz.prog 116 #[.slice A n c, .int .i64 l] w (Bl (.int .i64 (szL l n)) w) := by
  go_enter Tryz.func116, Tryz.ntmps116
  go_wp2
  all_goals (go_ret; refine ⟨retI ?_, Bel.refl _⟩; unfold szL; first | (simp_all; done) | (rw [if_pos (by omega)]) | (rw [if_neg (by omega)]))
theorem szIntS_any (A : Option Addr) (n c : Nat) (l : Int) (w : World) (h0 : 0 ≤ l) (h1 : l ≤ 1048576) (hn : n ≤ 17592186044416) : Calls Tryz.prog 51 #[.slice A n c, .int .i64 l] w (Bl (.int .i64 (szL l n)) w) := by
  go_enter Tryz.func51, Tryz.ntmps51
  go_wp2
  all_goals (go_ret; refine ⟨retI ?_, Bel.refl _⟩; unfold szL; first | (simp_all; done) | (rw [if_pos (by omega)]) | (rw [if_neg (by omega)]))
theorem szTask_any (A : Option Addr) (n c : Nat) (x y z l : Int) (w : World) (h0 : 0 ≤ l) (h1 : l ≤ 1048576) (hn : n ≤ 17592186044416) : Calls Tryz.prog 68 #[.agg #[.slice A n c, .int .i64 x, .int .i64 y, .int .i64 z], .int .i64 l] w (Bl (.int .i64 (szL l n)) w) := by
  have hcall := fun W => szStmtS_any A n c l W h0 h1 hn
  by_cases h : l - n < 0
  · have e : szL l n = -1 := by unfold szL; rw [if_pos h]
    rw [e] at hcall ⊢
    clear e
    go_enter Tryz.func68, Tryz.ntmps68
    go_wp2_with (go_at_call 116; refine (hcall _).mono ?_; rintro e w' ⟨rfl, hb⟩; obtain ⟨hc, hf⟩ := hb.rd)
    all_goals (go_ret; exact ⟨rfl, (by repeat (first | exact Bel.refl _ | assumption | apply Bel.alloc | apply Bel.drewN | apply Bel.drew | (refine Bel.trans ?_ (by assumption))))⟩)
  · have e : szL l n = l - n := by unfold szL; rw [if_neg h]
    rw [e] at hcall ⊢
    clear e
    go_enter Tryz.func68, Tryz.ntmps68
    go_wp2_with (go_at_call 116; refine (hcall _).mono ?_; rintro e w' ⟨rfl, hb⟩; obtain ⟨hc, hf⟩ := hb.rd)
    all_goals (go_ret; exact ⟨rfl, (by repeat (first | exact Bel.refl _ | assumption | apply Bel.alloc | apply Bel.drewN | apply Bel.drew | (refine Bel.trans ?_ (by assumption))))⟩)
def tot (ts : List Tk) : Nat := ts.length + bodies ts
theorem szL_neg {l n : Int} (h : l - n < 0) : szL l n = -1 := by unfold szL; rw [if_pos h]
theorem szL_pos {l n : Int} (h : ¬ l - n < 0) : szL l n = l - n := by unfold szL; rw [if_neg h]
set_option maxHeartbeats 2000000 in
theorem szTaskS_any (A : Option Addr) (ts : List Tk) (c : Nat) (l : Int) (w : World) (ht : RdT w A ts) (h0 : 0 ≤ l) (h1 : l ≤ 1048576) : Calls Tryz.prog 29 #[.slice A ts.length c, .int .i64 l] w (Bl (.int .i64 (szL l (tot ts))) w) := by
  have hlen := ht.len
  have HT := Hd.mk ht
  clear ht
  by_cases hl : l - ts.length < 0
  · rw [szL_neg (by unfold tot; omega)]
    go_enter Tryz.func29, Tryz.ntmps29
    go_wp2
    go_ret
    exact ⟨rfl, Bel.refl _⟩
  · go_enter Tryz.func29, Tryz.ntmps29
    go_wp2
    go_loopw [1, 5] (fun x i wr => ∃ k : Nat, k ≤ ts.length ∧ i = .int .i64 k ∧ x = .int .i64 (l - ts.length - bodies (ts.take k)) ∧ 0 ≤ l - ts.length - bodies (ts.take k) ∧ Bel w wr) (fun _ i _ => ts.length - (intOf i).toNat)
    case atStart => exact ⟨0, Nat.zero_le _, rfl, by simp [bodies], by simp [bodies]; omega, Bel.refl _⟩
    case round =>
      obtain ⟨k, hk, rfl, rfl, hb0, HBL⟩ := hrel
      have hbt := Hd.mk (fun (h : k < ts.length) => bodies_take h)
      have hbl := Hd.mk (bodies_le ts (k + 1))
      generalize hB0 : bodies (ts.take k) = B0 at *
      replace hB0 := Hd.mk hB0
      by_cases hlt : k < ts.length
      · obtain ⟨b, off, B, c', rfl, hcc, HB, c0, c1, c2, c3⟩ := (RdT.bel HT.out HBL).atT k hlt
        have hbn := HB.out.len
        have hcall := fun W => szTask_any B ts[k].body.length c' ts[k].op ts[k].a ts[k].b (l - ts.length - B0) W hb0 (by omega) hbn
        by_cases hneg : l - ts.length - B0 - ts[k].body.length < 0
        · rw [szL_neg hneg] at hcall
          have hfin : Hd (szL l (tot ts) = -1) := ⟨szL_neg (by have e1 := hbt.out hlt; have e2 := hbl.out; unfold tot; omega)⟩
          go_wp2_with (go_at_call 68; refine (hcall _).mono ?_; rintro e w' ⟨rfl, hb⟩; obtain ⟨hc, hf⟩ := hb.rd)
          go_ret
          exact ⟨retI hfin.out.symm, (by repeat (first | exact Bel.refl _ | assumption | apply Bel.alloc | apply Bel.drewN | apply Bel.drew | (refine Bel.trans ?_ (by assumption))))⟩
        · rw [szL_pos hneg] at hcall
          have hn2 : 0 ≤ l - ts.length - B0 - ts[k].body.length := by omega
          have hrw : Hd (l - ts.length - (bodies (ts.take (k + 1)) : Int) = l - ts.length - B0 - ts[k].body.length) := ⟨by have e1 := hbt.out hlt; omega⟩
          go_wp2_with (go_at_call 68; refine (hcall _).mono ?_; rintro e w' ⟨rfl, hb⟩; obtain ⟨hc, hf⟩ := hb.rd)
          go_roundw
          case rel => exact ⟨k + 1, by omega, by go_num, by rw [hrw.out], by rw [hrw.out]; exact hn2, (by repeat (first | exact Bel.refl _ | assumption | apply Bel.alloc | apply Bel.drewN | apply Bel.drew | (refine Bel.trans ?_ (by assumption))))⟩
          case measure => simp [intOf]; omega
      · have hfin : Hd (szL l (tot ts) = l - ts.length - B0) := ⟨by
          have e : k = ts.length := by omega
          have e2 := hB0.out
          rw [e, List.take_length] at e2
          rw [szL_pos (by unfold tot; omega)]; unfold tot; omega⟩
        go_wp2
        go_ret
        exact ⟨retI hfin.out.symm, (by repeat (first | exact Bel.refl _ | assumption | apply Bel.alloc | apply Bel.drewN | apply Bel.drew | (refine Bel.trans ?_ (by assumption))))⟩
set_option maxHeartbeats 1000000 in
theorem szProgram_any (A : Option Addr) (ts : List Tk) (c : Nat) (l : Int) (w : World) (ht : RdT w A ts) (h0 : 0 ≤ l) (h1 : l ≤ 1048576) : Calls Tryz.prog 5 #[.agg #[.slice A ts.length c], .int .i64 l] w (Bl (.int .i64 (szL l (tot ts))) w) := by
  have hcall := fun W h => szTaskS_any A ts c l W h h0 h1
  have HT := Hd.mk ht
  clear ht
  by_cases h : l - tot ts < 0
  · rw [szL_neg h] at hcall ⊢
    go_enter Tryz.func5, Tryz.ntmps5
    go_wp2_with (go_at_call 29; refine (hcall _ (RdT.bel HT.out (by repeat (first | exact Bel.refl _ | assumption | apply Bel.alloc | apply Bel.drewN | apply Bel.drew | (refine Bel.trans ?_ (by assumption)))))).mono ?_; rintro e w' ⟨rfl, hb⟩; obtain ⟨hc, hf⟩ := hb.rd)
    all_goals (go_ret; exact ⟨rfl, (by repeat (first | exact Bel.refl _ | assumption | apply Bel.alloc | apply Bel.drewN | apply Bel.drew | (refine Bel.trans ?_ (by assumption))))⟩)
  · rw [szL_pos h] at hcall ⊢
    go_enter Tryz.func5, Tryz.ntmps5
    go_wp2_with (go_at_call 29; refine (hcall _ (RdT.bel HT.out (by repeat (first | exact Bel.refl _ | assumption | apply Bel.alloc | apply Bel.drewN | apply Bel.drew | (refine Bel.trans ?_ (by assumption)))))).mono ?_; rintro e w' ⟨rfl, hb⟩; obtain ⟨hc, hf⟩ := hb.rd)
    all_goals (go_ret; exact ⟨rfl, (by repeat (first | exact Bel.refl _ | assumption | apply Bel.alloc | apply Bel.drewN | apply Bel.drew | (refine Bel.trans ?_ (by assumption))))⟩)
set_option maxHeartbeats 1000000 in
theorem szGateway_any (A : Option Addr) (n c : Nat) (l : Int) (w : World) (h0 : 0 ≤ l) (h1 : l ≤ 1048576) (hn : n ≤ 17592186044416) : Calls Tryz.prog 96 #[.agg #[.slice A n c], .int .i64 l] w (Bl (.int .i64 (szL l n)) w) := by
  have hcall := fun W => szIntS_any A n c l W h0 h1 hn
  by_cases h : l - n < 0
  · rw [szL_neg h] at hcall ⊢
    go_enter Tryz.func96, Tryz.ntmps96
    go_wp2_with (go_at_call 51; refine (hcall _).mono ?_; rintro e w' ⟨rfl, hb⟩; obtain ⟨hc, hf⟩ := hb.rd)
    all_goals (go_ret; exact ⟨rfl, (by repeat (first | exact Bel.refl _ | assumption | apply Bel.alloc | apply Bel.drewN | apply Bel.drew | (refine Bel.trans ?_ (by assumption))))⟩)
  · rw [szL_pos h] at hcall ⊢
    go_enter Tryz.func96, Tryz.ntmps96
    go_wp2_with (go_at_call 51; refine (hcall _).mono ?_; rintro e w' ⟨rfl, hb⟩; obtain ⟨hc, hf⟩ := hb.rd)
    all_goals (go_ret; exact ⟨rfl, (by repeat (first | exact Bel.refl _ | assumption | apply Bel.alloc | apply Bel.drewN | apply Bel.drew | (refine Bel.trans ?_ (by assumption))))⟩)
set_option maxHeartbeats 1000000 in
theorem szLink_any (A : Option Addr) (x : Int) (n c : Nat) (l : Int) (w : World) (h0 : 0 ≤ l) (h1 : l ≤ 1048576) (hn : n ≤ 17592186044416) : Calls Tryz.prog 52 #[.agg #[.int .i64 x, .slice A n c], .int .i64 l] w (Bl (.int .i64 (szL l n)) w) := by
  have hcall := fun W => szGateway_any A n c l W h0 h1 hn
  by_cases h : l - n < 0
  · rw [szL_neg h] at hcall ⊢
    go_enter Tryz.func52, Tryz.ntmps52
    go_wp2_with (go_at_call 96; refine (hcall _).mono ?_; rintro e w' ⟨rfl, hb⟩; obtain ⟨hc, hf⟩ := hb.rd)
    all_goals (go_ret; exact ⟨rfl, (by repeat (first | exact Bel.refl _ | assumption | apply Bel.alloc | apply Bel.drewN | apply Bel.drew | (refine Bel.trans ?_ (by assumption))))⟩)
  · rw [szL_pos h] at hcall ⊢
    go_enter Tryz.func52, Tryz.ntmps52
    go_wp2_with (go_at_call 96; refine (hcall _).mono ?_; rintro e w' ⟨rfl, hb⟩; obtain ⟨hc, hf⟩ := hb.rd)
    all_goals (go_ret; exact ⟨rfl, (by repeat (first | exact Bel.refl _ | assumption | apply Bel.alloc | apply Bel.drewN | apply Bel.drew | (refine Bel.trans ?_ (by assumption))))⟩)
end Go.Proofs.YtgodbldchaonpaaGreat

/- The laws' own marks on nodes. No condition. -/
import Derived.Test.YtgodbldchaonpaaGreatMN
namespace Go.Proofs.YtgodbldchaonpaaGreat
open Go.RowKit
set_option linter.unusedVariables false
set_option maxRecDepth 100000
theorem Chg.rd {S : Nat → Prop} {W w' : World} (hc : Chg S W w') (b : Nat) (hb : b < W.heap.size) (hn : ¬ S b) : ∀ o, w'.cell? ⟨b, o, none⟩ = W.cell? ⟨b, o, none⟩ := fun o => World.cell?_of_block (w := W) (hc.block b hb hn)
theorem tree_ne {lo : Nat} {w : World} {vt v : Value} {ps : List (Value × Tk)} {n : Nat} {cs : List Value} (h : OwT lo w vt ps) (h' : w.ownsRow lo 3 1 v n cs) (k : Nat) (hk : v.ownBlock = some k) : ¬ TreeB vt ps k := by
  rintro (h1 | ⟨p, hp, h1⟩)
  · exact own_type_ne h.row h' (by decide) k h1 hk
  · exact own_type_ne (h.body p hp) h' (by decide) k h1 hk
theorem mkTs_fst (k : Int) (ps : List (Value × Tk)) : (mkTs k ps).map (·.1) = ps.map (·.1) := by
  induction ps generalizing k with
  | nil => rfl
  | cons p r ih => simp [mkTs, ih]
theorem tree_mk {v : Value} {k : Int} {ps : List (Value × Tk)} {b : Nat} (h : TreeB v (mkTs k ps) b) : TreeB v ps b := by
  rcases h with h | ⟨p, hp, h⟩
  · exact .inl h
  · have : p.1 ∈ (mkTs k ps).map (·.1) := List.mem_map.2 ⟨p, hp, rfl⟩
    rw [mkTs_fst] at this
    obtain ⟨q, hq, e⟩ := List.mem_map.1 this
    exact .inr ⟨q, hq, by rw [e]; exact h⟩
/-- The blocks of a node. -/
def NodeB (vt vm vr vg : Value) (ps : List (Value × Tk)) (b : Nat) : Prop := TreeB vt ps b ∨ vm.ownBlock = some b ∨ vr.ownBlock = some b ∨ vg.ownBlock = some b
theorem OwN.node {lo : Nat} {w : World} {vt vm vr vg : Value} {ps : List (Value × Tk)} {n : Nd} (h : OwN lo w vt vm vr vg ps n) (b : Nat) (hb : NodeB vt vm vr vg ps b) : lo ≤ b ∧ b < w.heap.size := by
  rcases hb with hb | hb | hb | hb
  · exact h.ts.tree b hb
  · exact h.mem.lt b hb
  · exact h.rd.lt b hb
  · exact h.got.lt b hb
/-- How many numbers a node's marks take. -/
def cntN (ps : List (Value × Tk)) (n : Nd) : Nat := cnt ps + n.mem.length + n.rd.length + n.got.length
/-- The marked node. -/
def mkN (k : Int) (ps : List (Value × Tk)) (n : Nd) : Nd :=
  { n with ts := (mkTs k ps).map (·.2), mem := upto (k + cnt ps) n.mem.length, rd := upto (k + cnt ps + n.mem.length) n.rd.length, got := upto (k + cnt ps + n.mem.length + n.rd.length) n.got.length }
set_option maxHeartbeats 4000000 in
theorem markNode_any (lo : Nat) (tA mA rA gA : Option Addr) (tc mc rc gc : Nat) (ps : List (Value × Tk)) (n : Nd) (k : Int) (w : World)
    (ho : OwN lo w (.slice tA ps.length tc) (.slice mA n.mem.length mc) (.slice rA n.rd.length rc) (.slice gA n.got.length gc) ps n) (h0 : 0 ≤ k) (hk : k + cntN ps n ≤ 4611686018427387904)
    (hl : ps.length ≤ 1099511627776) (hsm : ∀ p ∈ ps, p.2.body.length ≤ 1099511627776) (hm : n.mem.length ≤ 17592186044416) (hr : n.rd.length ≤ 17592186044416) (hg : n.got.length ≤ 17592186044416) :
    Calls Tryz.prog 26 #[valN (.slice tA ps.length tc) (.slice mA n.mem.length mc) (.slice rA n.rd.length rc) (.slice gA n.got.length gc) n, .int .i64 k] w
      (Mrk (.slice tA ps.length tc) k (cntN ps n) (fun w' => OwN lo w' (.slice tA ps.length tc) (.slice mA n.mem.length mc) (.slice rA n.rd.length rc) (.slice gA n.got.length gc) (mkTs k ps) (mkN k ps n)) (NodeB (.slice tA ps.length tc) (.slice mA n.mem.length mc) (.slice rA n.rd.length rc) (.slice gA n.got.length gc) ps) w) := by
  have HO := Hd.mk ho
  have HS := Hd.mk hsm
  have neM := Hd.mk (tree_ne ho.ts ho.mem)
  have neR := Hd.mk (tree_ne ho.ts ho.rd)
  have neG := Hd.mk (tree_ne ho.ts ho.got)
  have nb : Hd (∀ b, NodeB (.slice tA ps.length tc) (.slice mA n.mem.length mc) (.slice rA n.rd.length rc) (.slice gA n.got.length gc) ps b → b < w.heap.size) := ⟨fun b hb => (ho.node b hb).2⟩
  clear ho hsm
  unfold cntN at hk
  unfold valN
  have hk1 : k + (cnt ps : Int) ≤ 4611686018427387904 := by omega
  have hk2 : 0 ≤ k + (cnt ps : Int) := by omega
  have hk3 : k + (cnt ps : Int) + n.mem.length ≤ 4611686018427387904 := by omega
  have hk4 : 0 ≤ k + (cnt ps : Int) + n.mem.length := by omega
  have hk5 : k + (cnt ps : Int) + n.mem.length + n.rd.length ≤ 4611686018427387904 := by omega
  have hk6 : 0 ≤ k + (cnt ps : Int) + n.mem.length + n.rd.length := by omega
  have hk7 : k + (cnt ps : Int) + n.mem.length + n.rd.length + n.got.length ≤ 4611686018427387904 := by omega
  clear hk
  go_enter Tryz.func26, Tryz.ntmps26
  go_wp2_with (first
    | (go_at_call 15; (with_reducible refine (markProgram_any lo tA ps tc k _ (HO.out.ts.alloc _) h0 hk1 hl HS.out).mono ?_); rintro e w1 ⟨rfl, ht1, hc1⟩; have b1 := hc1.rd w.heap.size (by simp) (fun h => by have := nb.out _ (.inl h); omega); have HM1 := Hd.mk (hc1.own (HO.out.mem.alloc _) neM.out); have HR1 := Hd.mk (hc1.own (HO.out.rd.alloc _) neR.out); have HG1 := Hd.mk (hc1.own (HO.out.got.alloc _) neG.out); have hs1 := hc1.size; (try simp at hs1); replace ht1 := Hd.mk ht1; replace hc1 := Hd.mk hc1)
    | (go_at_call 16; (with_reducible refine (markIntS_any lo mA n.mem mc _ _ HM1.out hk2 hk3 hm).mono ?_); rintro e w2 ⟨rfl, hm2, hc2⟩; have b2 := hc2.rd w.heap.size (by omega) (fun h => by have := nb.out _ (.inr (.inl h)); omega); have HT2 := Hd.mk (hc2.ownT ht1.out (fun k h1 h2 => neM.out k h2 (tree_mk h1))); have HR2 := Hd.mk (hc2.own HR1.out (fun k h1 h2 => HO.out.mr k h2 h1)); have HG2 := Hd.mk (hc2.own HG1.out (fun k h1 h2 => HO.out.mg k h2 h1)); have hs2 := hc2.size; replace hm2 := Hd.mk hm2; replace hc2 := Hd.mk hc2)
    | (go_at_call 16; (with_reducible refine (markIntS_any lo rA n.rd rc _ _ HR2.out hk4 hk5 hr).mono ?_); rintro e w3 ⟨rfl, hr3, hc3⟩; have b3 := hc3.rd w.heap.size (by omega) (fun h => by have := nb.out _ (.inr (.inr (.inl h))); omega); have HT3 := Hd.mk (hc3.ownT HT2.out (fun k h1 h2 => neR.out k h2 (tree_mk h1))); have HM3 := Hd.mk (hc3.own hm2.out (fun k h1 h2 => HO.out.mr k h1 h2)); have HG3 := Hd.mk (hc3.own HG2.out (fun k h1 h2 => HO.out.rg k h2 h1)); replace hr3 := Hd.mk hr3; replace hc3 := Hd.mk hc3)
    | (go_at_call 65; (with_reducible refine (markLink_any lo n.ack gA n.got gc _ _ HG3.out hk6 hk7 hg).mono ?_); rintro e w4 ⟨rfl, hg4, hc4⟩; have HT4 := Hd.mk (hc4.ownT HT3.out (fun k h1 h2 => neG.out k h2 (tree_mk h1))); have HM4 := Hd.mk (hc4.own HM3.out (fun k h1 h2 => HO.out.mg k h1 h2)); have HR4 := Hd.mk (hc4.own hr3.out (fun k h1 h2 => HO.out.rg k h1 h2)); replace hg4 := Hd.mk hg4; replace hc4 := Hd.mk hc4))
  go_ret
  refine ⟨retI (by unfold cntN; push_cast; omega), ?_, ?_⟩
  · refine ⟨HT4.out, ?_, ?_, ?_, HO.out.mr, HO.out.mg, HO.out.rg, rfl⟩
    · show World.ownsRow _ _ _ _ _ (upto _ _).length _
      rw [upto_len]; exact HM4.out
    · show World.ownsRow _ _ _ _ _ (upto _ _).length _
      rw [upto_len]; exact HR4.out
    · show World.ownsRow _ _ _ _ _ (upto _ _).length _
      rw [upto_len]; exact hg4.out
  · exact (((((Chg.refl _ _).alloc _).trans (hc1.out.mono fun _ h => .inl h)).trans (hc2.out.mono fun _ h => .inr (.inl h))).trans (hc3.out.mono fun _ h => .inr (.inr (.inl h)))).trans (hc4.out.mono fun _ h => .inr (.inr (.inr h)))
end Go.Proofs.YtgodbldchaonpaaGreat

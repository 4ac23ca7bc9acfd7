/- Words for the law FnExactNodeNew: small copies, what is kept. No condition. -/
import Derived.Test.YtgodbldchaonpaaNF
import Derived.Test.YtgodbldchaonpaaNH
import Derived.Test.YtgodbldchaonpaaLS
namespace Go.Proofs.Ytgodbldchaonpaa
open Go.RowKit
set_option linter.unusedVariables false
set_option linter.unusedSimpArgs false
set_option maxRecDepth 100000
/-- Tasks that the sizes let by. -/
structure SmT (ts : List Tk) : Prop where
  len : ts.length ≤ 1048576
  body : ∀ t ∈ ts, t.body.length ≤ 1048576
  bods : bodies ts ≤ 1048576
theorem SmT.of {ts : List Tk} {n : Nat} (hn : n ≤ 1048576) (h : tot ts ≤ n) : SmT ts := by
  unfold tot at h
  exact ⟨by omega, fun t ht => by have := bodies_mem ht; omega, by omega⟩
theorem SmT.small {ts : List Tk} (h : SmT ts) : small ts := fun t ht => by have := h.body t ht; omega
/-- Tasks made anew, with their place told. -/
def MkPr' (ts : List Tk) (w : World) (e : Ending) (w' : World) : Prop := ∃ A c, ∃ ps : List (Value × Tk), e = .returned (.agg #[.slice A ts.length c]) ∧ ps.length = ts.length ∧ ps.map (·.2) = ts ∧ OwT w.heap.size w' (.slice A ps.length c) ps ∧ RdT w' A ts ∧ ts.length ≤ c ∧ Bel w w'
theorem MkPr.sml {ts : List Tk} (hs : SmT ts) {w w' : World} {e : Ending} (h : MkPr ts w e w') : MkPr' ts w e w' := by
  obtain ⟨v, ps, rfl, hps, ho, hb⟩ := h
  obtain ⟨A, c, rfl, hc⟩ := ho.shape
  have hl : ps.length = ts.length := by rw [← hps, List.length_map]
  have hr := ho.rd (by have := hs.len; omega) (fun p hp => by have := hs.body p.2 (by rw [← hps]; exact List.mem_map.2 ⟨p, hp, rfl⟩); omega)
  rw [hps] at hr
  exact ⟨A, c, ps, by rw [hl], hl, hps, ho, hr.1, by omega, hb⟩
/-- Numbers made anew, with their place told. -/
def MkI' (xs : List Int) (w : World) (e : Ending) (w' : World) : Prop := ∃ A c, e = .returned (.slice A xs.length c) ∧ w'.ownsRow w.heap.size 3 1 (.slice A xs.length c) xs.length (xs.flatMap encI) ∧ RdI w' A xs ∧ xs.length ≤ c ∧ Bel w w'
theorem Mk.sml {xs : List Int} (hl : xs.length ≤ 17592186044416) {w w' : World} {e : Ending} (h : Mk encI 3 1 xs w e w') : MkI' xs w e w' := by
  obtain ⟨v, rfl, ho, hb⟩ := h
  obtain ⟨A, c, rfl, hc⟩ := own_shape ho
  have hr := own_rd' encI_ok ho rfl hl
  exact ⟨A, c, rfl, ho, hr.1, hc, hb⟩
theorem own_bx_ne {w : World} {base g : Nat} {e t : TypeId} {sz n : Nat} {v : Value} {xs : List Value} {cs : Array Value} (h : w.ownsRow base e sz v n xs) (hb : Bx w g t cs) (hne : e ≠ t) : v.ownBlock ≠ some g := by
  intro k
  rcases h.2 with ⟨rfl, _⟩ | ⟨g', cap, cur, rfl, _, hh, _⟩
  · cases k
  · cases k
    have := hb.out
    rw [hh] at this
    injection this with this
    injection this with _ ht
    exact hne ht
theorem OwN.chg {S : Nat → Prop} {lo : Nat} {w w' : World} {vt vm vr vg : Value} {ps : List (Value × Tk)} {n : Nd} (h : OwN lo w vt vm vr vg ps n) (hc : Chg S w w') (hn : ∀ b, NodeB vt vm vr vg ps b → ¬ S b) : OwN lo w' vt vm vr vg ps n :=
  ⟨hc.ownT h.ts (fun k hk => hn k (.inl hk)), hc.own h.mem (fun k hk => hn k (.inr (.inl hk))), hc.own h.rd (fun k hk => hn k (.inr (.inr (.inl hk)))), hc.own h.got (fun k hk => hn k (.inr (.inr (.inr hk)))), h.mr, h.mg, h.rg, h.eq⟩
abbrev OwA (lo : Nat) (w : World) (a : NA) (ps : List (Value × Tk)) (n : Nd) : Prop := OwN lo w (.slice a.tA ps.length a.tc) (.slice a.mA n.mem.length a.mc) (.slice a.rA n.rd.length a.rc) (.slice a.gA n.got.length a.gc) ps n
abbrev NdB (a : NA) (ps : List (Value × Tk)) (n : Nd) : Nat → Prop := NodeB (.slice a.tA ps.length a.tc) (.slice a.mA n.mem.length a.mc) (.slice a.rA n.rd.length a.rc) (.slice a.gA n.got.length a.gc) ps
theorem OwA.read {lo : Nat} {w : World} {a : NA} {ps : List (Value × Tk)} {n : Nd} (h : OwA lo w a ps n) (hs : Sml n) : RdN w a n := by
  have hpl : ps.length = n.ts.length := by rw [← h.eq, List.length_map]
  exact h.rd' (by rw [hpl]; have := hs.ts; omega) (fun p hp => by have := hs.body p.2 (by rw [← h.eq]; exact List.mem_map.2 ⟨p, hp, rfl⟩); omega) (by have := hs.mem; omega) (by have := hs.rd; omega) (by have := hs.got; omega)
/-- A node in a box, below hi. -/
structure NBx (g : Nat) (lo hi : Nat) (a : NA) (ps : List (Value × Tk)) (n : Nd) (w : World) : Prop where
  b : Bx w g 40 #[.slice a.tA n.ts.length a.tc, .slice a.mA n.mem.length a.mc, .slice a.rA n.rd.length a.rc, .int .i64 n.at', .int .i64 n.sr.chg, .int .i64 n.sr.cap, .int .i64 n.sr.on, .int .i64 n.sr.leak, .int .i64 n.lo, .int .i64 n.hi, .int .i64 n.ack, .slice a.gA n.got.length a.gc, .int .i64 n.done]
  o : OwA lo w a ps n
  gl : lo ≤ g
  gh : g < hi
  oh : ∀ q, NdB a ps n q → q < hi
theorem NBx.bel {g lo hi : Nat} {a : NA} {ps : List (Value × Tk)} {n : Nd} {w w' : World} (h : NBx g lo hi a ps n w) (hb : Bel w w') : NBx g lo hi a ps n w' := ⟨h.b.bel hb, h.o.bel hb, h.gl, h.gh, h.oh⟩
theorem NBx.chg {S : Nat → Prop} {g lo hi : Nat} {a : NA} {ps : List (Value × Tk)} {n : Nd} {w w' : World} (h : NBx g lo hi a ps n w) (hc : Chg S w w') (hS : ∀ q, S q → q < lo ∨ hi ≤ q) : NBx g lo hi a ps n w' :=
  ⟨h.b.chg hc (fun k => by have := hS _ k; have := h.gl; have := h.gh; omega), h.o.chg hc (fun q hq k => by have := hS _ k; have := h.oh q hq; have := (h.o.node q hq).1; omega), h.gl, h.gh, h.oh⟩
theorem sml_new {ts : List Tk} {vars rd : List Int} {s : Sr} (h : SmT ts) (hr : rd.length ≤ 1048576) : Sml (nodeNew ts vars rd s) := by
  unfold nodeNew
  split
  · rename_i hk
    have h8 : vars.length = 8 := by
      unfold newOk at hk; simp only [Bool.and_eq_true] at hk; exact varsOk_len hk.1
    exact ⟨h.len, h.body, by rw [memNew_len]; omega, hr, by simp, h.bods⟩
  · exact ⟨by simp [zeroN], by simp [zeroN], by simp [zeroN], by simp [zeroN], by simp [zeroN], by simp [zeroN, bodies]⟩
/-- A new node beside a bool, laid into a box. -/
def MkNP' (n : Nd) (b : Bool) (w : World) (e : Ending) (w' : World) : Prop := ∃ (a : NA) (ps : List (Value × Tk)), e = .returned (.tuple #[.agg #[.slice a.tA n.ts.length a.tc, .slice a.mA n.mem.length a.mc, .slice a.rA n.rd.length a.rc, .int .i64 n.at', .int .i64 n.sr.chg, .int .i64 n.sr.cap, .int .i64 n.sr.on, .int .i64 n.sr.leak, .int .i64 n.lo, .int .i64 n.hi, .int .i64 n.ack, .slice a.gA n.got.length a.gc, .int .i64 n.done], .bool b]) ∧ OwA w.heap.size w' a ps n ∧ Bel w w'
theorem MkNP.to {n : Nd} {b : Bool} {w w' : World} {e : Ending} (h : MkNP n b w e w') : MkNP' n b w e w' := by
  obtain ⟨a, ps, rfl, _, ho, hb⟩ := h
  exact ⟨a, ps, rfl, ho, hb⟩
set_option maxHeartbeats 1000000 in
theorem Bx.set13 {w : World} {g : Nat} {t : TypeId} {c0 c1 c2 c3 c4 c5 c6 c7 c8 c9 c10 c11 c12 : Value} (h : Bx w g t #[c0, c1, c2, c3, c4, c5, c6, c7, c8, c9, c10, c11, c12]) (v0 v1 v2 v3 v4 v5 v6 v7 v8 v9 v10 v11 v12 : Value) :
    Bx (((((((((((((w.setCell ⟨g, 0, none⟩ v0).setCell ⟨g, 1, none⟩ v1).setCell ⟨g, 2, none⟩ v2).setCell ⟨g, 3, none⟩ v3).setCell ⟨g, 4, none⟩ v4).setCell ⟨g, 5, none⟩ v5).setCell ⟨g, 6, none⟩ v6).setCell ⟨g, 7, none⟩ v7).setCell ⟨g, 8, none⟩ v8).setCell ⟨g, 9, none⟩ v9).setCell ⟨g, 10, none⟩ v10).setCell ⟨g, 11, none⟩ v11).setCell ⟨g, 12, none⟩ v12) g t #[v0, v1, v2, v3, v4, v5, v6, v7, v8, v9, v10, v11, v12] :=
  have h0 : Bx _ g t #[v0, c1, c2, c3, c4, c5, c6, c7, c8, c9, c10, c11, c12] := h.set 0 v0
  have h1 : Bx _ g t #[v0, v1, c2, c3, c4, c5, c6, c7, c8, c9, c10, c11, c12] := h0.set 1 v1
  have h2 : Bx _ g t #[v0, v1, v2, c3, c4, c5, c6, c7, c8, c9, c10, c11, c12] := h1.set 2 v2
  have h3 : Bx _ g t #[v0, v1, v2, v3, c4, c5, c6, c7, c8, c9, c10, c11, c12] := h2.set 3 v3
  have h4 : Bx _ g t #[v0, v1, v2, v3, v4, c5, c6, c7, c8, c9, c10, c11, c12] := h3.set 4 v4
  have h5 : Bx _ g t #[v0, v1, v2, v3, v4, v5, c6, c7, c8, c9, c10, c11, c12] := h4.set 5 v5
  have h6 : Bx _ g t #[v0, v1, v2, v3, v4, v5, v6, c7, c8, c9, c10, c11, c12] := h5.set 6 v6
  have h7 : Bx _ g t #[v0, v1, v2, v3, v4, v5, v6, v7, c8, c9, c10, c11, c12] := h6.set 7 v7
  have h8 : Bx _ g t #[v0, v1, v2, v3, v4, v5, v6, v7, v8, c9, c10, c11, c12] := h7.set 8 v8
  have h9 : Bx _ g t #[v0, v1, v2, v3, v4, v5, v6, v7, v8, v9, c10, c11, c12] := h8.set 9 v9
  have h10 : Bx _ g t #[v0, v1, v2, v3, v4, v5, v6, v7, v8, v9, v10, c11, c12] := h9.set 10 v10
  have h11 : Bx _ g t #[v0, v1, v2, v3, v4, v5, v6, v7, v8, v9, v10, v11, c12] := h10.set 11 v11
  have h12 : Bx _ g t #[v0, v1, v2, v3, v4, v5, v6, v7, v8, v9, v10, v11, v12] := h11.set 12 v12
  h12
theorem OwA.box_ne {lo g : Nat} {w : World} {a : NA} {ps : List (Value × Tk)} {n : Nd} {t : TypeId} {cs : Array Value} (h : OwA lo w a ps n) (hb : Bx w g t cs) (h1 : 3 ≠ t) (h2 : 91 ≠ t) (h3 : 114 ≠ t) (q : Nat) (hq : NdB a ps n q) : q ≠ g := by
  rintro rfl
  rcases hq with (hq | ⟨p, hp, hq⟩) | hq | hq | hq
  · exact own_bx_ne h.ts.row hb h2 hq
  · exact own_bx_ne (h.ts.body p hp) hb h3 hq
  · exact own_bx_ne h.mem hb h1 hq
  · exact own_bx_ne h.rd hb h1 hq
  · exact own_bx_ne h.got hb h1 hq
set_option maxHeartbeats 1000000 in
/-- A node laid into a box that has just been made. -/
theorem nbx_store {lo0 lo g : Nat} {w : World} {a : NA} {ps : List (Value × Tk)} {n : Nd} {c0 c1 c2 c3 c4 c5 c6 c7 c8 c9 c10 c11 c12 : Value} (ho : OwA lo w a ps n) (hg : Bx w g 40 #[c0, c1, c2, c3, c4, c5, c6, c7, c8, c9, c10, c11, c12]) (hl : lo0 ≤ lo) (hlg : lo0 ≤ g) (W : World)
    (hW : W = (((((((((((((w.setCell ⟨g, 0, none⟩ (.slice a.tA n.ts.length a.tc)).setCell ⟨g, 1, none⟩ (.slice a.mA n.mem.length a.mc)).setCell ⟨g, 2, none⟩ (.slice a.rA n.rd.length a.rc)).setCell ⟨g, 3, none⟩ (.int .i64 n.at')).setCell ⟨g, 4, none⟩ (.int .i64 n.sr.chg)).setCell ⟨g, 5, none⟩ (.int .i64 n.sr.cap)).setCell ⟨g, 6, none⟩ (.int .i64 n.sr.on)).setCell ⟨g, 7, none⟩ (.int .i64 n.sr.leak)).setCell ⟨g, 8, none⟩ (.int .i64 n.lo)).setCell ⟨g, 9, none⟩ (.int .i64 n.hi)).setCell ⟨g, 10, none⟩ (.int .i64 n.ack)).setCell ⟨g, 11, none⟩ (.slice a.gA n.got.length a.gc)).setCell ⟨g, 12, none⟩ (.int .i64 n.done))) : NBx g lo0 W.heap.size a ps n W := by
  have hb : Bx W g 40 #[.slice a.tA n.ts.length a.tc, .slice a.mA n.mem.length a.mc, .slice a.rA n.rd.length a.rc, .int .i64 n.at', .int .i64 n.sr.chg, .int .i64 n.sr.cap, .int .i64 n.sr.on, .int .i64 n.sr.leak, .int .i64 n.lo, .int .i64 n.hi, .int .i64 n.ack, .slice a.gA n.got.length a.gc, .int .i64 n.done] := by rw [hW]; exact hg.set13 _ _ _ _ _ _ _ _ _ _ _ _ _
  have hc : Chg (fun q => q = g) w W := by
    rw [hW]
    repeat (first | with_reducible exact Chg.refl _ _ | with_reducible refine Chg.set ?_ _ rfl)
  have ho' : OwA lo W a ps n := ho.chg hc (fun q hq => ho.box_ne hg (by decide) (by decide) (by decide) q hq)
  exact ⟨hb, ho'.lower hl, hlg, hb.lt, fun q hq => (ho'.node q hq).2⟩
theorem nbx_storeB {lo0 lo g : Nat} {w0 w : World} {a : NA} {ps : List (Value × Tk)} {n : Nd} {c0 c1 c2 c3 c4 c5 c6 c7 c8 c9 c10 c11 c12 : Value} (ho : OwA lo w0 a ps n) (hb : Bel w0 w) (hg : Bx w g 40 #[c0, c1, c2, c3, c4, c5, c6, c7, c8, c9, c10, c11, c12]) (hl : lo0 ≤ lo) (hlg : lo0 ≤ g) (W : World)
    (hW : W = (((((((((((((w.setCell ⟨g, 0, none⟩ (.slice a.tA n.ts.length a.tc)).setCell ⟨g, 1, none⟩ (.slice a.mA n.mem.length a.mc)).setCell ⟨g, 2, none⟩ (.slice a.rA n.rd.length a.rc)).setCell ⟨g, 3, none⟩ (.int .i64 n.at')).setCell ⟨g, 4, none⟩ (.int .i64 n.sr.chg)).setCell ⟨g, 5, none⟩ (.int .i64 n.sr.cap)).setCell ⟨g, 6, none⟩ (.int .i64 n.sr.on)).setCell ⟨g, 7, none⟩ (.int .i64 n.sr.leak)).setCell ⟨g, 8, none⟩ (.int .i64 n.lo)).setCell ⟨g, 9, none⟩ (.int .i64 n.hi)).setCell ⟨g, 10, none⟩ (.int .i64 n.ack)).setCell ⟨g, 11, none⟩ (.slice a.gA n.got.length a.gc)).setCell ⟨g, 12, none⟩ (.int .i64 n.done))) : NBx g lo0 W.heap.size a ps n W := nbx_store (OwN.bel ho hb) hg hl hlg W hW
theorem tree_ne' {lo lo' : Nat} {w : World} {vt v : Value} {ps : List (Value × Tk)} {n : Nat} {cs : List Value} (h : OwT lo w vt ps) (h' : w.ownsRow lo' 3 1 v n cs) (k : Nat) (hk : v.ownBlock = some k) : ¬ TreeB vt ps k := by
  rintro (h1 | ⟨p, hp, h1⟩)
  · exact own_type_ne h.row h' (by decide) k h1 hk
  · exact own_type_ne (h.body p hp) h' (by decide) k h1 hk
/-- What a mark leaves: a number, and all but some blocks. -/
def MrkC (k : Int) (S : Nat → Prop) (w : World) (e : Ending) (w' : World) : Prop := e = .returned (.int .i64 k) ∧ Chg S w w'
theorem cnt_sml {ts : List Tk} {ps : List (Value × Tk)} (hs : SmT ts) (h : ps.map (·.2) = ts) : cnt ps ≤ 9437184 := by
  have hl : ps.length = ts.length := by rw [← h, List.length_map]
  rw [cnt_eq, h, hl]; have := hs.bods; have := hs.len; omega
theorem markProgram_sml (lo : Nat) (A : Option Addr) (ts : List Tk) (ps : List (Value × Tk)) (c : Nat) (k : Int) (w : World) (hs : SmT ts) (h : ps.map (·.2) = ts) (ho : OwT lo w (.slice A ps.length c) ps) (h0 : 0 ≤ k) (hk : k ≤ 1099511627776) :
    Calls Try.prog 14 #[.agg #[.slice A ts.length c], .int .i64 k] w (MrkC (k + cnt ps) (TreeB (.slice A ps.length c) ps) w) := by
  have hl : ps.length = ts.length := by rw [← h, List.length_map]
  have hc := cnt_sml hs h
  have hm := markProgram_any lo A ps c k w ho h0 (by omega) (by have := hs.len; omega) (fun p hp => by have := hs.body p.2 (by rw [← h]; exact List.mem_map.2 ⟨p, hp, rfl⟩); omega)
  rw [hl] at hm ⊢
  exact hm.mono fun e w' ⟨h1, _, h3⟩ => ⟨h1, h3⟩
theorem markIntS_sml (lo : Nat) (A : Option Addr) (xs : List Int) (c : Nat) (k : Int) (w : World) (hx : xs.length ≤ 1048576) (ho : w.ownsRow lo 3 1 (.slice A xs.length c) xs.length (xs.flatMap encI)) (h0 : 0 ≤ k) (hk : k ≤ 1099511627776) :
    Calls Try.prog 15 #[.slice A xs.length c, .int .i64 k] w (MrkC (k + xs.length) (fun b => (Value.slice A xs.length c).ownBlock = some b) w) :=
  (markIntS_any lo A xs c k w ho h0 (by omega) (by omega)).mono fun e w' ⟨h1, _, h3⟩ => ⟨h1, h3⟩
theorem cntN_sml {ps : List (Value × Tk)} {n : Nd} (hs : Sml n) (h : ps.map (·.2) = n.ts) : cntN ps n ≤ 20000000 := by
  have hl : ps.length = n.ts.length := by rw [← h, List.length_map]
  unfold cntN; rw [cnt_eq, h, hl]; have := hs.bods; have := hs.ts; have := hs.mem; have := hs.rd; have := hs.got; omega
/-- A marked node is held. -/
abbrev OwM (lo : Nat) (w : World) (a : NA) (ps : List (Value × Tk)) (n : Nd) : Prop := OwN lo w (.slice a.tA ps.length a.tc) (.slice a.mA n.mem.length a.mc) (.slice a.rA n.rd.length a.rc) (.slice a.gA n.got.length a.gc) (mkTs 1 ps) (mkN 1 ps n)
theorem markNode_sml' (lo : Nat) (a : NA) (ps : List (Value × Tk)) (n : Nd) (w : World) (hs : Sml n) (ho : OwA lo w a ps n) :
    Calls Try.prog 16 #[.agg #[.slice a.tA n.ts.length a.tc, .slice a.mA n.mem.length a.mc, .slice a.rA n.rd.length a.rc, .int .i64 n.at', .int .i64 n.sr.chg, .int .i64 n.sr.cap, .int .i64 n.sr.on, .int .i64 n.sr.leak, .int .i64 n.lo, .int .i64 n.hi, .int .i64 n.ack, .slice a.gA n.got.length a.gc, .int .i64 n.done], .int .i64 1] w (Mrk (.slice a.tA ps.length a.tc) 1 (cntN ps n) (fun w' => OwM lo w' a ps n) (NdB a ps n) w) :=
  markNode_sml lo a ps n w (by rw [← ho.eq, List.length_map]) hs ho
theorem heldNode_sml (lo : Nat) (a : NA) (ps : List (Value × Tk)) (n : Nd) (w : World) (hs : Sml n) (hpl : ps.map (·.2) = n.ts) (ho : OwM lo w a ps n) :
    Calls Try.prog 17 #[.agg #[.slice a.tA n.ts.length a.tc, .slice a.mA n.mem.length a.mc, .slice a.rA n.rd.length a.rc, .int .i64 n.at', .int .i64 n.sr.chg, .int .i64 n.sr.cap, .int .i64 n.sr.on, .int .i64 n.sr.leak, .int .i64 n.lo, .int .i64 n.hi, .int .i64 n.ack, .slice a.gA n.got.length a.gc, .int .i64 n.done], .int .i64 1] w (Bl (.int .i64 (1 + cntN ps n)) w) := by
  have hc := cntN_sml hs hpl
  have hl : ps.length = n.ts.length := by rw [← hpl, List.length_map]
  have hbody : ∀ p ∈ ps, p.2.body.length ≤ 1048576 := fun p hp => hs.body p.2 (by rw [← hpl]; exact List.mem_map.2 ⟨p, hp, rfl⟩)
  have hml : (mkTs 1 ps).length = ps.length := mkTs_len 1 ps
  have ht := ho.ts
  have hr : RdT w a.tA ((mkTs 1 ps).map (·.2)) := by
    have h := OwT.rd (lo := lo) (w := w) (A := a.tA) (c := a.tc) (ps := mkTs 1 ps) (by rw [hml]; exact ht) (by rw [hml]; have := hs.ts; omega) (fun p hp => by
      rw [List.mem_iff_getElem] at hp
      obtain ⟨j, hj, rfl⟩ := hp
      have hj' : j < ps.length := by rw [← hml]; exact hj
      have hg := mkTs_get 1 ps j hj'
      rw [List.getElem?_eq_getElem hj] at hg
      rw [Option.some.inj hg]
      show (mkSs _ _).length ≤ _
      rw [mkSs_len]; have := hbody _ (List.getElem_mem hj'); omega)
    exact h.1
  have lm := hs.mem
  have lr := hs.rd
  have lg := hs.got
  have hM : w.ownsRow lo 3 1 (.slice a.mA n.mem.length a.mc) (upto (1 + cnt ps) n.mem.length).length ((upto (1 + cnt ps) n.mem.length).flatMap encI) := ho.mem
  have hR : w.ownsRow lo 3 1 (.slice a.rA n.rd.length a.rc) (upto (1 + cnt ps + n.mem.length) n.rd.length).length ((upto (1 + cnt ps + n.mem.length) n.rd.length).flatMap encI) := ho.rd
  have hG : w.ownsRow lo 3 1 (.slice a.gA n.got.length a.gc) (upto (1 + cnt ps + n.mem.length + n.rd.length) n.got.length).length ((upto (1 + cnt ps + n.mem.length + n.rd.length) n.got.length).flatMap encI) := ho.got
  rw [upto_len] at hM hR hG
  exact heldNode_any a ps n 1 w hl.symm hr (own_rd' encI_ok hM (by rw [upto_len]) (by rw [upto_len]; omega)).1 (own_rd' encI_ok hR (by rw [upto_len]) (by rw [upto_len]; omega)).1 (own_rd' encI_ok hG (by rw [upto_len]) (by rw [upto_len]; omega)).1
    (by omega) (by omega) (by rw [hl]; have := hs.ts; omega) (fun p hp => by have := hbody p hp; omega) (by omega) (by omega) (by omega)
end Go.Proofs.Ytgodbldchaonpaa

/- Words for the laws: small copies, what is kept. No condition. -/
import Derived.Test.YtgodbldchaonpaaGreatRL
import Derived.Test.YtgodbldchaonpaaGreatMO
import Derived.Test.YtgodbldchaonpaaGreatLS
namespace Go.Proofs.YtgodbldchaonpaaGreat
open Go.RowKit
set_option linter.unusedVariables false
set_option linter.unusedSimpArgs false
set_option maxRecDepth 100000
/-- Tasks that the sizes let by. -/
structure SmT (ts : List Tk) : Prop where
  len : ts.length ≤ 1048576
  body : ∀ t ∈ ts, t.body.length ≤ 1048576
  bods : bodies ts ≤ 1048576
theorem SmT.of {ts : List Tk} {n : Nat} (hn : n ≤ 1048576) (h : tot ts ≤ n) : SmT ts := by
  unfold tot at h
  exact ⟨by omega, fun t ht => by have := bodies_mem ht; omega, by omega⟩
theorem SmT.small {ts : List Tk} (h : SmT ts) : small ts := fun t ht => by have := h.body t ht; omega
/-- Tasks made anew, with their place told. -/
def MkPr' (ts : List Tk) (w : World) (e : Ending) (w' : World) : Prop := ∃ A c, ∃ ps : List (Value × Tk), e = .returned (.agg #[.slice A ts.length c]) ∧ ps.length = ts.length ∧ ps.map (·.2) = ts ∧ OwT w.heap.size w' (.slice A ps.length c) ps ∧ RdT w' A ts ∧ ts.length ≤ c ∧ Bel w w'
theorem MkPr.sml {ts : List Tk} (hs : SmT ts) {w w' : World} {e : Ending} (h : MkPr ts w e w') : MkPr' ts w e w' := by
  obtain ⟨v, ps, rfl, hps, ho, hb⟩ := h
  obtain ⟨A, c, rfl, hc⟩ := ho.shape
  have hl : ps.length = ts.length := by rw [← hps, List.length_map]
  have hr := ho.rd (by have := hs.len; omega) (fun p hp => by have := hs.body p.2 (by rw [← hps]; exact List.mem_map.2 ⟨p, hp, rfl⟩); omega)
  rw [hps] at hr
  exact ⟨A, c, ps, by rw [hl], hl, hps, ho, hr.1, by omega, hb⟩
/-- Numbers made anew, with their place told. -/
def MkI' (xs : List Int) (w : World) (e : Ending) (w' : World) : Prop := ∃ A c, e = .returned (.slice A xs.length c) ∧ w'.ownsRow w.heap.size 3 1 (.slice A xs.length c) xs.length (xs.flatMap encI) ∧ RdI w' A xs ∧ xs.length ≤ c ∧ Bel w w'
theorem Mk.sml {xs : List Int} (hl : xs.length ≤ 17592186044416) {w w' : World} {e : Ending} (h : Mk encI 3 1 xs w e w') : MkI' xs w e w' := by
  obtain ⟨v, rfl, ho, hb⟩ := h
  obtain ⟨A, c, rfl, hc⟩ := own_shape ho
  have hr := own_rd' encI_ok ho rfl hl
  exact ⟨A, c, rfl, ho, hr.1, hc, hb⟩
theorem own_bx_ne {w : World} {base g : Nat} {e t : TypeId} {sz n : Nat} {v : Value} {xs : List Value} {cs : Array Value} (h : w.ownsRow base e sz v n xs) (hb : Bx w g t cs) (hne : e ≠ t) : v.ownBlock ≠ some g := by
  intro k
  rcases h.2 with ⟨rfl, _⟩ | ⟨g', cap, cur, rfl, _, hh, _⟩
  · cases k
  · cases k
    have := hb.out
    rw [hh] at this
    injection this with this
    injection this with _ ht
    exact hne ht
theorem tree_ne' {lo lo' : Nat} {w : World} {vt v : Value} {ps : List (Value × Tk)} {n : Nat} {cs : List Value} (h : OwT lo w vt ps) (h' : w.ownsRow lo' 3 1 v n cs) (k : Nat) (hk : v.ownBlock = some k) : ¬ TreeB vt ps k := by
  rintro (h1 | ⟨p, hp, h1⟩)
  · exact own_type_ne h.row h' (by decide) k h1 hk
  · exact own_type_ne (h.body p hp) h' (by decide) k h1 hk
/-- What a mark leaves: a number, and all but some blocks. -/
def MrkC (k : Int) (S : Nat → Prop) (w : World) (e : Ending) (w' : World) : Prop := e = .returned (.int .i64 k) ∧ Chg S w w'
theorem cnt_sml {ts : List Tk} {ps : List (Value × Tk)} (hs : SmT ts) (h : ps.map (·.2) = ts) : cnt ps ≤ 9437184 := by
  have hl : ps.length = ts.length := by rw [← h, List.length_map]
  rw [cnt_eq, h, hl]; have := hs.bods; have := hs.len; omega
theorem markProgram_sml (lo : Nat) (A : Option Addr) (ts : List Tk) (ps : List (Value × Tk)) (c : Nat) (k : Int) (w : World) (hs : SmT ts) (h : ps.map (·.2) = ts) (ho : OwT lo w (.slice A ps.length c) ps) (h0 : 0 ≤ k) (hk : k ≤ 1099511627776) :
    Calls Tryz.prog 15 #[.agg #[.slice A ts.length c], .int .i64 k] w (MrkC (k + cnt ps) (TreeB (.slice A ps.length c) ps) w) := by
  have hl : ps.length = ts.length := by rw [← h, List.length_map]
  have hc := cnt_sml hs h
  have hm := markProgram_any lo A ps c k w ho h0 (by omega) (by have := hs.len; omega) (fun p hp => by have := hs.body p.2 (by rw [← h]; exact List.mem_map.2 ⟨p, hp, rfl⟩); omega)
  rw [hl] at hm ⊢
  exact hm.mono fun e w' ⟨h1, _, h3⟩ => ⟨h1, h3⟩
theorem markIntS_sml (lo : Nat) (A : Option Addr) (xs : List Int) (c : Nat) (k : Int) (w : World) (hx : xs.length ≤ 1048576) (ho : w.ownsRow lo 3 1 (.slice A xs.length c) xs.length (xs.flatMap encI)) (h0 : 0 ≤ k) (hk : k ≤ 1099511627776) :
    Calls Tryz.prog 16 #[.slice A xs.length c, .int .i64 k] w (MrkC (k + xs.length) (fun b => (Value.slice A xs.length c).ownBlock = some b) w) :=
  (markIntS_any lo A xs c k w ho h0 (by omega) (by omega)).mono fun e w' ⟨h1, _, h3⟩ => ⟨h1, h3⟩
theorem mig_short (ts : List Tk) (m : List Int) (es : List Ex) : (migMem ts m es).length ≤ 1048576 := by
  unfold migMem
  split
  · rename_i h
    unfold migOk at h
    simp only [Bool.and_eq_true] at h
    obtain ⟨t, k, n, hG⟩ := memOk_G h.1
    unfold migD
    have h8 := rules_len h.2
    have h49 := hG.len
    simp only [List.length_set, List.length_append, List.length_map, List.length_drop, recovered_len]
    omega
  · simp
end Go.Proofs.YtgodbldchaonpaaGreat

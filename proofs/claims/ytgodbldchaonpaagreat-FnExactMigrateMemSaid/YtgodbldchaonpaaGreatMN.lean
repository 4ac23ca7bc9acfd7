/- The laws' own marks on programs, links and nodes. No condition. -/
import Derived.Test.YtgodbldchaonpaaGreatMU
import Derived.Test.YtgodbldchaonpaaGreatZ
namespace Go.Proofs.YtgodbldchaonpaaGreat
open Go.RowKit
set_option linter.unusedVariables false
set_option maxRecDepth 100000
theorem Chg.own {S : Nat → Prop} {w w' : World} (hc : Chg S w w') {base : Nat} {e : TypeId} {size n : Nat} {v : Value} {xs : List Value} (h : w.ownsRow base e size v n xs) (hne : ∀ k, v.ownBlock = some k → ¬ S k) : w'.ownsRow base e size v n xs :=
  own_keep h (fun k hk => hc.block k (h.lt k hk).2 (hne k hk))
theorem Chg.ownT {S : Nat → Prop} {w w' : World} (hc : Chg S w w') {lo : Nat} {v : Value} {ps : List (Value × Tk)} (h : OwT lo w v ps) (hne : ∀ k, TreeB v ps k → ¬ S k) : OwT lo w' v ps :=
  ⟨hc.own h.row (fun k hk => hne k (.inl hk)), fun p hp => hc.own (h.body p hp) (fun k hk => hne k (.inr ⟨p, hp, hk⟩)), h.apart, h.far⟩
set_option maxHeartbeats 1000000 in
theorem markProgram_any (lo : Nat) (A : Option Addr) (ps : List (Value × Tk)) (c : Nat) (k : Int) (w : World) (ho : OwT lo w (.slice A ps.length c) ps) (h0 : 0 ≤ k) (hk : k + cnt ps ≤ 4611686018427387904) (hl : ps.length ≤ 1099511627776) (hsm : ∀ p ∈ ps, p.2.body.length ≤ 1099511627776) :
    Calls Tryz.prog 15 #[.agg #[.slice A ps.length c], .int .i64 k] w (Mrk (.slice A ps.length c) k (cnt ps) (fun w' => OwT lo w' (.slice A ps.length c) (mkTs k ps)) (TreeB (.slice A ps.length c) ps) w) := by
  have HO := Hd.mk ho
  have HS := Hd.mk hsm
  clear ho hsm
  go_enter Tryz.func15, Tryz.ntmps15
  go_wp2_with (go_at_call 49; (with_reducible refine (markTaskS_any lo A ps c k _ (HO.out.alloc _) h0 hk hl HS.out).mono ?_); rintro e w' ⟨rfl, hown, hchg⟩; replace hown := Hd.mk hown; replace hchg := Hd.mk hchg)
  go_ret
  exact ⟨rfl, hown.out, ((Chg.refl _ _).alloc _).trans hchg.out⟩
set_option maxHeartbeats 1000000 in
theorem markGateway_any (lo : Nat) (A : Option Addr) (xs : List Int) (c : Nat) (k : Int) (w : World) (ho : w.ownsRow lo 3 1 (.slice A xs.length c) xs.length (xs.flatMap encI)) (h0 : 0 ≤ k) (hk : k + xs.length ≤ 4611686018427387904) (hl : xs.length ≤ 17592186044416) :
    Calls Tryz.prog 113 #[.agg #[.slice A xs.length c], .int .i64 k] w (Mrk (.slice A xs.length c) k xs.length (fun w' => w'.ownsRow lo 3 1 (.slice A xs.length c) xs.length ((upto k xs.length).flatMap encI)) (fun b => (Value.slice A xs.length c).ownBlock = some b) w) := by
  have HO := Hd.mk ho
  clear ho
  go_enter Tryz.func113, Tryz.ntmps113
  go_wp2_with (go_at_call 16; (with_reducible refine (markIntS_any lo A xs c k _ (HO.out.alloc _) h0 hk hl).mono ?_); rintro e w' ⟨rfl, hown, hchg⟩; replace hown := Hd.mk hown; replace hchg := Hd.mk hchg)
  go_ret
  exact ⟨rfl, hown.out, ((Chg.refl _ _).alloc _).trans hchg.out⟩
set_option maxHeartbeats 1000000 in
theorem markLink_any (lo : Nat) (x : Int) (A : Option Addr) (xs : List Int) (c : Nat) (k : Int) (w : World) (ho : w.ownsRow lo 3 1 (.slice A xs.length c) xs.length (xs.flatMap encI)) (h0 : 0 ≤ k) (hk : k + xs.length ≤ 4611686018427387904) (hl : xs.length ≤ 17592186044416) :
    Calls Tryz.prog 65 #[.agg #[.int .i64 x, .slice A xs.length c], .int .i64 k] w (Mrk (.slice A xs.length c) k xs.length (fun w' => w'.ownsRow lo 3 1 (.slice A xs.length c) xs.length ((upto k xs.length).flatMap encI)) (fun b => (Value.slice A xs.length c).ownBlock = some b) w) := by
  have HO := Hd.mk ho
  clear ho
  go_enter Tryz.func65, Tryz.ntmps65
  go_wp2_with (go_at_call 113; (with_reducible refine (markGateway_any lo A xs c k _ (HO.out.alloc _) h0 hk hl).mono ?_); rintro e w' ⟨rfl, hown, hchg⟩; replace hown := Hd.mk hown; replace hchg := Hd.mk hchg)
  go_ret
  exact ⟨rfl, hown.out, ((Chg.refl _ _).alloc _).trans hchg.out⟩
end Go.Proofs.YtgodbldchaonpaaGreat

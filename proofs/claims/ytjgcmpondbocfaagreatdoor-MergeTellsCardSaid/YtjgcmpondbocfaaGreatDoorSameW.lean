/- stratasame.Triples, walked. Under the reading of the arguments. -/
import Derived.Test.YtjgcmpondbocfaaGreatDoorProg
import Derived.Test.YtjgcmpondbocfaaGreatDoorSetW
namespace Go.Proofs.YtjgcmpondbocfaaGreatDoor
open Go.RowKit 
theorem sTriples_ret {xs ys : List Triple} {v u : Value} (w0 : World) (hv : RTriples w0 v xs) (hu : RTriples w0 u ys) : Ret Tryz.prog 35 [v, u] w0 fun r w' => r = .bool (decide (xs = ys)) ∧ Ext w0 w' := by
  obtain ⟨A, c, rfl, hc1, hc2⟩ := hv.form
  obtain ⟨A2, c2, rfl, hd1, hd2⟩ := hu.form
  have E : Ext w0 w0 := Ext.refl w0
  refine St.enter (N := 26) Tryz.func35 rfl Tryz.ntmps35 rfl ?_
  refine St.seq fun K0 hK0 => ?_
  refine St.region ?_
  refine St.r (R.assign rfl) rfl rfl ?_
  refine St.nil ?_
  refine St.weak [(0, _), (1, _)] ⟨rfl, rfl, trivial⟩ ?_
  refine St.then_n ?_
  refine St.go hK0 ?_
  clear hK0
  refine St.seq fun K1 hK1 => ?_
  refine St.seq fun K2 hK2 => ?_
  refine St.region ?_
  refine St.r (R.move rfl) rfl rfl ?_
  refine St.r (R.lenSl Tryz.underlying22 rfl) rfl rfl ?_
  refine St.r (R.move rfl) rfl rfl ?_
  refine St.r (R.lenSl Tryz.underlying22 rfl) rfl rfl ?_
  refine St.r (R.neq rfl rfl) rfl rfl ?_
  refine St.nil ?_
  refine St.weak [(0, _), (1, _), (10, _)] ⟨rfl, rfl, rfl, trivial⟩ ?_
  refine St.then_n ?_
  refine St.go hK2 ?_
  clear hK2
  refine St.condD rfl (fun h10 => ?_) (fun h10 => ?_)
  ·
    refine St.seq fun K3 hK3 => ?_
    refine St.region ?_
    refine St.r (R.assign rfl) rfl rfl ?_
    refine St.nil ?_
    refine St.weak [(4, _)] ⟨rfl, trivial⟩ ?_
    refine St.then_n ?_
    refine St.go hK3 ?_
    clear hK3
    refine St.ret ?_
    refine St.then_r ?_
    refine St.ret1 Tryz.results35 rfl ?_
    exact ⟨_, rfl, by rw [decide_eq_false (fun e => h10 (by rw [e]))], E⟩
  ·
    refine St.skip ?_
    refine St.then_n ?_
    refine St.go hK1 ?_
    clear hK1
    refine St.seq fun K4 hK4 => ?_
    refine St.seq fun K5 hK5 => ?_
    refine St.region ?_
    refine St.r (R.assign rfl) rfl rfl ?_
    refine St.nil ?_
    refine St.weak [(0, _), (1, _), (5, _)] ⟨rfl, rfl, rfl, trivial⟩ ?_
    refine St.then_n ?_
    refine St.go hK5 ?_
    clear hK5
    refine St.block ?_
    refine St.loop (fun (k : Nat) => [(0, .slice A xs.length c), (1, .slice A2 ys.length c2), (5, .int .i64 (k : Int))])
        (fun (k : Nat) w => k ≤ xs.length ∧ Ext w0 w ∧ xs.take k = ys.take k)
        (fun (k : Nat) => xs.length - k) 0 ⟨rfl, rfl, rfl, trivial⟩ ?_ ?_
    · exact ⟨Nat.zero_le _, E, by simp⟩
    rintro k w ⟨hk, E, hall⟩
    show St _ _ [(0, .slice A xs.length c), (1, .slice A2 ys.length c2), (5, .int .i64 (k : Int))] _ _
    refine St.seq fun K6 hK6 => ?_
    refine St.seq fun K7 hK7 => ?_
    refine St.region ?_
    refine St.r (R.move rfl) rfl rfl ?_
    refine St.r (R.move rfl) rfl rfl ?_
    refine St.r (R.lenSl Tryz.underlying22 rfl) rfl rfl ?_
    refine St.r (R.lss rfl rfl) rfl rfl ?_
    refine St.nil ?_
    refine St.weak [(0, _), (1, _), (5, _), (14, _)] ⟨rfl, rfl, rfl, rfl, trivial⟩ ?_
    refine St.then_n ?_
    refine St.go hK7 ?_
    clear hK7
    refine St.condD rfl (fun h14 => ?_) (fun h14 => ?_)
    ·
      obtain ⟨x, hx⟩ := get_of_lt (xs := xs) (k := k) (by omega)
      obtain ⟨y, hy⟩ := get_of_lt (xs := ys) (k := k) (by omega)
      obtain ⟨b, o, rfl, hxc⟩ := hv.get' hx
      obtain ⟨b2, o2, rfl, hyc⟩ := hu.get' hy
      refine St.skip ?_
      refine St.then_n ?_
      refine St.go hK6 ?_
      clear hK6
      refine St.seq fun K8 hK8 => ?_
      refine St.block ?_
      refine St.seq fun K9 hK9 => ?_
      refine St.weak [(0, _), (1, _), (5, _)] ⟨rfl, rfl, rfl, trivial⟩ ?_
      refine St.draw mixed rfl rfl rfl rfl ?_
      replace E := Ext.trans E (Ext.drew _)
      refine ⟨_, OpOk.r (R.move rfl) rfl, ?_⟩
      refine ⟨_, OpOk.r (R.move rfl) rfl, ?_⟩
      refine ⟨_, OpOk.r (R.indexS k Tryz.underlying22 Tryz.sizeOf100 rfl rfl rfl (by omega)) rfl, ?_⟩
      refine ⟨_, OpOk.r (R.loadA Tryz.isAgg100 Tryz.sizeOf100 rfl (E.cells hxc) rfl) rfl, ?_⟩
      refine ⟨_, OpOk.r (R.move rfl) rfl, ?_⟩
      refine ⟨_, OpOk.r (R.move rfl) rfl, ?_⟩
      refine ⟨_, OpOk.r (R.indexS k Tryz.underlying22 Tryz.sizeOf100 rfl rfl rfl (by omega)) rfl, ?_⟩
      refine ⟨_, OpOk.r (R.loadA Tryz.isAgg100 Tryz.sizeOf100 rfl (E.cells hyc) rfl) rfl, ?_⟩
      refine ⟨_, OpOk.r (R.neAgg Tryz.eqGuardType100 (eqTriple x y) rfl rfl) rfl, ?_⟩
      show St _ _ _ _ _
      refine St.weak [(0, _), (1, _), (5, _), (25, _)] ⟨rfl, rfl, rfl, rfl, trivial⟩ ?_
      refine St.then_n ?_
      refine St.go hK9 ?_
      clear hK9
      refine St.cond rfl (fun h25 => ?_) (fun h25 => ?_)
      ·
        refine St.seq fun K10 hK10 => ?_
        refine St.region ?_
        refine St.r (R.assign rfl) rfl rfl ?_
        refine St.nil ?_
        refine St.weak [(4, _)] ⟨rfl, trivial⟩ ?_
        refine St.then_n ?_
        refine St.go hK10 ?_
        clear hK10
        refine St.ret ?_
        refine St.in_r ?_
        refine St.then_r ?_
        refine St.then_r ?_
        refine St.in_r ?_
        refine St.then_r ?_
        refine St.ret1 Tryz.results35 rfl ?_
        exact ⟨_, rfl, by rw [decide_eq_false (fun e => (by simpa using h25 : ¬ x = y) (by subst e; rw [hx] at hy; injection hy))], E⟩
      ·
        refine St.skip ?_
        refine St.in_n ?_
        refine St.then_n ?_
        refine St.go hK8 ?_
        clear hK8
        refine St.region ?_
        refine St.r (R.move rfl) rfl rfl ?_
        refine St.r (R.add rfl rfl (by omega) (by omega)) rfl rfl ?_
        refine St.r (R.assign rfl) rfl rfl ?_
        refine St.nil ?_
        refine St.weak [(0, _), (1, _), (5, _)] ⟨rfl, rfl, rfl, trivial⟩ ?_
        refine St.then_n ?_
        refine St.round (k + 1) ⟨rfl, rfl, rfl, trivial⟩ ?_ ?_
        · refine ⟨by omega, E, ?_⟩
          rw [take_snoc hx, take_snoc hy, hall]
          congr 2
          simpa using h25
        · omega
    ·
      refine St.exit ?_
      refine St.then_x ?_
      refine St.then_x ?_
      refine St.in_x ?_
      refine St.then_n ?_
      refine St.go hK4 ?_
      clear hK4
      refine St.seq fun K11 hK11 => ?_
      refine St.region ?_
      refine St.r (R.assign rfl) rfl rfl ?_
      refine St.nil ?_
      refine St.weak [(4, _)] ⟨rfl, trivial⟩ ?_
      refine St.then_n ?_
      refine St.go hK11 ?_
      clear hK11
      refine St.ret ?_
      refine St.ret1 Tryz.results35 rfl ?_
      rw [List.take_of_length_le (by omega), List.take_of_length_le (by omega)] at hall
      exact ⟨_, rfl, by rw [decide_eq_true hall], E⟩

end Go.Proofs.YtjgcmpondbocfaaGreatDoor

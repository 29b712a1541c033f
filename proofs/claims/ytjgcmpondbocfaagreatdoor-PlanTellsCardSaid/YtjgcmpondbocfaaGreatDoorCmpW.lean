/- What comparisons come to: numbers, texts, terms, triples; the first that is not nought. Under the reading of the arguments. -/
import Derived.Test.YtjgcmpondbocfaaGreatDoorProg
import Derived.Test.YtjgcmpondbocfaaGreatDoorTermPure
import Derived.Test.YtjgcmpondbocfaaGreatDoorEff
import Derived.Test.YtjgcmpondbocfaaGreatDoorMore
import Derived.Shelf.Small.Strs
namespace Go.Proofs.YtjgcmpondbocfaaGreatDoor
open Go.RowKit Go.Shelf
theorem ent59 : Ent Tryz.prog 59 := Ent.of Tryz.func59 (by kernel_rfl) rfl
theorem ent60 : Ent Tryz.prog 60 := Ent.of Tryz.func60 (by kernel_rfl) rfl
theorem ent131 : Ent Tryz.prog 131 := Ent.of Tryz.func131 (by kernel_rfl) rfl
theorem ent167 : Ent Tryz.prog 167 := Ent.of Tryz.func167 (by kernel_rfl) rfl
theorem mixed : Tryz.prog.follows .mixedOrders = true := by kernel_rfl
def layCompare_ren : Go.Shelf.Ren := ⟨fun | 106 => 167 | 213 => 223 | 265 => 258 | n => n, fun | 9 => 9 | 3 => 3 | n => n, fun | n => n⟩
theorem layCompare : Go.Proofs.Lays.n106 Tryz.prog layCompare_ren := {
  mixed := by kernel_rfl
  f106 := Tryz.func167.trans (congrArg some (by kernel_rfl))
  f213 := Tryz.func223.trans (congrArg some (by kernel_rfl))
  f265 := Tryz.func258.trans (congrArg some (by kernel_rfl))
  t3 := Tryz.underlying3
  a3 := Tryz.isAgg3
  z3 := Tryz.sizeOf3
  v3 := Tryz.zeroValue3
  t9 := Tryz.underlying9
  a9 := Tryz.isAgg9
  z9 := Tryz.sizeOf9
  v9 := Tryz.zeroValue9 }

theorem sCompare_ret {a b : ByteArray} (w0 : World) : Ret Tryz.prog 167 [.string a, .string b] w0 fun r w' => r = .int .i64 (cmpS a b) ∧ Ext w0 w' := by
  refine Calls.mono (Any.strings_Compare layCompare a b w0) ?_
  rintro e w' ⟨rfl, rfl⟩
  exact ⟨_, rfl, rfl, Ext.refl _⟩

theorem isNaN_ret {a : Int} (w0 : World) : Ret Tryz.prog 131 [.int .i64 a] w0 fun r w' => r = .bool false ∧ w' = w0 := by
  refine St.enter (N := 6) Tryz.func131 rfl Tryz.ntmps131 rfl ?_
  refine St.seq fun K0 hK0 => ?_
  refine St.region ?_
  refine St.r (R.assign rfl) rfl rfl ?_
  refine St.nil ?_
  refine St.weak [(0, _)] ⟨rfl, trivial⟩ ?_
  refine St.then_n ?_
  refine St.go hK0 ?_
  clear hK0
  refine St.seq fun K1 hK1 => ?_
  refine St.region ?_
  refine St.r (R.move rfl) rfl rfl ?_
  refine St.r (R.move rfl) rfl rfl ?_
  refine St.r (Runs.lit (c := false) (R.neq rfl rfl) (decide_eq_false (fun h => h rfl))) rfl rfl ?_
  refine St.r (R.assign rfl) rfl rfl ?_
  refine St.nil ?_
  refine St.weak [(2, _)] ⟨rfl, trivial⟩ ?_
  refine St.then_n ?_
  refine St.go hK1 ?_
  clear hK1
  refine St.ret ?_
  refine St.ret1 Tryz.results131 rfl ?_
  exact ⟨_, rfl, rfl, rfl⟩

theorem iCompare_ret {a b : Int} (w0 : World) : Ret Tryz.prog 60 [.int .i64 a, .int .i64 b] w0 fun r w' => r = .int .i64 (cmpI a b) ∧ Ext w0 w' := by
  refine St.enter (N := 20) Tryz.func60 rfl Tryz.ntmps60 rfl ?_
  refine St.seq fun K0 hK0 => ?_
  refine St.region ?_
  refine St.r (R.assign rfl) rfl rfl ?_
  refine St.nil ?_
  refine St.weak [(0, _), (1, _)] ⟨rfl, rfl, trivial⟩ ?_
  refine St.then_n ?_
  refine St.go hK0 ?_
  clear hK0
  refine St.seq fun K1 hK1 => ?_
  refine St.region ?_
  refine St.r (R.move rfl) rfl rfl ?_
  refine St.call rfl rfl ent131 (isNaN_ret _) rfl ?_
  rintro r8 w8 ⟨rfl, hw8⟩
  subst w8
  refine St.r (R.assign rfl) rfl rfl ?_
  refine St.nil ?_
  refine St.weak [(0, _), (1, _), (5, _)] ⟨rfl, rfl, rfl, trivial⟩ ?_
  refine St.then_n ?_
  refine St.go hK1 ?_
  clear hK1
  refine St.seq fun K2 hK2 => ?_
  refine St.region ?_
  refine St.r (R.move rfl) rfl rfl ?_
  refine St.call rfl rfl ent131 (isNaN_ret _) rfl ?_
  rintro r10 w10 ⟨rfl, hw10⟩
  subst w10
  refine St.r (R.assign rfl) rfl rfl ?_
  refine St.nil ?_
  refine St.weak [(0, _), (1, _), (5, _), (6, _)] ⟨rfl, rfl, rfl, rfl, trivial⟩ ?_
  refine St.then_n ?_
  refine St.go hK2 ?_
  clear hK2
  refine St.seq fun K3 hK3 => ?_
  refine St.seq fun K4 hK4 => ?_
  refine St.region ?_
  refine St.r (R.move rfl) rfl rfl ?_
  refine St.nil ?_
  refine St.weak [(0, _), (1, _), (6, _), (11, _)] ⟨rfl, rfl, rfl, rfl, trivial⟩ ?_
  refine St.then_n ?_
  refine St.go hK4 ?_
  clear hK4
  refine St.condF rfl ?_
  refine St.skip ?_
  refine St.then_n ?_
  refine St.go hK3 ?_
  clear hK3
  refine St.seq fun K5 hK5 => ?_
  refine St.seq fun K6 hK6 => ?_
  refine St.region ?_
  refine St.r (R.move rfl) rfl rfl ?_
  refine St.nil ?_
  refine St.weak [(0, _), (1, _), (13, _)] ⟨rfl, rfl, rfl, trivial⟩ ?_
  refine St.then_n ?_
  refine St.go hK6 ?_
  clear hK6
  refine St.condF rfl ?_
  refine St.skip ?_
  refine St.then_n ?_
  refine St.go hK5 ?_
  clear hK5
  refine St.seq fun K7 hK7 => ?_
  refine St.seq fun K8 hK8 => ?_
  refine St.region ?_
  refine St.r (R.move rfl) rfl rfl ?_
  refine St.r (R.move rfl) rfl rfl ?_
  refine St.r (R.lss rfl rfl) rfl rfl ?_
  refine St.nil ?_
  refine St.weak [(0, _), (1, _), (16, _)] ⟨rfl, rfl, rfl, trivial⟩ ?_
  refine St.then_n ?_
  refine St.go hK8 ?_
  clear hK8
  refine St.condD rfl (fun h16 => ?_) (fun h16 => ?_)
  ·
    refine St.seq fun K9 hK9 => ?_
    refine St.region ?_
    refine St.r (R.assign rfl) rfl rfl ?_
    refine St.nil ?_
    refine St.weak [(4, _)] ⟨rfl, trivial⟩ ?_
    refine St.then_n ?_
    refine St.go hK9 ?_
    clear hK9
    refine St.ret ?_
    refine St.then_r ?_
    refine St.ret1 Tryz.results60 rfl ?_
    exact ⟨_, rfl, by rw [cmpI, if_pos h16], Ext.refl _⟩
  ·
    refine St.skip ?_
    refine St.then_n ?_
    refine St.go hK7 ?_
    clear hK7
    refine St.seq fun K10 hK10 => ?_
    refine St.seq fun K11 hK11 => ?_
    refine St.region ?_
    refine St.r (R.move rfl) rfl rfl ?_
    refine St.r (R.move rfl) rfl rfl ?_
    refine St.r (R.gtr rfl rfl) rfl rfl ?_
    refine St.nil ?_
    refine St.weak [(19, _)] ⟨rfl, trivial⟩ ?_
    refine St.then_n ?_
    refine St.go hK11 ?_
    clear hK11
    refine St.condD rfl (fun h19 => ?_) (fun h19 => ?_)
    ·
      refine St.seq fun K12 hK12 => ?_
      refine St.region ?_
      refine St.r (R.assign rfl) rfl rfl ?_
      refine St.nil ?_
      refine St.weak [(4, _)] ⟨rfl, trivial⟩ ?_
      refine St.then_n ?_
      refine St.go hK12 ?_
      clear hK12
      refine St.ret ?_
      refine St.then_r ?_
      refine St.ret1 Tryz.results60 rfl ?_
      exact ⟨_, rfl, by rw [cmpI, if_neg h16, if_pos h19], Ext.refl _⟩
    ·
      refine St.skip ?_
      refine St.then_n ?_
      refine St.go hK10 ?_
      clear hK10
      refine St.seq fun K13 hK13 => ?_
      refine St.region ?_
      refine St.r (R.assign rfl) rfl rfl ?_
      refine St.nil ?_
      refine St.weak [(4, _)] ⟨rfl, trivial⟩ ?_
      refine St.then_n ?_
      refine St.go hK13 ?_
      clear hK13
      refine St.ret ?_
      refine St.ret1 Tryz.results60 rfl ?_
      exact ⟨_, rfl, by rw [cmpI, if_neg h16, if_neg h19], Ext.refl _⟩

theorem Or_ret {xs : List Int} {v : Value} (w0 : World) (hv : RInts w0 v xs) : Ret Tryz.prog 59 [v] w0 fun r w' => r = .int .i64 (firstI xs) ∧ Ext w0 w' := by
  obtain ⟨A, c, rfl, hc1, hc2⟩ := hv.form
  refine St.enter (N := 18) Tryz.func59 rfl Tryz.ntmps59 rfl ?_
  refine St.seq fun K0 hK0 => ?_
  refine St.region ?_
  refine St.r (R.assign rfl) rfl rfl ?_
  refine St.nil ?_
  refine St.weak [(0, _)] ⟨rfl, trivial⟩ ?_
  refine St.then_n ?_
  refine St.go hK0 ?_
  clear hK0
  refine St.seq fun K1 hK1 => ?_
  refine St.region ?_
  refine St.r (R.assign rfl) rfl rfl ?_
  refine St.nil ?_
  refine St.weak [(0, _), (3, _)] ⟨rfl, rfl, trivial⟩ ?_
  refine St.then_n ?_
  refine St.go hK1 ?_
  clear hK1
  refine St.seq fun K2 hK2 => ?_
  refine St.seq fun K3 hK3 => ?_
  refine St.region ?_
  refine St.r (R.move rfl) rfl rfl ?_
  refine St.r (R.lenSl Tryz.underlying27 rfl) rfl rfl ?_
  refine St.r (R.move rfl) rfl rfl ?_
  refine St.nil ?_
  refine St.weak [(3, _), (6, _), (7, _), (8, _)] ⟨rfl, rfl, rfl, rfl, trivial⟩ ?_
  refine St.then_n ?_
  refine St.go hK3 ?_
  clear hK3
  refine St.block ?_
  refine St.loop (fun (k : Nat) => [(3, .int .i64 0), (6, .slice A xs.length c), (7, .int .i64 (xs.length : Int)), (8, .int .i64 (k : Int))])
      (fun (k : Nat) w => k ≤ xs.length ∧ w = w0 ∧ firstI xs = firstI (xs.drop k))
      (fun (k : Nat) => xs.length - k) 0 ⟨rfl, rfl, rfl, rfl, trivial⟩ ?_ ?_
  · exact ⟨Nat.zero_le _, rfl, rfl⟩
  rintro k w ⟨hk, hw, hf⟩
  show St _ _ [(3, .int .i64 0), (6, .slice A xs.length c), (7, .int .i64 (xs.length : Int)), (8, .int .i64 (k : Int))] _ _
  subst w
  refine St.seq fun K4 hK4 => ?_
  refine St.region ?_
  refine St.r (R.lss rfl rfl) rfl rfl ?_
  refine St.nil ?_
  refine St.weak [(3, _), (6, _), (7, _), (8, _), (9, _)] ⟨rfl, rfl, rfl, rfl, rfl, trivial⟩ ?_
  refine St.then_n ?_
  refine St.go hK4 ?_
  clear hK4
  refine St.seq fun K5 hK5 => ?_
  refine St.condD rfl (fun h9 => ?_) (fun h9 => ?_)
  ·
    obtain ⟨x, hx⟩ := get_of_lt (xs := xs) (k := k) (by omega)
    obtain ⟨xb, xo, rfl, hxc⟩ := hv.get' hx
    refine St.skip ?_
    refine St.then_n ?_
    refine St.go hK5 ?_
    clear hK5
    refine St.seq fun K6 hK6 => ?_
    refine St.block ?_
    refine St.seq fun K7 hK7 => ?_
    refine St.region ?_
    refine St.r (R.indexS k Tryz.underlying27 Tryz.sizeOf3 rfl rfl rfl (by omega)) rfl rfl ?_
    refine St.r (R.load1 Tryz.isAgg3 rfl (hxc.at 0 rfl)) rfl rfl ?_
    refine St.r (R.assign rfl) rfl rfl ?_
    refine St.nil ?_
    refine St.weak [(3, _), (5, _), (6, _), (7, _), (8, _)] ⟨rfl, rfl, rfl, rfl, rfl, trivial⟩ ?_
    refine St.then_n ?_
    refine St.go hK7 ?_
    clear hK7
    refine St.seq fun K8 hK8 => ?_
    refine St.region ?_
    refine St.r (R.move rfl) rfl rfl ?_
    refine St.r (R.move rfl) rfl rfl ?_
    refine St.r (R.neq rfl rfl) rfl rfl ?_
    refine St.nil ?_
    refine St.weak [(3, _), (5, _), (6, _), (7, _), (8, _), (14, _)] ⟨rfl, rfl, rfl, rfl, rfl, rfl, trivial⟩ ?_
    refine St.then_n ?_
    refine St.go hK8 ?_
    clear hK8
    refine St.condD rfl (fun h14 => ?_) (fun h14 => ?_)
    ·
      refine St.seq fun K9 hK9 => ?_
      refine St.region ?_
      refine St.r (R.move rfl) rfl rfl ?_
      refine St.r (R.assign rfl) rfl rfl ?_
      refine St.nil ?_
      refine St.weak [(2, _)] ⟨rfl, trivial⟩ ?_
      refine St.then_n ?_
      refine St.go hK9 ?_
      clear hK9
      refine St.ret ?_
      refine St.in_r ?_
      refine St.then_r ?_
      refine St.then_r ?_
      refine St.in_r ?_
      refine St.then_r ?_
      refine St.ret1 Tryz.results59 rfl ?_
      exact ⟨_, rfl, by rw [hf, drop_at hx, firstI, if_pos h14], Ext.refl _⟩
    ·
      refine St.skip ?_
      refine St.in_n ?_
      refine St.then_n ?_
      refine St.go hK6 ?_
      clear hK6
      refine St.region ?_
      refine St.r (R.add rfl rfl (by omega) (by omega)) rfl rfl ?_
      refine St.r (R.move rfl) rfl rfl ?_
      refine St.nil ?_
      refine St.weak [(3, _), (6, _), (7, _), (8, _)] ⟨rfl, rfl, rfl, rfl, trivial⟩ ?_
      refine St.then_n ?_
      refine St.round (k + 1) ⟨rfl, rfl, rfl, rfl, trivial⟩ ?_ ?_
      · refine ⟨by omega, rfl, ?_⟩
        rw [hf, drop_at hx, firstI, if_neg (by simpa using h14)]
      · omega
  ·
    refine St.exit ?_
    refine St.then_x ?_
    refine St.then_x ?_
    refine St.in_x ?_
    refine St.then_n ?_
    refine St.go hK2 ?_
    clear hK2
    refine St.seq fun K10 hK10 => ?_
    refine St.region ?_
    refine St.r (R.move rfl) rfl rfl ?_
    refine St.r (R.assign rfl) rfl rfl ?_
    refine St.nil ?_
    refine St.weak [(2, _)] ⟨rfl, trivial⟩ ?_
    refine St.then_n ?_
    refine St.go hK10 ?_
    clear hK10
    refine St.ret ?_
    refine St.ret1 Tryz.results59 rfl ?_
    exact ⟨_, rfl, by rw [hf, List.drop_of_length_le (by omega)]; rfl, Ext.refl _⟩

theorem tCompare_ret {a b : Term} (w0 : World) : Ret Tryz.prog 114 [.agg (encTerm a).toArray, .agg (encTerm b).toArray] w0 fun r w' => r = .int .i64 (termCmp a b) ∧ Ext w0 w' := by
  have E : Ext w0 w0 := Ext.refl w0
  refine St.enter (N := 22) Tryz.func114 rfl Tryz.ntmps114 rfl ?_
  refine St.seq fun K0 hK0 => ?_
  refine St.region ?_
  refine St.box rfl rfl ?_
  intro w2 b2 hb2 hs2 e2 k2
  have qE2 := E.size
  replace E := Ext.trans E e2
  refine St.box rfl rfl ?_
  intro w3 b3 hb3 hs3 e3 k3
  have qE3 := E.size
  replace E := Ext.trans E e3
  replace k2 := k2.ext e3
  refine St.r (R.assign rfl) rfl rfl ?_
  refine St.nil ?_
  refine St.weak [(2, _), (3, _)] ⟨rfl, rfl, trivial⟩ ?_
  refine St.then_n ?_
  refine St.go hK0 ?_
  clear hK0
  refine St.seq fun K1 hK1 => ?_
  refine St.weak [(2, _), (3, _)] ⟨rfl, rfl, trivial⟩ ?_
  refine St.drawT (S := fun _ => False) (eff := [4, 9, 14, 15, 16]) mixed rfl rfl rfl rfl ?_
  replace E := Ext.trans E (Ext.drew _)
  replace k2 := k2.ext (Ext.drew _)
  replace k3 := k3.ext (Ext.drew _)
  refine DrawT.quiet 0 rfl rfl (fun W eW => OpOk.r (R.fieldA Tryz.underlying44 rfl Tryz.sizeOf3 rfl rfl rfl) rfl) ?_
  refine DrawT.quiet 1 rfl rfl (fun W eW => OpOk.r (R.load1 Tryz.isAgg3 rfl ((k2.ext eW).cells.at 0 rfl)) rfl) ?_
  refine DrawT.quiet 2 rfl rfl (fun W eW => OpOk.r (R.fieldA Tryz.underlying44 rfl Tryz.sizeOf3 rfl rfl rfl) rfl) ?_
  refine DrawT.quiet 3 rfl rfl (fun W eW => OpOk.r (R.load1 Tryz.isAgg3 rfl ((k3.ext eW).cells.at 0 rfl)) rfl) ?_
  refine DrawT.quiet 5 rfl rfl (fun W eW => OpOk.r (R.fieldA Tryz.underlying44 rfl Tryz.sizeOf9 rfl rfl rfl) rfl) ?_
  refine DrawT.quiet 6 rfl rfl (fun W eW => OpOk.r (R.load1 Tryz.isAgg9 rfl ((k2.ext eW).cells.at 1 rfl)) rfl) ?_
  refine DrawT.quiet 7 rfl rfl (fun W eW => OpOk.r (R.fieldA Tryz.underlying44 rfl Tryz.sizeOf9 rfl rfl rfl) rfl) ?_
  refine DrawT.quiet 8 rfl rfl (fun W eW => OpOk.r (R.load1 Tryz.isAgg9 rfl ((k3.ext eW).cells.at 1 rfl)) rfl) ?_
  refine DrawT.quiet 10 rfl rfl (fun W eW => OpOk.r (R.fieldA Tryz.underlying44 rfl Tryz.sizeOf9 rfl rfl rfl) rfl) ?_
  refine DrawT.quiet 11 rfl rfl (fun W eW => OpOk.r (R.load1 Tryz.isAgg9 rfl ((k2.ext eW).cells.at 2 rfl)) rfl) ?_
  refine DrawT.quiet 12 rfl rfl (fun W eW => OpOk.r (R.fieldA Tryz.underlying44 rfl Tryz.sizeOf9 rfl rfl rfl) rfl) ?_
  refine DrawT.quiet 13 rfl rfl (fun W eW => OpOk.r (R.load1 Tryz.isAgg9 rfl ((k3.ext eW).cells.at 2 rfl)) rfl) ?_
  refine DrawT.one (n := 4) [] rfl rfl rfl (by kernel_rfl) (OpC.plain (Eff.call rfl rfl ent60 (iCompare_ret _)) rfl) ?_ ?_
  · rintro r9 w9 ⟨rfl, e9⟩
    refine ⟨?_, trivial⟩
    exact e9
  rintro r9 w9 ⟨rfl, e9⟩
  replace E := Ext.trans E e9
  replace k2 := k2.ext e9
  replace k3 := k3.ext e9
  refine DrawT.one (n := 9) [] rfl rfl rfl (by kernel_rfl) (OpC.plain (Eff.call rfl rfl ent167 (sCompare_ret _)) rfl) ?_ ?_
  · rintro r14 w14 ⟨rfl, e14⟩
    refine ⟨?_, trivial⟩
    exact e14
  rintro r14 w14 ⟨rfl, e14⟩
  replace E := Ext.trans E e14
  replace k2 := k2.ext e14
  replace k3 := k3.ext e14
  refine DrawT.one (n := 14) [] rfl rfl rfl (by kernel_rfl) (OpC.plain (Eff.call rfl rfl ent167 (sCompare_ret _)) rfl) ?_ ?_
  · rintro r19 w19 ⟨rfl, e19⟩
    refine ⟨?_, trivial⟩
    exact e19
  rintro r19 w19 ⟨rfl, e19⟩
  replace E := Ext.trans E e19
  replace k2 := k2.ext e19
  replace k3 := k3.ext e19
  refine DrawT.one (n := 15) [] rfl rfl rfl (by kernel_rfl) (OpC.plain (Eff.buildSl Tryz.underlying27 Tryz.sizeOf3 Tryz.zeroValue3 rfl rfl rfl rfl (by intro u hu; simp only [List.mem_cons, List.not_mem_nil, or_false] at hu; first | (subst hu; rfl) | (rcases hu with rfl | rfl <;> rfl) | (rcases hu with rfl | rfl | rfl <;> rfl))) rfl) ?_ ?_
  · rintro _ _ ⟨_, _, _, _, e, _⟩
    refine ⟨?_, trivial⟩
    exact Chg.mono e (fun _ _ h => h.elim)
  rintro _ w20 ⟨b20, rfl, hb20, hs20, e20, k20⟩
  have qE20 := E.size
  replace E := Ext.trans E e20
  replace k2 := k2.ext e20
  replace k3 := k3.ext e20
  refine DrawT.one (n := 16) [] rfl rfl rfl (by kernel_rfl) (OpC.plain (Eff.call rfl rfl ent59 (Or_ret _ (RSl.mk (enc := encInt) (xs := [cmpI a.kind b.kind, cmpS a.s b.s, cmpS a.lang b.lang]) encInt_len k20.cells (fun i u hu => hu) (by simp) (by simp)))) rfl) ?_ ?_
  · rintro r21 w21 ⟨rfl, e21⟩
    refine ⟨?_, trivial⟩
    exact e21
  rintro r21 w21 ⟨rfl, e21⟩
  replace E := Ext.trans E e21
  replace k2 := k2.ext e21
  replace k3 := k3.ext e21
  replace k20 := k20.ext e21
  refine DrawT.quiet 17 rfl rfl (fun W eW => OpOk.r (R.assign rfl) rfl) ?_
  refine DrawT.fin rfl ?_
  show St _ _ _ _ _
  refine St.weak [(4, _)] ⟨rfl, trivial⟩ ?_
  refine St.then_n ?_
  refine St.go hK1 ?_
  clear hK1
  refine St.ret ?_
  refine St.ret1 Tryz.results114 rfl ?_
  exact ⟨_, rfl, by rw [firstI3]; rfl, E⟩

end Go.Proofs.YtjgcmpondbocfaaGreatDoor

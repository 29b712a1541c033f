/- The references on pairs and on merging; merge.Prefer and merge.Pairs. Each walked once, under the reading of the arguments. -/
import Derived.Test.YtjgcmpondbocfaaGreatDoorProg
import Derived.Test.YtjgcmpondbocfaaGreatDoorMmergeW
import Derived.Test.YtjgcmpondbocfaaGreatDoorRef2W
import Derived.Test.YtjgcmpondbocfaaGreatDoorSolvePure
namespace Go.Proofs.YtjgcmpondbocfaaGreatDoor
open Go.RowKit 
theorem ent98 : Ent Tryz.prog 98 := Ent.of Tryz.func98 (by kernel_rfl) rfl
theorem ent99 : Ent Tryz.prog 99 := Ent.of Tryz.func99 (by kernel_rfl) rfl
theorem ent100 : Ent Tryz.prog 100 := Ent.of Tryz.func100 (by kernel_rfl) rfl
theorem ent101 : Ent Tryz.prog 101 := Ent.of Tryz.func101 (by kernel_rfl) rfl
theorem ent105 : Ent Tryz.prog 105 := Ent.of Tryz.func105 (by kernel_rfl) rfl
theorem ent107 : Ent Tryz.prog 107 := Ent.of Tryz.func107 (by kernel_rfl) rfl
theorem ent161 : Ent Tryz.prog 161 := Ent.of Tryz.func161 (by kernel_rfl) rfl
theorem ent162 : Ent Tryz.prog 162 := Ent.of Tryz.func162 (by kernel_rfl) rfl
theorem rUnion_ret {a b : List Triple} {v u : Value} (w0 : World) (hv : RTriples w0 v a) (hu : RTriples w0 u b) (na : a.length ≤ 100000) (nb : b.length ≤ 100000) : Ret Tryz.prog 99 [v, u] w0 fun r w' => ∃ s, Own encTriple 9 w0.heap.size 100 w' r s ∧ IsSorted (a ++ b) s ∧ Ext w0 w' := by
  obtain ⟨A0, C0, rfl, -, -⟩ := hv.form
  obtain ⟨A1, C1, rfl, -, -⟩ := hu.form
  have E : Ext w0 w0 := Ext.refl w0
  refine St.enter (N := 14) Tryz.func99 rfl Tryz.ntmps99 rfl ?_
  refine St.seq fun K0 hK0 => ?_
  refine St.region ?_
  refine St.r (R.assign rfl) rfl rfl ?_
  refine St.nil ?_
  refine St.weak [(0, _), (1, _)] ⟨rfl, rfl, trivial⟩ ?_
  refine St.then_n ?_
  refine St.go hK0 ?_
  clear hK0
  refine St.seq fun K1 hK1 => ?_
  refine St.region ?_
  refine St.r (R.assign rfl) rfl rfl ?_
  refine St.nil ?_
  refine St.weak [(0, _), (1, _), (5, _)] ⟨rfl, rfl, rfl, trivial⟩ ?_
  refine St.then_n ?_
  refine St.go hK1 ?_
  clear hK1
  refine St.seq fun K2 hK2 => ?_
  refine St.region ?_
  refine St.r (R.move rfl) rfl rfl ?_
  refine St.r (R.move rfl) rfl rfl ?_
  have o5 := Own.nil encTriple 9 w0.heap.size 100 w0
  refine St.append (enc := encTriple) (fun _ => rfl) one_triple Tryz.underlying22 info100 rfl rfl rfl rfl o5 (hv.ext (REnc.firm _) E) (by simp; omega) (by simp; omega) E.size rfl ?_
  intro v8 w8 a8 g8 at8
  replace E := Ext.then E g8 (by intro j hj hk; have := (o5.base hk).1; omega)
  clear o5; have o5 := a8; clear a8
  refine St.r (R.assign rfl) rfl rfl ?_
  refine St.nil ?_
  refine St.weak [(1, _), (5, _)] ⟨rfl, rfl, trivial⟩ ?_
  refine St.then_n ?_
  refine St.go hK2 ?_
  clear hK2
  refine St.seq fun K3 hK3 => ?_
  refine St.region ?_
  refine St.r (R.move rfl) rfl rfl ?_
  refine St.r (R.move rfl) rfl rfl ?_
  refine St.append (enc := encTriple) (fun _ => rfl) one_triple Tryz.underlying22 info100 rfl rfl rfl rfl o5 (hu.ext (REnc.firm _) E) (by simp; omega) (by simp; omega) E.size rfl ?_
  intro v11 w11 a11 g11 at11
  replace E := Ext.then E g11 (by intro j hj hk; have := (o5.base hk).1; omega)
  clear o5; have o5 := a11; clear a11
  refine St.r (R.assign rfl) rfl rfl ?_
  refine St.nil ?_
  refine St.weak [(5, _)] ⟨rfl, trivial⟩ ?_
  refine St.then_n ?_
  refine St.go hK3 ?_
  clear hK3
  refine St.seq fun K4 hK4 => ?_
  refine St.region ?_
  refine St.r (R.move rfl) rfl rfl ?_
  have zE13 := E.size
  refine St.call rfl rfl ent161 (rSorted_ret _ (o5.reads encTriple_len) (by simp; omega)) rfl ?_
  rintro r13 w13 ⟨s, o13, hs, e13⟩
  replace E := Ext.trans E e13
  replace o5 := o5.ext e13
  have z13 := E.size
  refine St.r (R.assign rfl) rfl rfl ?_
  refine St.nil ?_
  refine St.weak [(4, _)] ⟨rfl, trivial⟩ ?_
  refine St.then_n ?_
  refine St.go hK4 ?_
  clear hK4
  refine St.ret ?_
  refine St.ret1 Tryz.results99 rfl ?_
  exact ⟨_, rfl, s, o13.lower (by omega), by simpa using hs, E⟩

theorem rOf_ret {l : List Triple} {ck : Clash} {v : Value} (w0 : World) (hv : RTriples w0 v l) (hn : l.length ≤ 100000) : Ret Tryz.prog 100 [v, .agg (encClash ck).toArray] w0 fun r w' => Own encTriple 9 w0.heap.size 100 w' r (sideOf l ck) ∧ Ext w0 w' := by
  obtain ⟨A, c, rfl, hc1, hc2⟩ := hv.form
  have E : Ext w0 w0 := Ext.refl w0
  refine St.enter (N := 41) Tryz.func100 rfl Tryz.ntmps100 rfl ?_
  refine St.seq fun K0 hK0 => ?_
  refine St.region ?_
  refine St.box rfl rfl ?_
  intro w3 b3 hb3 hs3 e3 k3
  have qE3 := E.size
  replace E := Ext.trans E e3
  refine St.r (R.assign rfl) rfl rfl ?_
  refine St.nil ?_
  refine St.weak [(0, _), (3, _)] ⟨rfl, rfl, trivial⟩ ?_
  refine St.then_n ?_
  refine St.go hK0 ?_
  clear hK0
  refine St.seq fun K1 hK1 => ?_
  refine St.region ?_
  refine St.r (R.assign rfl) rfl rfl ?_
  refine St.nil ?_
  refine St.weak [(0, _), (3, _), (5, _)] ⟨rfl, rfl, rfl, trivial⟩ ?_
  refine St.then_n ?_
  refine St.go hK1 ?_
  clear hK1
  refine St.seq fun K2 hK2 => ?_
  refine St.seq fun K3 hK3 => ?_
  refine St.region ?_
  refine St.r (R.assign rfl) rfl rfl ?_
  refine St.nil ?_
  refine St.weak [(0, _), (3, _), (5, _), (6, _)] ⟨rfl, rfl, rfl, rfl, trivial⟩ ?_
  refine St.then_n ?_
  refine St.go hK3 ?_
  clear hK3
  refine St.block ?_
  refine St.loop (fun (x : Nat × Value) => match x with | (k, ov) => [(0, .slice A l.length c), (3, .pointer (some ⟨b3, 0, none⟩)), (5, ov), (6, .int .i64 (k : Int))])
      (fun (x : Nat × Value) w => match x with | (k, ov) => k ≤ l.length ∧ Ext w0 w ∧ Blk w b3 176 (encClash ck) ∧ Own encTriple 9 (w0.heap.size + 1) 100 w ov (sideOf (l.take k) ck))
      (fun (x : Nat × Value) => match x with | (k, ov) => l.length - k) (0, .slice none 0 0) ⟨rfl, rfl, rfl, rfl, trivial⟩ ?_ ?_
  · exact ⟨Nat.zero_le _, E, k3, Own.nil _ _ _ _ _⟩
  rintro ⟨k, ov⟩ w ⟨hk, E, k3, o5⟩
  show St _ _ [(0, .slice A l.length c), (3, .pointer (some ⟨b3, 0, none⟩)), (5, ov), (6, .int .i64 (k : Int))] _ _
  refine St.seq fun K4 hK4 => ?_
  refine St.seq fun K5 hK5 => ?_
  refine St.region ?_
  refine St.r (R.move rfl) rfl rfl ?_
  refine St.r (R.move rfl) rfl rfl ?_
  refine St.r (R.lenSl Tryz.underlying22 rfl) rfl rfl ?_
  refine St.r (R.lss rfl rfl) rfl rfl ?_
  refine St.nil ?_
  refine St.weak [(0, _), (3, _), (5, _), (6, _), (10, _)] ⟨rfl, rfl, rfl, rfl, rfl, trivial⟩ ?_
  refine St.then_n ?_
  refine St.go hK5 ?_
  clear hK5
  refine St.condD rfl (fun h10 => ?_) (fun h10 => ?_)
  ·
    obtain ⟨x, hx⟩ := get_of_lt (xs := l) (k := k) (by omega)
    obtain ⟨xb, xo, rfl, hxc⟩ := hv.get' hx
    have hkey : keyOf x = ck ↔ (termCmp x.s ck.s = 0 ∧ termCmp x.p ck.p = 0) := by rw [termCmp_is.eq, termCmp_is.eq]; cases ck; simp [keyOf]
    have hsl : (sideOf (l.take k) ck).length ≤ l.length := Nat.le_trans (List.length_filter_le _ _) (by rw [List.length_take]; omega)
    have zE := E.size
    refine St.skip ?_
    refine St.then_n ?_
    refine St.go hK4 ?_
    clear hK4
    refine St.seq fun K6 hK6 => ?_
    refine St.block ?_
    refine St.seq fun K7 hK7 => ?_
    by_cases h21 : termCmp x.s ck.s = 0
    ·
      refine St.weak [(0, _), (3, _), (5, _), (6, _)] ⟨rfl, rfl, rfl, rfl, trivial⟩ ?_
      refine St.drawX mixed rfl rfl rfl rfl ?_
      replace E := Ext.trans E (Ext.drew _)
      replace k3 := k3.ext (Ext.drew _)
      replace o5 := o5.ext (Ext.drew _)
      refine ⟨_, fun W eW => OpX.q (OpOk.r (R.move rfl) rfl), ?_⟩
      refine ⟨_, fun W eW => OpX.q (OpOk.r (R.move rfl) rfl), ?_⟩
      refine ⟨_, fun W eW => OpX.q (OpOk.r (R.indexS k Tryz.underlying22 Tryz.sizeOf100 rfl rfl rfl (by omega)) rfl), ?_⟩
      refine ⟨_, fun W eW => OpX.q (OpOk.r (R.fieldA Tryz.underlying100 rfl Tryz.sizeOf44 rfl rfl rfl) rfl), ?_⟩
      refine ⟨_, fun W eW => OpX.q (OpOk.r (R.loadA Tryz.isAgg44 Tryz.sizeOf44 rfl (((Ext.trans E eW).cells hxc).cut 0 3 rfl) rfl) rfl), ?_⟩
      refine ⟨_, fun W eW => OpX.q (OpOk.r (R.fieldA Tryz.underlying176 rfl Tryz.sizeOf44 rfl rfl rfl) rfl), ?_⟩
      refine ⟨_, fun W eW => OpX.q (OpOk.r (R.loadA Tryz.isAgg44 Tryz.sizeOf44 rfl (clash_s (k3.ext eW)) rfl) rfl), ?_⟩
      refine ⟨_, fun W eW => OpX.call rfl rfl ent110 (rCompare_ret _), ?_⟩
      refine ⟨_, fun W eW => OpX.q (OpOk.r (Runs.lit (c := true) (R.eql rfl rfl) (decide_eq_true h21)) rfl), ?_⟩
      refine ⟨_, fun W eW => OpX.q (OpOk.r (R.move rfl) rfl), ?_⟩
      refine ⟨_, fun W eW => OpX.q (OpOk.take (dg := 22) (R.move rfl) rfl rfl rfl rfl), ?_⟩
      refine ⟨_, fun W eW => OpX.q (OpOk.take (dg := 22) (R.move rfl) rfl rfl rfl rfl), ?_⟩
      refine ⟨_, fun W eW => OpX.q (OpOk.take (dg := 22) (R.indexS k Tryz.underlying22 Tryz.sizeOf100 rfl rfl rfl (by omega)) rfl rfl rfl rfl), ?_⟩
      refine ⟨_, fun W eW => OpX.q (OpOk.take (dg := 22) (R.fieldA Tryz.underlying100 rfl Tryz.sizeOf44 rfl rfl rfl) rfl rfl rfl rfl), ?_⟩
      refine ⟨_, fun W eW => OpX.q (OpOk.take (dg := 22) (R.loadA Tryz.isAgg44 Tryz.sizeOf44 rfl (((Ext.trans E eW).cells hxc).cut 3 3 rfl) rfl) rfl rfl rfl rfl), ?_⟩
      refine ⟨_, fun W eW => OpX.q (OpOk.take (dg := 22) (R.fieldA Tryz.underlying176 rfl Tryz.sizeOf44 rfl rfl rfl) rfl rfl rfl rfl), ?_⟩
      refine ⟨_, fun W eW => OpX.q (OpOk.take (dg := 22) (R.loadA Tryz.isAgg44 Tryz.sizeOf44 rfl (clash_p (k3.ext eW)) rfl) rfl rfl rfl rfl), ?_⟩
      refine ⟨_, fun W eW => OpX.callG (dg := 22) rfl rfl ent110 (rCompare_ret _) rfl rfl rfl, ?_⟩
      refine ⟨_, fun W eW => OpX.q (OpOk.take (dg := 22) (R.eql rfl rfl) rfl rfl rfl rfl), ?_⟩
      refine ⟨_, fun W eW => OpX.q (OpOk.r (R.pickT rfl rfl) rfl), ?_⟩
      show ∀ w', Ext _ w' → St _ _ _ _ w'
      intro wd5 ed5
      replace E := Ext.trans E ed5
      replace k3 := k3.ext ed5
      replace o5 := o5.ext ed5
      refine St.weak [(0, _), (3, _), (5, _), (6, _), (32, _)] ⟨rfl, rfl, rfl, rfl, rfl, trivial⟩ ?_
      refine St.then_n ?_
      refine St.go hK7 ?_
      clear hK7
      refine St.condD rfl (fun h32 => ?_) (fun h32 => ?_)
      ·
        refine St.region ?_
        refine St.r (R.move rfl) rfl rfl ?_
        refine St.r (R.move rfl) rfl rfl ?_
        refine St.r (R.move rfl) rfl rfl ?_
        refine St.r (R.indexS k Tryz.underlying22 Tryz.sizeOf100 rfl rfl rfl (by omega)) rfl rfl ?_
        refine St.r (R.loadA Tryz.isAgg100 Tryz.sizeOf100 rfl (E.cells hxc) rfl) rfl rfl ?_
        refine St.buildSl Tryz.underlying22 Tryz.sizeOf100 Tryz.zeroValue100 rfl rfl rfl rfl (by intro u hu; simp only [List.mem_cons, List.not_mem_nil, or_false] at hu; first | (subst hu; rfl) | (rcases hu with rfl | rfl <;> rfl) | (rcases hu with rfl | rfl | rfl <;> rfl) | (rcases hu with rfl | rfl | rfl | rfl <;> rfl)) rfl ?_
        intro w38 b38 hb38 hs38 e38 k38
        have qE38 := E.size
        replace E := Ext.trans E e38
        replace k3 := k3.ext e38
        replace o5 := o5.ext e38
        refine St.append (enc := encTriple) (fun _ => rfl) one_triple Tryz.underlying22 info100 rfl rfl rfl rfl o5 (RSl.mk (enc := encTriple) (xs := [x]) encTriple_len k38.cells (fun i u hu => hu) (by simp) (by simp)) (by simp; omega) (by simp; omega) (by have := E.size; have := k3.lt; omega) rfl ?_
        intro v39 w39 a39 g39 at39
        replace E := Ext.then E g39 (by intro j hj hk; have := (o5.base hk).1; omega)
        replace k3 := k3.chg g39 (by intro hk; have := (o5.base hk).1; omega)
        clear o5; have o5 := a39; clear a39
        refine St.r (R.assign rfl) rfl rfl ?_
        refine St.nil ?_
        refine St.weak [(0, _), (3, _), (5, _), (6, _)] ⟨rfl, rfl, rfl, rfl, trivial⟩ ?_
        refine St.in_n ?_
        refine St.then_n ?_
        refine St.go hK6 ?_
        clear hK6
        refine St.region ?_
        refine St.r (R.move rfl) rfl rfl ?_
        refine St.r (R.add rfl rfl (by omega) (by omega)) rfl rfl ?_
        refine St.r (R.assign rfl) rfl rfl ?_
        refine St.nil ?_
        refine St.weak [(0, _), (3, _), (5, _), (6, _)] ⟨rfl, rfl, rfl, rfl, trivial⟩ ?_
        refine St.then_n ?_
        refine St.round (k + 1, v39) ⟨rfl, rfl, rfl, rfl, trivial⟩ ?_ ?_
        · try dsimp only
          exact ⟨by omega, E, k3, by rw [take_snoc hx, sideOf_snoc, if_pos (hkey.2 ⟨h21, h32⟩)]; exact o5⟩
        · try dsimp only
          omega
      ·
        refine St.skip ?_
        refine St.in_n ?_
        refine St.then_n ?_
        refine St.go hK6 ?_
        clear hK6
        refine St.region ?_
        refine St.r (R.move rfl) rfl rfl ?_
        refine St.r (R.add rfl rfl (by omega) (by omega)) rfl rfl ?_
        refine St.r (R.assign rfl) rfl rfl ?_
        refine St.nil ?_
        refine St.weak [(0, _), (3, _), (5, _), (6, _)] ⟨rfl, rfl, rfl, rfl, trivial⟩ ?_
        refine St.then_n ?_
        refine St.round (k + 1, ov) ⟨rfl, rfl, rfl, rfl, trivial⟩ ?_ ?_
        · try dsimp only
          exact ⟨by omega, E, k3, by rw [take_snoc hx, sideOf_snoc, if_neg (fun e => h32 (hkey.1 e).2), List.append_nil]; exact o5⟩
        · try dsimp only
          omega
    ·
      refine St.weak [(0, _), (3, _), (5, _), (6, _)] ⟨rfl, rfl, rfl, rfl, trivial⟩ ?_
      refine St.drawX mixed rfl rfl rfl rfl ?_
      replace E := Ext.trans E (Ext.drew _)
      replace k3 := k3.ext (Ext.drew _)
      replace o5 := o5.ext (Ext.drew _)
      refine ⟨_, fun W eW => OpX.q (OpOk.r (R.move rfl) rfl), ?_⟩
      refine ⟨_, fun W eW => OpX.q (OpOk.r (R.move rfl) rfl), ?_⟩
      refine ⟨_, fun W eW => OpX.q (OpOk.r (R.indexS k Tryz.underlying22 Tryz.sizeOf100 rfl rfl rfl (by omega)) rfl), ?_⟩
      refine ⟨_, fun W eW => OpX.q (OpOk.r (R.fieldA Tryz.underlying100 rfl Tryz.sizeOf44 rfl rfl rfl) rfl), ?_⟩
      refine ⟨_, fun W eW => OpX.q (OpOk.r (R.loadA Tryz.isAgg44 Tryz.sizeOf44 rfl (((Ext.trans E eW).cells hxc).cut 0 3 rfl) rfl) rfl), ?_⟩
      refine ⟨_, fun W eW => OpX.q (OpOk.r (R.fieldA Tryz.underlying176 rfl Tryz.sizeOf44 rfl rfl rfl) rfl), ?_⟩
      refine ⟨_, fun W eW => OpX.q (OpOk.r (R.loadA Tryz.isAgg44 Tryz.sizeOf44 rfl (clash_s (k3.ext eW)) rfl) rfl), ?_⟩
      refine ⟨_, fun W eW => OpX.call rfl rfl ent110 (rCompare_ret _), ?_⟩
      refine ⟨_, fun W eW => OpX.q (OpOk.r (Runs.lit (c := false) (R.eql rfl rfl) (decide_eq_false h21)) rfl), ?_⟩
      refine ⟨_, fun W eW => OpX.q (OpOk.r (R.move rfl) rfl), ?_⟩
      refine ⟨_, fun W eW => OpX.q (OpOk.pass (dg := 22) rfl rfl rfl rfl rfl), ?_⟩
      refine ⟨_, fun W eW => OpX.q (OpOk.pass (dg := 22) rfl rfl rfl rfl rfl), ?_⟩
      refine ⟨_, fun W eW => OpX.q (OpOk.pass (dg := 22) rfl rfl rfl rfl rfl), ?_⟩
      refine ⟨_, fun W eW => OpX.q (OpOk.pass (dg := 22) rfl rfl rfl rfl rfl), ?_⟩
      refine ⟨_, fun W eW => OpX.q (OpOk.pass (dg := 22) rfl rfl rfl rfl rfl), ?_⟩
      refine ⟨_, fun W eW => OpX.q (OpOk.pass (dg := 22) rfl rfl rfl rfl rfl), ?_⟩
      refine ⟨_, fun W eW => OpX.q (OpOk.pass (dg := 22) rfl rfl rfl rfl rfl), ?_⟩
      refine ⟨_, fun W eW => OpX.q (OpOk.pass (dg := 22) rfl rfl rfl rfl rfl), ?_⟩
      refine ⟨_, fun W eW => OpX.q (OpOk.pass (dg := 22) rfl rfl rfl rfl rfl), ?_⟩
      refine ⟨_, fun W eW => OpX.q (OpOk.r (R.pickF rfl rfl) rfl), ?_⟩
      show ∀ w', Ext _ w' → St _ _ _ _ w'
      intro wd5 ed5
      replace E := Ext.trans E ed5
      replace k3 := k3.ext ed5
      replace o5 := o5.ext ed5
      refine St.weak [(0, _), (3, _), (5, _), (6, _), (32, _)] ⟨rfl, rfl, rfl, rfl, rfl, trivial⟩ ?_
      refine St.then_n ?_
      refine St.go hK7 ?_
      clear hK7
      refine St.condF rfl ?_
      refine St.skip ?_
      refine St.in_n ?_
      refine St.then_n ?_
      refine St.go hK6 ?_
      clear hK6
      refine St.region ?_
      refine St.r (R.move rfl) rfl rfl ?_
      refine St.r (R.add rfl rfl (by omega) (by omega)) rfl rfl ?_
      refine St.r (R.assign rfl) rfl rfl ?_
      refine St.nil ?_
      refine St.weak [(0, _), (3, _), (5, _), (6, _)] ⟨rfl, rfl, rfl, rfl, trivial⟩ ?_
      refine St.then_n ?_
      refine St.round (k + 1, ov) ⟨rfl, rfl, rfl, rfl, trivial⟩ ?_ ?_
      · try dsimp only
        exact ⟨by omega, E, k3, by rw [take_snoc hx, sideOf_snoc, if_neg (fun e => h21 (hkey.1 e).1), List.append_nil]; exact o5⟩
      · try dsimp only
        omega
  ·
    refine St.exit ?_
    refine St.then_x ?_
    refine St.then_x ?_
    refine St.in_x ?_
    refine St.then_n ?_
    refine St.go hK2 ?_
    clear hK2
    refine St.seq fun K8 hK8 => ?_
    refine St.region ?_
    refine St.r (R.move rfl) rfl rfl ?_
    refine St.r (R.assign rfl) rfl rfl ?_
    refine St.nil ?_
    refine St.weak [(4, _)] ⟨rfl, trivial⟩ ?_
    refine St.then_n ?_
    refine St.go hK8 ?_
    clear hK8
    refine St.ret ?_
    refine St.ret1 Tryz.results100 rfl ?_
    rw [List.take_of_length_le (by omega)] at o5
    exact ⟨_, rfl, o5.lower (by omega), E⟩

theorem rSame_ret {xs ys : List Triple} {v u : Value} (w0 : World) (hv : RTriples w0 v xs) (hu : RTriples w0 u ys) : Ret Tryz.prog 101 [v, u] w0 fun r w' => r = .bool (decide (xs = ys)) ∧ Ext w0 w' := by
  obtain ⟨A, c, rfl, hc1, hc2⟩ := hv.form
  obtain ⟨A2, c2, rfl, hd1, hd2⟩ := hu.form
  have E : Ext w0 w0 := Ext.refl w0
  refine St.enter (N := 27) Tryz.func101 rfl Tryz.ntmps101 rfl ?_
  refine St.seq fun K0 hK0 => ?_
  refine St.region ?_
  refine St.r (R.assign rfl) rfl rfl ?_
  refine St.nil ?_
  refine St.weak [(0, _), (1, _)] ⟨rfl, rfl, trivial⟩ ?_
  refine St.then_n ?_
  refine St.go hK0 ?_
  clear hK0
  refine St.seq fun K1 hK1 => ?_
  refine St.seq fun K2 hK2 => ?_
  refine St.region ?_
  refine St.r (R.move rfl) rfl rfl ?_
  refine St.r (R.lenSl Tryz.underlying22 rfl) rfl rfl ?_
  refine St.r (R.move rfl) rfl rfl ?_
  refine St.r (R.lenSl Tryz.underlying22 rfl) rfl rfl ?_
  refine St.r (R.neq rfl rfl) rfl rfl ?_
  refine St.nil ?_
  refine St.weak [(0, _), (1, _), (10, _)] ⟨rfl, rfl, rfl, trivial⟩ ?_
  refine St.then_n ?_
  refine St.go hK2 ?_
  clear hK2
  refine St.condD rfl (fun h10 => ?_) (fun h10 => ?_)
  ·
    refine St.seq fun K3 hK3 => ?_
    refine St.region ?_
    refine St.r (R.assign rfl) rfl rfl ?_
    refine St.nil ?_
    refine St.weak [(4, _)] ⟨rfl, trivial⟩ ?_
    refine St.then_n ?_
    refine St.go hK3 ?_
    clear hK3
    refine St.ret ?_
    refine St.then_r ?_
    refine St.ret1 Tryz.results101 rfl ?_
    exact ⟨_, rfl, by rw [decide_eq_false (fun e => h10 (by rw [e]))], E⟩
  ·
    refine St.skip ?_
    refine St.then_n ?_
    refine St.go hK1 ?_
    clear hK1
    refine St.seq fun K4 hK4 => ?_
    refine St.seq fun K5 hK5 => ?_
    refine St.region ?_
    refine St.r (R.assign rfl) rfl rfl ?_
    refine St.nil ?_
    refine St.weak [(0, _), (1, _), (5, _)] ⟨rfl, rfl, rfl, trivial⟩ ?_
    refine St.then_n ?_
    refine St.go hK5 ?_
    clear hK5
    refine St.block ?_
    refine St.loop (fun (k : Nat) => [(0, .slice A xs.length c), (1, .slice A2 ys.length c2), (5, .int .i64 (k : Int))])
        (fun (k : Nat) w => k ≤ xs.length ∧ Ext w0 w ∧ xs.take k = ys.take k)
        (fun (k : Nat) => xs.length - k) 0 ⟨rfl, rfl, rfl, trivial⟩ ?_ ?_
    · exact ⟨Nat.zero_le _, E, by simp⟩
    rintro k w ⟨hk, E, hall⟩
    show St _ _ [(0, .slice A xs.length c), (1, .slice A2 ys.length c2), (5, .int .i64 (k : Int))] _ _
    refine St.seq fun K6 hK6 => ?_
    refine St.seq fun K7 hK7 => ?_
    refine St.region ?_
    refine St.r (R.move rfl) rfl rfl ?_
    refine St.r (R.move rfl) rfl rfl ?_
    refine St.r (R.lenSl Tryz.underlying22 rfl) rfl rfl ?_
    refine St.r (R.lss rfl rfl) rfl rfl ?_
    refine St.nil ?_
    refine St.weak [(0, _), (1, _), (5, _), (14, _)] ⟨rfl, rfl, rfl, rfl, trivial⟩ ?_
    refine St.then_n ?_
    refine St.go hK7 ?_
    clear hK7
    refine St.condD rfl (fun h14 => ?_) (fun h14 => ?_)
    ·
      obtain ⟨x, hx⟩ := get_of_lt (xs := xs) (k := k) (by omega)
      obtain ⟨y, hy⟩ := get_of_lt (xs := ys) (k := k) (by omega)
      obtain ⟨b, o, rfl, hxc⟩ := hv.get' hx
      obtain ⟨b2, o2, rfl, hyc⟩ := hu.get' hy
      refine St.skip ?_
      refine St.then_n ?_
      refine St.go hK6 ?_
      clear hK6
      refine St.seq fun K8 hK8 => ?_
      refine St.block ?_
      refine St.seq fun K9 hK9 => ?_
      refine St.weak [(0, _), (1, _), (5, _)] ⟨rfl, rfl, rfl, trivial⟩ ?_
      refine St.drawX mixed rfl rfl rfl rfl ?_
      replace E := Ext.trans E (Ext.drew _)
      refine ⟨_, fun W eW => OpX.q (OpOk.r (R.move rfl) rfl), ?_⟩
      refine ⟨_, fun W eW => OpX.q (OpOk.r (R.move rfl) rfl), ?_⟩
      refine ⟨_, fun W eW => OpX.q (OpOk.r (R.indexS k Tryz.underlying22 Tryz.sizeOf100 rfl rfl rfl (by omega)) rfl), ?_⟩
      refine ⟨_, fun W eW => OpX.q (OpOk.r (R.loadA Tryz.isAgg100 Tryz.sizeOf100 rfl ((Ext.trans E eW).cells hxc) rfl) rfl), ?_⟩
      refine ⟨_, fun W eW => OpX.q (OpOk.r (R.move rfl) rfl), ?_⟩
      refine ⟨_, fun W eW => OpX.q (OpOk.r (R.move rfl) rfl), ?_⟩
      refine ⟨_, fun W eW => OpX.q (OpOk.r (R.indexS k Tryz.underlying22 Tryz.sizeOf100 rfl rfl rfl (by omega)) rfl), ?_⟩
      refine ⟨_, fun W eW => OpX.q (OpOk.r (R.loadA Tryz.isAgg100 Tryz.sizeOf100 rfl ((Ext.trans E eW).cells hyc) rfl) rfl), ?_⟩
      refine ⟨_, fun W eW => OpX.call rfl rfl ent49 (rOrder_ret (a := x) (b := y) _), ?_⟩
      refine ⟨_, fun W eW => OpX.q (OpOk.r (R.neq rfl rfl) rfl), ?_⟩
      show ∀ w', Ext _ w' → St _ _ _ _ w'
      intro wd6 ed6
      replace E := Ext.trans E ed6
      refine St.weak [(0, _), (1, _), (5, _), (26, _)] ⟨rfl, rfl, rfl, rfl, trivial⟩ ?_
      refine St.then_n ?_
      refine St.go hK9 ?_
      clear hK9
      refine St.condD rfl (fun h26 => ?_) (fun h26 => ?_)
      ·
        refine St.seq fun K10 hK10 => ?_
        refine St.region ?_
        refine St.r (R.assign rfl) rfl rfl ?_
        refine St.nil ?_
        refine St.weak [(4, _)] ⟨rfl, trivial⟩ ?_
        refine St.then_n ?_
        refine St.go hK10 ?_
        clear hK10
        refine St.ret ?_
        refine St.in_r ?_
        refine St.then_r ?_
        refine St.then_r ?_
        refine St.in_r ?_
        refine St.then_r ?_
        refine St.ret1 Tryz.results101 rfl ?_
        exact ⟨_, rfl, by rw [decide_eq_false (fun e => h26 ((tripCmp_is.eq _ _).2 (by subst e; rw [hx] at hy; injection hy)))], E⟩
      ·
        refine St.skip ?_
        refine St.in_n ?_
        refine St.then_n ?_
        refine St.go hK8 ?_
        clear hK8
        refine St.region ?_
        refine St.r (R.move rfl) rfl rfl ?_
        refine St.r (R.add rfl rfl (by omega) (by omega)) rfl rfl ?_
        refine St.r (R.assign rfl) rfl rfl ?_
        refine St.nil ?_
        refine St.weak [(0, _), (1, _), (5, _)] ⟨rfl, rfl, rfl, trivial⟩ ?_
        refine St.then_n ?_
        refine St.round (k + 1) ⟨rfl, rfl, rfl, trivial⟩ ?_ ?_
        · refine ⟨by omega, E, ?_⟩
          rw [take_snoc hx, take_snoc hy, hall]
          congr 2
          exact (tripCmp_is.eq _ _).1 (Decidable.not_not.1 h26)
        · omega
    ·
      refine St.exit ?_
      refine St.then_x ?_
      refine St.then_x ?_
      refine St.in_x ?_
      refine St.then_n ?_
      refine St.go hK4 ?_
      clear hK4
      refine St.seq fun K11 hK11 => ?_
      refine St.region ?_
      refine St.r (R.assign rfl) rfl rfl ?_
      refine St.nil ?_
      refine St.weak [(4, _)] ⟨rfl, trivial⟩ ?_
      refine St.then_n ?_
      refine St.go hK11 ?_
      clear hK11
      refine St.ret ?_
      refine St.ret1 Tryz.results101 rfl ?_
      rw [List.take_of_length_le (by omega), List.take_of_length_le (by omega)] at hall
      exact ⟨_, rfl, by rw [decide_eq_true hall], E⟩

set_option maxHeartbeats 4000000 in
set_option maxRecDepth 100000 in
theorem rPairs_ret {l : List Triple} {v : Value} (w0 : World) (hv : RTriples w0 v l) (hn : l.length ≤ 100000) : Ret Tryz.prog 98 [v] w0 fun r w' => ∃ ks, Own encClash 6 w0.heap.size 176 w' r ks ∧ Rises clashCmp ks ∧ (∀ k, k ∈ ks ↔ ∃ t ∈ l, keyOf t = k) ∧ ks.length ≤ l.length ∧ Ext w0 w' := by
  have E : Ext w0 w0 := Ext.refl w0
  refine St.enter (N := 63) Tryz.func98 rfl Tryz.ntmps98 rfl ?_
  refine St.seq fun K0 hK0 => ?_
  refine St.region ?_
  refine St.r (R.assign rfl) rfl rfl ?_
  refine St.nil ?_
  refine St.weak [(0, _)] ⟨rfl, trivial⟩ ?_
  refine St.then_n ?_
  refine St.go hK0 ?_
  clear hK0
  refine St.seq fun K1 hK1 => ?_
  refine St.region ?_
  refine St.r (R.assign rfl) rfl rfl ?_
  refine St.nil ?_
  refine St.weak [(0, _), (3, _)] ⟨rfl, rfl, trivial⟩ ?_
  refine St.then_n ?_
  refine St.go hK1 ?_
  clear hK1
  refine St.seq fun K2 hK2 => ?_
  refine St.region ?_
  refine St.r (R.move rfl) rfl rfl ?_
  refine St.call rfl rfl ent161 (rSorted_ret _ hv (by omega)) rfl ?_
  rintro r8 w8 ⟨s, o8, hs, e8⟩
  replace E := Ext.trans E e8
  obtain ⟨SA, SC, rfl, -, -⟩ := o8.form
  have hfew := hs.few
  have hB8 := fun k hk => (o8.base (k := k) hk).2
  obtain ⟨Z, hZ⟩ : ∃ Z, Z = w8.heap.size := ⟨_, rfl⟩
  rw [← hZ] at hB8
  have zz : Z ≤ w8.heap.size := by omega
  have zE8 := E.size
  refine St.r (R.assign rfl) rfl rfl ?_
  refine St.nil ?_
  refine St.weak [(3, _), (4, _)] ⟨rfl, rfl, trivial⟩ ?_
  refine St.then_n ?_
  refine St.go hK2 ?_
  clear hK2
  refine St.seq fun K3 hK3 => ?_
  refine St.seq fun K4 hK4 => ?_
  refine St.region ?_
  refine St.r (R.assign rfl) rfl rfl ?_
  refine St.nil ?_
  refine St.weak [(3, _), (4, _), (5, _)] ⟨rfl, rfl, rfl, trivial⟩ ?_
  refine St.then_n ?_
  refine St.go hK4 ?_
  clear hK4
  refine St.block ?_
  refine St.loop (fun (x : Nat × List Clash × Value) => match x with | (i, out, ov) => [(3, ov), (4, .slice SA s.length SC), (5, .int .i64 (i : Int))])
      (fun (x : Nat × List Clash × Value) w => match x with | (i, out, ov) => i ≤ s.length ∧ Ext w0 w ∧ Own encTriple 9 w0.heap.size 100 w (.slice SA s.length SC) s ∧ Own encClash 6 Z 176 w ov out ∧ PairsTo s i out ∧ out.length ≤ i ∧ Z ≤ w.heap.size)
      (fun (x : Nat × List Clash × Value) => match x with | (i, out, ov) => s.length - i) (0, [], .slice none 0 0) ⟨rfl, rfl, rfl, trivial⟩ ?_ ?_
  · exact ⟨Nat.zero_le _, E, o8, Own.nil _ _ _ _ _, PairsTo.start _, Nat.le_refl _, zz⟩
  rintro ⟨i, out, ov⟩ w ⟨hi, E, o8, o3, hp, hol, zz⟩
  show St _ _ [(3, ov), (4, .slice SA s.length SC), (5, .int .i64 (i : Int))] _ _
  obtain ⟨OA, OC, rfl, -, -⟩ := o3.form
  refine St.seq fun K5 hK5 => ?_
  refine St.seq fun K6 hK6 => ?_
  refine St.region ?_
  refine St.r (R.move rfl) rfl rfl ?_
  refine St.r (R.move rfl) rfl rfl ?_
  refine St.r (R.lenSl Tryz.underlying22 rfl) rfl rfl ?_
  refine St.r (R.lss rfl rfl) rfl rfl ?_
  refine St.nil ?_
  refine St.weak [(3, _), (4, _), (5, _), (12, _)] ⟨rfl, rfl, rfl, rfl, trivial⟩ ?_
  refine St.then_n ?_
  refine St.go hK6 ?_
  clear hK6
  refine St.condD rfl (fun h12 => ?_) (fun h12 => ?_)
  ·
    obtain ⟨tx, hx⟩ := get_of_lt (xs := s) (k := i) (by omega)
    obtain ⟨xb, xo, rfl, hxc⟩ := (o8.reads encTriple_len).get' hx
    refine St.skip ?_
    refine St.then_n ?_
    refine St.go hK5 ?_
    clear hK5
    refine St.seq fun K7 hK7 => ?_
    refine St.block ?_
    refine St.seq fun K8 hK8 => ?_
    refine St.region ?_
    refine St.r (R.move rfl) rfl rfl ?_
    refine St.r (R.lenSl Tryz.underlying73 rfl) rfl rfl ?_
    refine St.r (R.sub rfl rfl (by omega) (by omega)) rfl rfl ?_
    refine St.r (R.assign rfl) rfl rfl ?_
    refine St.nil ?_
    refine St.weak [(3, _), (4, _), (5, _), (6, _)] ⟨rfl, rfl, rfl, rfl, trivial⟩ ?_
    refine St.then_n ?_
    refine St.go hK8 ?_
    clear hK8
    refine St.seqJ (fun (x : Unit) => match x with | () => [(3, .slice OA out.length OC), (4, .slice (some ⟨xb, xo, none⟩) s.length SC), (5, .int .i64 (i : Int))])
        (fun (x : Unit) w => match x with | () => Ext w0 w ∧ Own encTriple 9 w0.heap.size 100 w (.slice (some ⟨xb, xo, none⟩) s.length SC) s ∧ Own encClash 6 Z 176 w (.slice OA out.length OC) out ∧ (∀ c, out[out.length - 1]? = some c → c ≠ keyOf tx) ∧ Z ≤ w.heap.size) ?_ ?_
    · rintro _ w ⟨E, o8, o3, hne, zz⟩
      show St _ _ [(3, .slice OA out.length OC), (4, .slice (some ⟨xb, xo, none⟩) s.length SC), (5, .int .i64 (i : Int))] _ _
      refine St.weak [(3, _), (4, _), (5, _)] ⟨rfl, rfl, rfl, trivial⟩ ?_
      refine St.drawTL (S := fun k => (Value.slice OA out.length OC).ownBlock = some k) (eff := [12, 13]) mixed rfl rfl rfl rfl rfl rfl ?_
      replace E := Ext.trans E (Ext.drew _)
      replace o8 := o8.ext (Ext.drew _)
      replace o3 := o3.ext (Ext.drew _)
      replace zz := Nat.le_trans zz (Chg.size (Ext.drew _))
      refine DrawT.quiet 0 rfl rfl (fun W eW => OpOk.r (R.move rfl) rfl) ?_
      refine DrawT.quiet 1 rfl rfl (fun W eW => OpOk.r (R.move rfl) rfl) ?_
      refine DrawT.quiet 2 rfl rfl (fun W eW => OpOk.r (R.move rfl) rfl) ?_
      refine DrawT.quiet 3 rfl rfl (fun W eW => OpOk.r (R.indexS i Tryz.underlying22 Tryz.sizeOf100 rfl rfl rfl (by omega)) rfl) ?_
      refine DrawT.quiet 4 rfl rfl (fun W eW => OpOk.r (R.fieldA Tryz.underlying100 rfl Tryz.sizeOf44 rfl rfl rfl) rfl) ?_
      have hp53 := (((o8.reads encTriple_len).get hx).cut 0 3 rfl)
      refine DrawT.pinA 5 rfl rfl Tryz.isAgg44 Tryz.sizeOf44 rfl hp53 rfl ?_
      refine DrawT.quiet 6 rfl rfl (fun W eW => OpOk.r (R.move rfl) rfl) ?_
      refine DrawT.quiet 7 rfl rfl (fun W eW => OpOk.r (R.move rfl) rfl) ?_
      refine DrawT.quiet 8 rfl rfl (fun W eW => OpOk.r (R.indexS i Tryz.underlying22 Tryz.sizeOf100 rfl rfl rfl (by omega)) rfl) ?_
      refine DrawT.quiet 9 rfl rfl (fun W eW => OpOk.r (R.fieldA Tryz.underlying100 rfl Tryz.sizeOf44 rfl rfl rfl) rfl) ?_
      have hp58 := (((o8.reads encTriple_len).get hx).cut 3 3 rfl)
      refine DrawT.pinA 10 rfl rfl Tryz.isAgg44 Tryz.sizeOf44 rfl hp58 rfl ?_
      refine DrawT.quiet 11 rfl rfl (fun W eW => OpOk.r (R.build Tryz.underlying176 (places176 _ Tryz.underlying176) Tryz.zeroValue176 rfl rfl rfl) rfl) ?_
      refine DrawT.one (n := 12) [] rfl rfl rfl (by kernel_rfl) (OpC.plain (Eff.buildSl Tryz.underlying73 Tryz.sizeOf176 Tryz.zeroValue176 rfl rfl rfl rfl (by intro u hu; simp only [List.mem_cons, List.not_mem_nil, or_false] at hu; first | (subst hu; rfl) | (rcases hu with rfl | rfl <;> rfl) | (rcases hu with rfl | rfl | rfl <;> rfl))) rfl) ?_ ?_
      · rintro _ _ ⟨_, _, _, _, e, _⟩
        refine ⟨?_, trivial⟩
        exact Chg.mono e (fun _ _ h => h.elim)
      rintro _ w60 ⟨b60, rfl, hb60, hs60, e60, k60⟩
      have qE60 := E.size
      replace E := Ext.trans E e60
      replace o8 := o8.ext e60
      replace o3 := o3.ext e60
      replace zz := Nat.le_trans zz (Chg.size e60)
      refine DrawT.one (n := 13) [] rfl rfl rfl (by kernel_rfl) (OpC.plain (Eff.append (enc := encClash) (fun _ => rfl) one_clash Tryz.underlying73 info176 rfl rfl rfl rfl o3 (RSl.mk (enc := encClash) (xs := [keyOf tx]) encClash_len k60.cells (fun i u hu => hu) (by simp) (by simp)) (by simp; omega) (by simp; omega) (by omega)) rfl) ?_ ?_
      · rintro _ _ ⟨_, g, _⟩
        refine ⟨?_, trivial⟩
        exact Chg.mono g (fun k _ h => h)
      rintro v61 w61 ⟨a61, g61, at61⟩
      replace E := Ext.then E g61 (by intro j hj hk; have := (o3.base hk).1; omega)
      replace o8 := o8.chg g61 (fun k hk e => by have := hB8 k hk; have := (o3.base e).1; omega)
      replace zz := Nat.le_trans zz (Chg.size g61)
      clear o3; have o3 := a61; clear a61
      refine DrawT.fin rfl ?_
      show St _ _ _ _ _
      refine St.last rfl rfl ?_
      refine St.weak [(3, _), (4, _), (5, _)] ⟨rfl, rfl, rfl, trivial⟩ ?_
      refine St.in_n ?_
      refine St.then_n ?_
      refine St.go hK7 ?_
      clear hK7
      refine St.region ?_
      refine St.r (R.move rfl) rfl rfl ?_
      refine St.r (R.add rfl rfl (by omega) (by omega)) rfl rfl ?_
      refine St.r (R.assign rfl) rfl rfl ?_
      refine St.nil ?_
      refine St.weak [(3, _), (4, _), (5, _)] ⟨rfl, rfl, rfl, trivial⟩ ?_
      refine St.then_n ?_
      refine St.round (i + 1, out ++ [keyOf tx], v61) ⟨rfl, rfl, rfl, trivial⟩ ?_ ?_
      · try dsimp only
        exact ⟨by omega, E, o8, o3, hp.more hs.rises hx hne, by simp; omega, zz⟩
      · try dsimp only
        omega
    intro K9 hK9
    refine St.seq fun K10 hK10 => ?_
    by_cases h19 : (0 : Int) ≤ (out.length : Int) - 1
    ·
      obtain ⟨c0, hc0⟩ := get_of_lt (xs := out) (k := out.length - 1) (by omega)
      obtain ⟨cb, co, rfl, hcc⟩ := (o3.reads encClash_len).get' hc0
      by_cases h32 : termCmp c0.s tx.s = 0
      ·
        refine St.weak [(3, _), (4, _), (5, _), (6, _)] ⟨rfl, rfl, rfl, rfl, trivial⟩ ?_
        refine St.drawX mixed rfl rfl rfl rfl ?_
        replace E := Ext.trans E (Ext.drew _)
        replace o8 := o8.ext (Ext.drew _)
        replace o3 := o3.ext (Ext.drew _)
        replace zz := Nat.le_trans zz (Chg.size (Ext.drew _))
        refine ⟨_, fun W eW => OpX.q (OpOk.r (R.move rfl) rfl), ?_⟩
        refine ⟨_, fun W eW => OpX.q (OpOk.r (Runs.lit (c := true) (R.geq rfl rfl) (decide_eq_true h19)) rfl), ?_⟩
        refine ⟨_, fun W eW => OpX.q (OpOk.r (R.move rfl) rfl), ?_⟩
        refine ⟨_, fun W eW => OpX.q (OpOk.take (dg := 20) (R.move rfl) rfl rfl rfl rfl), ?_⟩
        refine ⟨_, fun W eW => OpX.q (OpOk.take (dg := 20) (R.move rfl) rfl rfl rfl rfl), ?_⟩
        refine ⟨_, fun W eW => OpX.q (OpOk.take (dg := 20) (R.indexS (out.length - 1) Tryz.underlying73 Tryz.sizeOf176 rfl rfl (by omega) (by omega)) rfl rfl rfl rfl), ?_⟩
        refine ⟨_, fun W eW => OpX.q (OpOk.take (dg := 20) (R.fieldA Tryz.underlying176 rfl Tryz.sizeOf44 rfl rfl rfl) rfl rfl rfl rfl), ?_⟩
        refine ⟨_, fun W eW => OpX.q (OpOk.take (dg := 20) (R.loadA Tryz.isAgg44 Tryz.sizeOf44 rfl ((((o3.ext eW).reads encClash_len).get hc0).cut 0 3 rfl) rfl) rfl rfl rfl rfl), ?_⟩
        refine ⟨_, fun W eW => OpX.q (OpOk.take (dg := 20) (R.move rfl) rfl rfl rfl rfl), ?_⟩
        refine ⟨_, fun W eW => OpX.q (OpOk.take (dg := 20) (R.move rfl) rfl rfl rfl rfl), ?_⟩
        refine ⟨_, fun W eW => OpX.q (OpOk.take (dg := 20) (R.indexS i Tryz.underlying22 Tryz.sizeOf100 rfl rfl rfl (by omega)) rfl rfl rfl rfl), ?_⟩
        refine ⟨_, fun W eW => OpX.q (OpOk.take (dg := 20) (R.fieldA Tryz.underlying100 rfl Tryz.sizeOf44 rfl rfl rfl) rfl rfl rfl rfl), ?_⟩
        refine ⟨_, fun W eW => OpX.q (OpOk.take (dg := 20) (R.loadA Tryz.isAgg44 Tryz.sizeOf44 rfl ((((o8.ext eW).reads encTriple_len).get hx).cut 0 3 rfl) rfl) rfl rfl rfl rfl), ?_⟩
        refine ⟨_, fun W eW => OpX.callG (dg := 20) rfl rfl ent110 (rCompare_ret (a := c0.s) (b := tx.s) _) rfl rfl rfl, ?_⟩
        refine ⟨_, fun W eW => OpX.q (OpOk.take (dg := 20) (Runs.lit (c := true) (R.eql rfl rfl) (decide_eq_true h32)) rfl rfl rfl rfl), ?_⟩
        refine ⟨_, fun W eW => OpX.q (OpOk.r (R.pickT rfl rfl) rfl), ?_⟩
        refine ⟨_, fun W eW => OpX.q (OpOk.r (R.move rfl) rfl), ?_⟩
        refine ⟨_, fun W eW => OpX.q (OpOk.take (dg := 34) (R.move rfl) rfl rfl rfl rfl), ?_⟩
        refine ⟨_, fun W eW => OpX.q (OpOk.take (dg := 34) (R.move rfl) rfl rfl rfl rfl), ?_⟩
        refine ⟨_, fun W eW => OpX.q (OpOk.take (dg := 34) (R.indexS (out.length - 1) Tryz.underlying73 Tryz.sizeOf176 rfl rfl (by omega) (by omega)) rfl rfl rfl rfl), ?_⟩
        refine ⟨_, fun W eW => OpX.q (OpOk.take (dg := 34) (R.fieldA Tryz.underlying176 rfl Tryz.sizeOf44 rfl rfl rfl) rfl rfl rfl rfl), ?_⟩
        refine ⟨_, fun W eW => OpX.q (OpOk.take (dg := 34) (R.loadA Tryz.isAgg44 Tryz.sizeOf44 rfl ((((o3.ext eW).reads encClash_len).get hc0).cut 3 3 rfl) rfl) rfl rfl rfl rfl), ?_⟩
        refine ⟨_, fun W eW => OpX.q (OpOk.take (dg := 34) (R.move rfl) rfl rfl rfl rfl), ?_⟩
        refine ⟨_, fun W eW => OpX.q (OpOk.take (dg := 34) (R.move rfl) rfl rfl rfl rfl), ?_⟩
        refine ⟨_, fun W eW => OpX.q (OpOk.take (dg := 34) (R.indexS i Tryz.underlying22 Tryz.sizeOf100 rfl rfl rfl (by omega)) rfl rfl rfl rfl), ?_⟩
        refine ⟨_, fun W eW => OpX.q (OpOk.take (dg := 34) (R.fieldA Tryz.underlying100 rfl Tryz.sizeOf44 rfl rfl rfl) rfl rfl rfl rfl), ?_⟩
        refine ⟨_, fun W eW => OpX.q (OpOk.take (dg := 34) (R.loadA Tryz.isAgg44 Tryz.sizeOf44 rfl ((((o8.ext eW).reads encTriple_len).get hx).cut 3 3 rfl) rfl) rfl rfl rfl rfl), ?_⟩
        refine ⟨_, fun W eW => OpX.callG (dg := 34) rfl rfl ent110 (rCompare_ret (a := c0.p) (b := tx.p) _) rfl rfl rfl, ?_⟩
        refine ⟨_, fun W eW => OpX.q (OpOk.take (dg := 34) (R.eql rfl rfl) rfl rfl rfl rfl), ?_⟩
        refine ⟨_, fun W eW => OpX.q (OpOk.r (R.pickT rfl rfl) rfl), ?_⟩
        show ∀ w', Ext _ w' → St _ _ _ _ w'
        intro wd7 ed7
        replace E := Ext.trans E ed7
        replace o8 := o8.ext ed7
        replace o3 := o3.ext ed7
        replace zz := Nat.le_trans zz (Chg.size ed7)
        refine St.weak [(3, _), (4, _), (5, _), (47, _)] ⟨rfl, rfl, rfl, rfl, trivial⟩ ?_
        refine St.then_n ?_
        refine St.go hK10 ?_
        clear hK10
        refine St.condD rfl (fun h47 => ?_) (fun h47 => ?_)
        ·
          refine St.exit ?_
          refine St.then_x ?_
          refine St.in_x ?_
          refine St.then_n ?_
          refine St.go hK7 ?_
          clear hK7
          refine St.region ?_
          refine St.r (R.move rfl) rfl rfl ?_
          refine St.r (R.add rfl rfl (by omega) (by omega)) rfl rfl ?_
          refine St.r (R.assign rfl) rfl rfl ?_
          refine St.nil ?_
          refine St.weak [(3, _), (4, _), (5, _)] ⟨rfl, rfl, rfl, trivial⟩ ?_
          refine St.then_n ?_
          refine St.round (i + 1, out, _) ⟨rfl, rfl, rfl, trivial⟩ ?_ ?_
          · try dsimp only
            exact ⟨by omega, E, o8, o3, hp.same hx hc0 (clash_key_eq.1 ⟨h32, h47⟩), by omega, zz⟩
          · try dsimp only
            omega
        ·
          refine St.skip ?_
          refine St.then_n ?_
          refine St.meet hK9 () ⟨rfl, rfl, rfl, trivial⟩ ?_
          · exact ⟨E, o8, o3, fun c hc e => by rw [hc0] at hc; injection hc with hc; subst hc; exact h47 (clash_key_eq.2 e).2, zz⟩
      ·
        refine St.weak [(3, _), (4, _), (5, _), (6, _)] ⟨rfl, rfl, rfl, rfl, trivial⟩ ?_
        refine St.drawX mixed rfl rfl rfl rfl ?_
        replace E := Ext.trans E (Ext.drew _)
        replace o8 := o8.ext (Ext.drew _)
        replace o3 := o3.ext (Ext.drew _)
        replace zz := Nat.le_trans zz (Chg.size (Ext.drew _))
        refine ⟨_, fun W eW => OpX.q (OpOk.r (R.move rfl) rfl), ?_⟩
        refine ⟨_, fun W eW => OpX.q (OpOk.r (Runs.lit (c := true) (R.geq rfl rfl) (decide_eq_true h19)) rfl), ?_⟩
        refine ⟨_, fun W eW => OpX.q (OpOk.r (R.move rfl) rfl), ?_⟩
        refine ⟨_, fun W eW => OpX.q (OpOk.take (dg := 20) (R.move rfl) rfl rfl rfl rfl), ?_⟩
        refine ⟨_, fun W eW => OpX.q (OpOk.take (dg := 20) (R.move rfl) rfl rfl rfl rfl), ?_⟩
        refine ⟨_, fun W eW => OpX.q (OpOk.take (dg := 20) (R.indexS (out.length - 1) Tryz.underlying73 Tryz.sizeOf176 rfl rfl (by omega) (by omega)) rfl rfl rfl rfl), ?_⟩
        refine ⟨_, fun W eW => OpX.q (OpOk.take (dg := 20) (R.fieldA Tryz.underlying176 rfl Tryz.sizeOf44 rfl rfl rfl) rfl rfl rfl rfl), ?_⟩
        refine ⟨_, fun W eW => OpX.q (OpOk.take (dg := 20) (R.loadA Tryz.isAgg44 Tryz.sizeOf44 rfl ((((o3.ext eW).reads encClash_len).get hc0).cut 0 3 rfl) rfl) rfl rfl rfl rfl), ?_⟩
        refine ⟨_, fun W eW => OpX.q (OpOk.take (dg := 20) (R.move rfl) rfl rfl rfl rfl), ?_⟩
        refine ⟨_, fun W eW => OpX.q (OpOk.take (dg := 20) (R.move rfl) rfl rfl rfl rfl), ?_⟩
        refine ⟨_, fun W eW => OpX.q (OpOk.take (dg := 20) (R.indexS i Tryz.underlying22 Tryz.sizeOf100 rfl rfl rfl (by omega)) rfl rfl rfl rfl), ?_⟩
        refine ⟨_, fun W eW => OpX.q (OpOk.take (dg := 20) (R.fieldA Tryz.underlying100 rfl Tryz.sizeOf44 rfl rfl rfl) rfl rfl rfl rfl), ?_⟩
        refine ⟨_, fun W eW => OpX.q (OpOk.take (dg := 20) (R.loadA Tryz.isAgg44 Tryz.sizeOf44 rfl ((((o8.ext eW).reads encTriple_len).get hx).cut 0 3 rfl) rfl) rfl rfl rfl rfl), ?_⟩
        refine ⟨_, fun W eW => OpX.callG (dg := 20) rfl rfl ent110 (rCompare_ret (a := c0.s) (b := tx.s) _) rfl rfl rfl, ?_⟩
        refine ⟨_, fun W eW => OpX.q (OpOk.take (dg := 20) (Runs.lit (c := false) (R.eql rfl rfl) (decide_eq_false h32)) rfl rfl rfl rfl), ?_⟩
        refine ⟨_, fun W eW => OpX.q (OpOk.r (R.pickT rfl rfl) rfl), ?_⟩
        refine ⟨_, fun W eW => OpX.q (OpOk.r (R.move rfl) rfl), ?_⟩
        refine ⟨_, fun W eW => OpX.q (OpOk.pass (dg := 34) rfl rfl rfl rfl rfl), ?_⟩
        refine ⟨_, fun W eW => OpX.q (OpOk.pass (dg := 34) rfl rfl rfl rfl rfl), ?_⟩
        refine ⟨_, fun W eW => OpX.q (OpOk.pass (dg := 34) rfl rfl rfl rfl rfl), ?_⟩
        refine ⟨_, fun W eW => OpX.q (OpOk.pass (dg := 34) rfl rfl rfl rfl rfl), ?_⟩
        refine ⟨_, fun W eW => OpX.q (OpOk.pass (dg := 34) rfl rfl rfl rfl rfl), ?_⟩
        refine ⟨_, fun W eW => OpX.q (OpOk.pass (dg := 34) rfl rfl rfl rfl rfl), ?_⟩
        refine ⟨_, fun W eW => OpX.q (OpOk.pass (dg := 34) rfl rfl rfl rfl rfl), ?_⟩
        refine ⟨_, fun W eW => OpX.q (OpOk.pass (dg := 34) rfl rfl rfl rfl rfl), ?_⟩
        refine ⟨_, fun W eW => OpX.q (OpOk.pass (dg := 34) rfl rfl rfl rfl rfl), ?_⟩
        refine ⟨_, fun W eW => OpX.q (OpOk.pass (dg := 34) rfl rfl rfl rfl rfl), ?_⟩
        refine ⟨_, fun W eW => OpX.q (OpOk.pass (dg := 34) rfl rfl rfl rfl rfl), ?_⟩
        refine ⟨_, fun W eW => OpX.q (OpOk.pass (dg := 34) rfl rfl rfl rfl rfl), ?_⟩
        refine ⟨_, fun W eW => OpX.q (OpOk.r (R.pickF rfl rfl) rfl), ?_⟩
        show ∀ w', Ext _ w' → St _ _ _ _ w'
        intro wd7 ed7
        replace E := Ext.trans E ed7
        replace o8 := o8.ext ed7
        replace o3 := o3.ext ed7
        replace zz := Nat.le_trans zz (Chg.size ed7)
        refine St.weak [(3, _), (4, _), (5, _), (47, _)] ⟨rfl, rfl, rfl, rfl, trivial⟩ ?_
        refine St.then_n ?_
        refine St.go hK10 ?_
        clear hK10
        refine St.condF rfl ?_
        refine St.skip ?_
        refine St.then_n ?_
        refine St.meet hK9 () ⟨rfl, rfl, rfl, trivial⟩ ?_
        · exact ⟨E, o8, o3, fun c hc e => by rw [hc0] at hc; injection hc with hc; subst hc; exact h32 (clash_key_eq.2 e).1, zz⟩
    ·
      refine St.weak [(3, _), (4, _), (5, _), (6, _)] ⟨rfl, rfl, rfl, rfl, trivial⟩ ?_
      refine St.drawX mixed rfl rfl rfl rfl ?_
      replace E := Ext.trans E (Ext.drew _)
      replace o8 := o8.ext (Ext.drew _)
      replace o3 := o3.ext (Ext.drew _)
      replace zz := Nat.le_trans zz (Chg.size (Ext.drew _))
      refine ⟨_, fun W eW => OpX.q (OpOk.r (R.move rfl) rfl), ?_⟩
      refine ⟨_, fun W eW => OpX.q (OpOk.r (Runs.lit (c := false) (R.geq rfl rfl) (decide_eq_false h19)) rfl), ?_⟩
      refine ⟨_, fun W eW => OpX.q (OpOk.r (R.move rfl) rfl), ?_⟩
      refine ⟨_, fun W eW => OpX.q (OpOk.pass (dg := 20) rfl rfl rfl rfl rfl), ?_⟩
      refine ⟨_, fun W eW => OpX.q (OpOk.pass (dg := 20) rfl rfl rfl rfl rfl), ?_⟩
      refine ⟨_, fun W eW => OpX.q (OpOk.pass (dg := 20) rfl rfl rfl rfl rfl), ?_⟩
      refine ⟨_, fun W eW => OpX.q (OpOk.pass (dg := 20) rfl rfl rfl rfl rfl), ?_⟩
      refine ⟨_, fun W eW => OpX.q (OpOk.pass (dg := 20) rfl rfl rfl rfl rfl), ?_⟩
      refine ⟨_, fun W eW => OpX.q (OpOk.pass (dg := 20) rfl rfl rfl rfl rfl), ?_⟩
      refine ⟨_, fun W eW => OpX.q (OpOk.pass (dg := 20) rfl rfl rfl rfl rfl), ?_⟩
      refine ⟨_, fun W eW => OpX.q (OpOk.pass (dg := 20) rfl rfl rfl rfl rfl), ?_⟩
      refine ⟨_, fun W eW => OpX.q (OpOk.pass (dg := 20) rfl rfl rfl rfl rfl), ?_⟩
      refine ⟨_, fun W eW => OpX.q (OpOk.pass (dg := 20) rfl rfl rfl rfl rfl), ?_⟩
      refine ⟨_, fun W eW => OpX.q (OpOk.pass (dg := 20) rfl rfl rfl rfl rfl), ?_⟩
      refine ⟨_, fun W eW => OpX.q (OpOk.pass (dg := 20) rfl rfl rfl rfl rfl), ?_⟩
      refine ⟨_, fun W eW => OpX.q (OpOk.r (R.pickF rfl rfl) rfl), ?_⟩
      refine ⟨_, fun W eW => OpX.q (OpOk.r (R.move rfl) rfl), ?_⟩
      refine ⟨_, fun W eW => OpX.q (OpOk.pass (dg := 34) rfl rfl rfl rfl rfl), ?_⟩
      refine ⟨_, fun W eW => OpX.q (OpOk.pass (dg := 34) rfl rfl rfl rfl rfl), ?_⟩
      refine ⟨_, fun W eW => OpX.q (OpOk.pass (dg := 34) rfl rfl rfl rfl rfl), ?_⟩
      refine ⟨_, fun W eW => OpX.q (OpOk.pass (dg := 34) rfl rfl rfl rfl rfl), ?_⟩
      refine ⟨_, fun W eW => OpX.q (OpOk.pass (dg := 34) rfl rfl rfl rfl rfl), ?_⟩
      refine ⟨_, fun W eW => OpX.q (OpOk.pass (dg := 34) rfl rfl rfl rfl rfl), ?_⟩
      refine ⟨_, fun W eW => OpX.q (OpOk.pass (dg := 34) rfl rfl rfl rfl rfl), ?_⟩
      refine ⟨_, fun W eW => OpX.q (OpOk.pass (dg := 34) rfl rfl rfl rfl rfl), ?_⟩
      refine ⟨_, fun W eW => OpX.q (OpOk.pass (dg := 34) rfl rfl rfl rfl rfl), ?_⟩
      refine ⟨_, fun W eW => OpX.q (OpOk.pass (dg := 34) rfl rfl rfl rfl rfl), ?_⟩
      refine ⟨_, fun W eW => OpX.q (OpOk.pass (dg := 34) rfl rfl rfl rfl rfl), ?_⟩
      refine ⟨_, fun W eW => OpX.q (OpOk.pass (dg := 34) rfl rfl rfl rfl rfl), ?_⟩
      refine ⟨_, fun W eW => OpX.q (OpOk.r (R.pickF rfl rfl) rfl), ?_⟩
      show ∀ w', Ext _ w' → St _ _ _ _ w'
      intro wd7 ed7
      replace E := Ext.trans E ed7
      replace o8 := o8.ext ed7
      replace o3 := o3.ext ed7
      replace zz := Nat.le_trans zz (Chg.size ed7)
      refine St.weak [(3, _), (4, _), (5, _), (47, _)] ⟨rfl, rfl, rfl, rfl, trivial⟩ ?_
      refine St.then_n ?_
      refine St.go hK10 ?_
      clear hK10
      refine St.condF rfl ?_
      refine St.skip ?_
      refine St.then_n ?_
      refine St.meet hK9 () ⟨rfl, rfl, rfl, trivial⟩ ?_
      · exact ⟨E, o8, o3, fun c hc => by have := lt_of_get hc; omega, zz⟩
  ·
    refine St.exit ?_
    refine St.then_x ?_
    refine St.then_x ?_
    refine St.in_x ?_
    refine St.then_n ?_
    refine St.go hK3 ?_
    clear hK3
    refine St.seq fun K11 hK11 => ?_
    refine St.region ?_
    refine St.r (R.move rfl) rfl rfl ?_
    refine St.r (R.assign rfl) rfl rfl ?_
    refine St.nil ?_
    refine St.weak [(2, _)] ⟨rfl, trivial⟩ ?_
    refine St.then_n ?_
    refine St.go hK11 ?_
    clear hK11
    refine St.ret ?_
    refine St.ret1 Tryz.results98 rfl ?_
    have hi : i = s.length := by omega
    subst hi
    obtain ⟨hr, hm⟩ := hp.all hs
    exact ⟨_, rfl, out, o3.lower (by omega), hr, hm, by omega, E⟩

set_option maxHeartbeats 4000000 in
set_option maxRecDepth 100000 in
theorem rMerge_ret {base a b : List Triple} {v0 v1 v2 : Value} {first : Bool} (w0 : World) (h0 : RTriples w0 v0 base) (h1 : RTriples w0 v1 a) (h2 : RTriples w0 v2 b) (n0 : base.length ≤ 1000) (n1 : a.length ≤ 1000) (n2 : b.length ≤ 1000) :
    Ret Tryz.prog 33 [v0, v1, v2, .bool first] w0 fun r w' => ∃ p q ks, r = .tuple #[p, q] ∧ IsPairs [base, a, b] ks ∧ Own encTriple 9 w0.heap.size 100 w' p (outL base a b first ks) ∧ Own encClash 6 w0.heap.size 176 w' q (clashL base a b ks) ∧ Ext w0 w' := by
  obtain ⟨A0, C0, rfl, -, -⟩ := h0.form
  obtain ⟨A1, C1, rfl, -, -⟩ := h1.form
  obtain ⟨A2, C2, rfl, -, -⟩ := h2.form
  have E : Ext w0 w0 := Ext.refl w0
  refine St.enter (N := 84) Tryz.func33 rfl Tryz.ntmps33 rfl ?_
  refine St.seq fun K0 hK0 => ?_
  refine St.region ?_
  refine St.r (R.assign rfl) rfl rfl ?_
  refine St.r (R.assign rfl) rfl rfl ?_
  refine St.nil ?_
  refine St.weak [(0, _), (1, _), (2, _), (3, _)] ⟨rfl, rfl, rfl, rfl, trivial⟩ ?_
  refine St.then_n ?_
  refine St.go hK0 ?_
  clear hK0
  refine St.seq fun K1 hK1 => ?_
  refine St.region ?_
  refine St.r (R.assign rfl) rfl rfl ?_
  refine St.nil ?_
  refine St.weak [(0, _), (1, _), (2, _), (3, _), (10, _)] ⟨rfl, rfl, rfl, rfl, rfl, trivial⟩ ?_
  refine St.then_n ?_
  refine St.go hK1 ?_
  clear hK1
  refine St.seq fun K2 hK2 => ?_
  refine St.region ?_
  refine St.r (R.assign rfl) rfl rfl ?_
  refine St.nil ?_
  refine St.weak [(0, _), (1, _), (2, _), (3, _), (10, _), (11, _)] ⟨rfl, rfl, rfl, rfl, rfl, rfl, trivial⟩ ?_
  refine St.then_n ?_
  refine St.go hK2 ?_
  clear hK2
  refine St.seq fun K3 hK3 => ?_
  refine St.region ?_
  refine St.r (R.move rfl) rfl rfl ?_
  refine St.r (R.move rfl) rfl rfl ?_
  refine St.call rfl rfl ent99 (rUnion_ret _ (h0.ext (REnc.firm _) E) (h1.ext (REnc.firm _) E) (by omega) (by omega)) rfl ?_
  rintro r23 w23 ⟨s1, o23, hs1, e23⟩
  replace E := Ext.trans E e23
  refine St.r (R.move rfl) rfl rfl ?_
  refine St.call rfl rfl ent99 (rUnion_ret _ (o23.reads encTriple_len) (h2.ext (REnc.firm _) E) (by have := hs1.few; simp at this; omega) (by omega)) rfl ?_
  rintro r25 w25 ⟨s2, o25, hs2, e25⟩
  replace E := Ext.trans E e25
  replace o23 := o23.ext e25
  have zE25 := E.size
  refine St.call rfl rfl ent98 (rPairs_ret _ (o25.reads encTriple_len) (by have := hs1.few; have := hs2.few; simp at *; omega)) rfl ?_
  rintro r26 w26 ⟨ks, o12, hkr, hkm, hkl, e26⟩
  replace E := Ext.trans E e26
  replace o23 := o23.ext e26
  replace o25 := o25.ext e26
  have hIP : IsPairs [base, a, b] ks := pairs3 hkr (u := s1) (v := s2) (fun x => (hs1.mem x).trans List.mem_append) (fun x => (hs2.mem x).trans List.mem_append) hkm
  have hk5 : ks.length ≤ 5000 := by have := hs1.few; have := hs2.few; simp at *; omega
  obtain ⟨KA, KC, rfl, -, -⟩ := o12.form
  have hB12 := fun k hk => (o12.base (k := k) hk).2
  obtain ⟨Z, hZ⟩ : ∃ Z, Z = w26.heap.size := ⟨_, rfl⟩
  rw [← hZ] at hB12
  have zz : Z ≤ w26.heap.size := by omega
  have hZ0 : w0.heap.size ≤ Z := by have := E.size; omega
  replace o12 := o12.lower (base' := w0.heap.size) (by have := hZ0; omega)
  refine St.r (R.assign rfl) rfl rfl ?_
  refine St.nil ?_
  refine St.weak [(0, _), (1, _), (2, _), (3, _), (10, _), (11, _), (12, _)] ⟨rfl, rfl, rfl, rfl, rfl, rfl, rfl, trivial⟩ ?_
  refine St.then_n ?_
  refine St.go hK3 ?_
  clear hK3
  refine St.seq fun K4 hK4 => ?_
  refine St.seq fun K5 hK5 => ?_
  refine St.region ?_
  refine St.r (R.assign rfl) rfl rfl ?_
  refine St.nil ?_
  refine St.weak [(0, _), (1, _), (2, _), (3, _), (10, _), (11, _), (12, _), (13, _)] ⟨rfl, rfl, rfl, rfl, rfl, rfl, rfl, rfl, trivial⟩ ?_
  refine St.then_n ?_
  refine St.go hK5 ?_
  clear hK5
  refine St.block ?_
  refine St.loop (fun (x : Nat × Value × Value) => match x with | (k, ov, cv) => [(0, .slice A0 base.length C0), (1, .slice A1 a.length C1), (2, .slice A2 b.length C2), (3, .bool first), (10, ov), (11, cv), (12, .slice KA ks.length KC), (13, .int .i64 (k : Int))])
      (fun (x : Nat × Value × Value) w => match x with | (k, ov, cv) => k ≤ ks.length ∧ Ext w0 w ∧ Own encClash 6 w0.heap.size 176 w (.slice KA ks.length KC) ks ∧ Own encTriple 9 Z 100 w ov (outL base a b first (ks.take k)) ∧ Own encClash 6 Z 176 w cv (clashL base a b (ks.take k)) ∧ (∀ x, ov.ownBlock = some x → cv.ownBlock ≠ some x) ∧ Z ≤ w.heap.size)
      (fun (x : Nat × Value × Value) => match x with | (k, ov, cv) => ks.length - k) (0, .slice none 0 0, .slice none 0 0) ⟨rfl, rfl, rfl, rfl, rfl, rfl, rfl, rfl, trivial⟩ ?_ ?_
  · exact ⟨Nat.zero_le _, E, o12, Own.nil _ _ _ _ _, Own.nil _ _ _ _ _, fun x h => (by cases h), zz⟩
  rintro ⟨k, ov, cv⟩ w ⟨hk, E, o12, o10, o11, hap, zz⟩
  show St _ _ [(0, .slice A0 base.length C0), (1, .slice A1 a.length C1), (2, .slice A2 b.length C2), (3, .bool first), (10, ov), (11, cv), (12, .slice KA ks.length KC), (13, .int .i64 (k : Int))] _ _
  refine St.seq fun K6 hK6 => ?_
  refine St.seq fun K7 hK7 => ?_
  refine St.region ?_
  refine St.r (R.move rfl) rfl rfl ?_
  refine St.r (R.move rfl) rfl rfl ?_
  refine St.r (R.lenSl Tryz.underlying73 rfl) rfl rfl ?_
  refine St.r (R.lss rfl rfl) rfl rfl ?_
  refine St.nil ?_
  refine St.weak [(0, _), (1, _), (2, _), (3, _), (10, _), (11, _), (12, _), (13, _), (30, _)] ⟨rfl, rfl, rfl, rfl, rfl, rfl, rfl, rfl, rfl, trivial⟩ ?_
  refine St.then_n ?_
  refine St.go hK7 ?_
  clear hK7
  refine St.condD rfl (fun h30 => ?_) (fun h30 => ?_)
  ·
    obtain ⟨ck, hck⟩ := get_of_lt (xs := ks) (k := k) (by omega)
    obtain ⟨kb, ko, rfl, hkc⟩ := (o12.reads encClash_len).get' hck
    have hoL := fun k hk => (o10.base (k := k) hk).2
    have hcL := fun k hk => (o11.base (k := k) hk).2
    have hZw : Z ≤ w.heap.size := zz
    have hol := outL_len (base := base) (f := first) n1 n2 (ks.take k)
    have hcl := clashL_len base a b (ks.take k)
    have hpl : (pickL (sideOf base ck) (sideOf a ck) (sideOf b ck) first).length ≤ 1000 := pickL_len (Nat.le_trans (sideOf_len _ _) n1) (Nat.le_trans (sideOf_len _ _) n2)
    rw [List.length_take, Nat.min_eq_left (by omega)] at hol hcl
    refine St.skip ?_
    refine St.then_n ?_
    refine St.go hK6 ?_
    clear hK6
    refine St.seq fun K8 hK8 => ?_
    refine St.block ?_
    refine St.seq fun K9 hK9 => ?_
    refine St.region ?_
    refine St.r (R.move rfl) rfl rfl ?_
    refine St.r (R.move rfl) rfl rfl ?_
    refine St.r (R.move rfl) rfl rfl ?_
    refine St.r (R.indexS k Tryz.underlying73 Tryz.sizeOf176 rfl rfl rfl (by omega)) rfl rfl ?_
    refine St.r (R.loadA Tryz.isAgg176 Tryz.sizeOf176 rfl ((o12.reads encClash_len).get hck) rfl) rfl rfl ?_
    refine St.call rfl rfl ent100 (rOf_ret (ck := ck) _ (h0.ext (REnc.firm _) E) (by omega)) rfl ?_
    rintro r38 w38 ⟨o38, e38⟩
    replace E := Ext.trans E e38
    replace o12 := o12.ext e38
    replace o10 := o10.ext e38
    replace o11 := o11.ext e38
    replace zz := Nat.le_trans zz (Chg.size e38)
    obtain ⟨B38, D38, rfl, -, -⟩ := o38.form
    have bb38 := fun k hk => (o38.base (k := k) hk).1
    have ze38 := e38.size
    refine St.r (R.assign rfl) rfl rfl ?_
    refine St.nil ?_
    refine St.weak [(0, _), (1, _), (2, _), (3, _), (10, _), (11, _), (12, _), (13, _), (14, _)] ⟨rfl, rfl, rfl, rfl, rfl, rfl, rfl, rfl, rfl, trivial⟩ ?_
    refine St.then_n ?_
    refine St.go hK9 ?_
    clear hK9
    refine St.seq fun K10 hK10 => ?_
    refine St.region ?_
    refine St.r (R.move rfl) rfl rfl ?_
    refine St.r (R.move rfl) rfl rfl ?_
    refine St.r (R.move rfl) rfl rfl ?_
    refine St.r (R.indexS k Tryz.underlying73 Tryz.sizeOf176 rfl rfl rfl (by omega)) rfl rfl ?_
    refine St.r (R.loadA Tryz.isAgg176 Tryz.sizeOf176 rfl ((o12.reads encClash_len).get hck) rfl) rfl rfl ?_
    refine St.call rfl rfl ent100 (rOf_ret (ck := ck) _ (h1.ext (REnc.firm _) E) (by omega)) rfl ?_
    rintro r44 w44 ⟨o44, e44⟩
    replace E := Ext.trans E e44
    replace o12 := o12.ext e44
    replace o10 := o10.ext e44
    replace o11 := o11.ext e44
    replace zz := Nat.le_trans zz (Chg.size e44)
    replace o38 := o38.ext e44
    obtain ⟨B44, D44, rfl, -, -⟩ := o44.form
    have bb44 := fun k hk => (o44.base (k := k) hk).1
    have ze44 := e44.size
    refine St.r (R.assign rfl) rfl rfl ?_
    refine St.nil ?_
    refine St.weak [(0, _), (1, _), (2, _), (3, _), (10, _), (11, _), (12, _), (13, _), (14, _), (15, _)] ⟨rfl, rfl, rfl, rfl, rfl, rfl, rfl, rfl, rfl, rfl, trivial⟩ ?_
    refine St.then_n ?_
    refine St.go hK10 ?_
    clear hK10
    refine St.seq fun K11 hK11 => ?_
    refine St.region ?_
    refine St.r (R.move rfl) rfl rfl ?_
    refine St.r (R.move rfl) rfl rfl ?_
    refine St.r (R.move rfl) rfl rfl ?_
    refine St.r (R.indexS k Tryz.underlying73 Tryz.sizeOf176 rfl rfl rfl (by omega)) rfl rfl ?_
    refine St.r (R.loadA Tryz.isAgg176 Tryz.sizeOf176 rfl ((o12.reads encClash_len).get hck) rfl) rfl rfl ?_
    refine St.call rfl rfl ent100 (rOf_ret (ck := ck) _ (h2.ext (REnc.firm _) E) (by omega)) rfl ?_
    rintro r50 w50 ⟨o50, e50⟩
    replace E := Ext.trans E e50
    replace o12 := o12.ext e50
    replace o10 := o10.ext e50
    replace o11 := o11.ext e50
    replace zz := Nat.le_trans zz (Chg.size e50)
    replace o38 := o38.ext e50
    replace o44 := o44.ext e50
    obtain ⟨B50, D50, rfl, -, -⟩ := o50.form
    have bb50 := fun k hk => (o50.base (k := k) hk).1
    have ze50 := e50.size
    refine St.r (R.assign rfl) rfl rfl ?_
    refine St.nil ?_
    refine St.weak [(0, _), (1, _), (2, _), (3, _), (10, _), (11, _), (12, _), (13, _), (14, _), (15, _), (16, _)] ⟨rfl, rfl, rfl, rfl, rfl, rfl, rfl, rfl, rfl, rfl, rfl, trivial⟩ ?_
    refine St.then_n ?_
    refine St.go hK11 ?_
    clear hK11
    refine St.seq fun K12 hK12 => ?_
    refine St.region ?_
    refine St.r (R.move rfl) rfl rfl ?_
    refine St.r (R.move rfl) rfl rfl ?_
    refine St.call rfl rfl ent101 (rSame_ret _ (o38.reads encTriple_len) (o44.reads encTriple_len)) rfl ?_
    rintro r53 w53 ⟨rfl, e53⟩
    replace E := Ext.trans E e53
    replace o12 := o12.ext e53
    replace o10 := o10.ext e53
    replace o11 := o11.ext e53
    replace zz := Nat.le_trans zz (Chg.size e53)
    replace o38 := o38.ext e53
    replace o44 := o44.ext e53
    replace o50 := o50.ext e53
    have ze53 := e53.size
    refine St.r (R.assign rfl) rfl rfl ?_
    refine St.nil ?_
    refine St.weak [(0, _), (1, _), (2, _), (3, _), (10, _), (11, _), (12, _), (13, _), (14, _), (15, _), (16, _), (17, _)] ⟨rfl, rfl, rfl, rfl, rfl, rfl, rfl, rfl, rfl, rfl, rfl, rfl, trivial⟩ ?_
    refine St.then_n ?_
    refine St.go hK12 ?_
    clear hK12
    refine St.seq fun K13 hK13 => ?_
    refine St.region ?_
    refine St.r (R.move rfl) rfl rfl ?_
    refine St.r (R.move rfl) rfl rfl ?_
    refine St.call rfl rfl ent101 (rSame_ret _ (o38.reads encTriple_len) (o50.reads encTriple_len)) rfl ?_
    rintro r56 w56 ⟨rfl, e56⟩
    replace E := Ext.trans E e56
    replace o12 := o12.ext e56
    replace o10 := o10.ext e56
    replace o11 := o11.ext e56
    replace zz := Nat.le_trans zz (Chg.size e56)
    replace o38 := o38.ext e56
    replace o44 := o44.ext e56
    replace o50 := o50.ext e56
    have ze56 := e56.size
    refine St.r (R.assign rfl) rfl rfl ?_
    refine St.nil ?_
    refine St.weak [(0, _), (1, _), (2, _), (3, _), (10, _), (11, _), (12, _), (13, _), (15, _), (16, _), (17, _), (18, _)] ⟨rfl, rfl, rfl, rfl, rfl, rfl, rfl, rfl, rfl, rfl, rfl, rfl, trivial⟩ ?_
    refine St.then_n ?_
    refine St.go hK13 ?_
    clear hK13
    refine St.seq fun K14 hK14 => ?_
    refine St.region ?_
    refine St.r (R.move rfl) rfl rfl ?_
    refine St.r (R.move rfl) rfl rfl ?_
    refine St.call rfl rfl ent101 (rSame_ret _ (o44.reads encTriple_len) (o50.reads encTriple_len)) rfl ?_
    rintro r59 w59 ⟨rfl, e59⟩
    replace E := Ext.trans E e59
    replace o12 := o12.ext e59
    replace o10 := o10.ext e59
    replace o11 := o11.ext e59
    replace zz := Nat.le_trans zz (Chg.size e59)
    replace o38 := o38.ext e59
    replace o44 := o44.ext e59
    replace o50 := o50.ext e59
    have ze59 := e59.size
    refine St.r (R.assign rfl) rfl rfl ?_
    refine St.nil ?_
    refine St.weak [(0, _), (1, _), (2, _), (3, _), (10, _), (11, _), (12, _), (13, _), (15, _), (16, _), (17, _), (18, _), (19, _)] ⟨rfl, rfl, rfl, rfl, rfl, rfl, rfl, rfl, rfl, rfl, rfl, rfl, rfl, trivial⟩ ?_
    refine St.then_n ?_
    refine St.go hK14 ?_
    clear hK14
    refine St.seq fun K15 hK15 => ?_
    refine St.region ?_
    refine St.r (R.move rfl) rfl rfl ?_
    refine St.r (R.assign rfl) rfl rfl ?_
    refine St.nil ?_
    refine St.weak [(0, _), (1, _), (2, _), (3, _), (10, _), (11, _), (12, _), (13, _), (16, _), (17, _), (18, _), (19, _), (20, _)] ⟨rfl, rfl, rfl, rfl, rfl, rfl, rfl, rfl, rfl, rfl, rfl, rfl, rfl, trivial⟩ ?_
    refine St.then_n ?_
    refine St.go hK15 ?_
    clear hK15
    refine St.seqJ (fun (x : Value × Value) => match x with | (cv2, mine) => [(0, .slice A0 base.length C0), (1, .slice A1 a.length C1), (2, .slice A2 b.length C2), (3, .bool first), (10, ov), (11, cv2), (12, .slice (some ⟨kb, ko, none⟩) ks.length KC), (13, .int .i64 (k : Int)), (20, mine)])
        (fun (x : Value × Value) w => match x with | (cv2, mine) => Ext w0 w ∧ Own encClash 6 w0.heap.size 176 w (.slice (some ⟨kb, ko, none⟩) ks.length KC) ks ∧ Own encTriple 9 Z 100 w ov (outL base a b first (ks.take k)) ∧ Own encClash 6 Z 176 w cv2 (clashL base a b (ks.take (k + 1))) ∧ (∀ x, ov.ownBlock = some x → cv2.ownBlock ≠ some x) ∧ Z ≤ w.heap.size ∧ RTriples w mine (pickL (sideOf base ck) (sideOf a ck) (sideOf b ck) first) ∧ (∀ x, mine.ownBlock = some x → Z ≤ x)) ?_ ?_
    · rintro ⟨cv2, mine⟩ w ⟨E, o12, o10, o11, hap, zz, hm, hmz⟩
      show St _ _ [(0, .slice A0 base.length C0), (1, .slice A1 a.length C1), (2, .slice A2 b.length C2), (3, .bool first), (10, ov), (11, cv2), (12, .slice (some ⟨kb, ko, none⟩) ks.length KC), (13, .int .i64 (k : Int)), (20, mine)] _ _
      refine St.region ?_
      refine St.r (R.move rfl) rfl rfl ?_
      refine St.r (R.move rfl) rfl rfl ?_
      have hcL2 := fun k hk => (o11.base (k := k) hk).2
      have hzc2 := zz
      refine St.append (enc := encTriple) (fun _ => rfl) one_triple Tryz.underlying22 info100 rfl rfl rfl rfl o10 hm (by omega) (by omega) (by omega) rfl ?_
      intro v81 w81 a81 g81 at81
      replace E := Ext.then E g81 (by intro j hj hk; have := (o10.base hk).1; omega)
      replace o12 := o12.chg g81 (fun k hk e => by have := hB12 k hk; have := (o10.base e).1; omega)
      replace o11 := o11.chg g81 (fun k hk e => hap k e hk)
      replace zz := Nat.le_trans zz (Chg.size g81)
      clear o10; have o10 := a81; clear a81
      have hap3 : ∀ x, v81.ownBlock = some x → cv2.ownBlock ≠ some x := fun x hx hx2 => by
        rcases at81 with e | e
        · exact hap x (e ▸ hx) hx2
        · have h3 := e.symm.trans hx
          injection h3 with h3
          have := hcL2 x hx2
          omega
      refine St.r (R.assign rfl) rfl rfl ?_
      refine St.nil ?_
      refine St.weak [(0, _), (1, _), (2, _), (3, _), (10, _), (11, _), (12, _), (13, _)] ⟨rfl, rfl, rfl, rfl, rfl, rfl, rfl, rfl, trivial⟩ ?_
      refine St.in_n ?_
      refine St.then_n ?_
      refine St.go hK8 ?_
      clear hK8
      refine St.region ?_
      refine St.r (R.move rfl) rfl rfl ?_
      refine St.r (R.add rfl rfl (by omega) (by omega)) rfl rfl ?_
      refine St.r (R.assign rfl) rfl rfl ?_
      refine St.nil ?_
      refine St.weak [(0, _), (1, _), (2, _), (3, _), (10, _), (11, _), (12, _), (13, _)] ⟨rfl, rfl, rfl, rfl, rfl, rfl, rfl, rfl, trivial⟩ ?_
      refine St.then_n ?_
      refine St.round (k + 1, v81, cv2) ⟨rfl, rfl, rfl, rfl, rfl, rfl, rfl, rfl, trivial⟩ ?_ ?_
      · try dsimp only
        exact ⟨by omega, E, o12, by rw [take_snoc hck, outL_snoc]; exact o10, o11, hap3, zz⟩
      · try dsimp only
        omega
    intro K16 hK16
    refine St.seq fun K17 hK17 => ?_
    refine St.region ?_
    refine St.r (R.move rfl) rfl rfl ?_
    refine St.nil ?_
    refine St.weak [(0, _), (1, _), (2, _), (3, _), (10, _), (11, _), (12, _), (13, _), (16, _), (18, _), (19, _), (20, _), (61, _)] ⟨rfl, rfl, rfl, rfl, rfl, rfl, rfl, rfl, rfl, rfl, rfl, rfl, rfl, trivial⟩ ?_
    refine St.then_n ?_
    refine St.go hK17 ?_
    clear hK17
    refine St.cond rfl (fun h61 => ?_) (fun h61 => ?_)
    ·
      replace h61 : sideOf base ck = sideOf a ck := of_decide_eq_true h61
      refine St.region ?_
      refine St.r (R.move rfl) rfl rfl ?_
      refine St.r (R.assign rfl) rfl rfl ?_
      refine St.nil ?_
      refine St.weak [(0, _), (1, _), (2, _), (3, _), (10, _), (11, _), (12, _), (13, _), (20, _)] ⟨rfl, rfl, rfl, rfl, rfl, rfl, rfl, rfl, rfl, trivial⟩ ?_
      refine St.then_n ?_
      refine St.meet hK16 (cv, .slice B50 (sideOf b ck).length D50) ⟨rfl, rfl, rfl, rfl, rfl, rfl, rfl, rfl, rfl, trivial⟩ ?_
      · try dsimp only
        have hcb : clashB (sideOf base ck) (sideOf a ck) (sideOf b ck) = false := by simp [clashB, h61]
        have hp : pickL (sideOf base ck) (sideOf a ck) (sideOf b ck) first = (sideOf b ck) := by rw [pickL, if_pos h61]
        exact ⟨E, o12, o10, by rw [take_snoc hck, clashL_snoc, hcb]; simpa using o11, hap, zz, by rw [hp]; exact o50.reads encTriple_len, fun x hx => by have := bb50 x hx; omega⟩
    ·
      replace h61 : ¬ sideOf base ck = sideOf a ck := of_decide_eq_false h61
      refine St.seq fun K18 hK18 => ?_
      by_cases h63 : ¬ sideOf base ck = sideOf b ck
      ·
        refine St.region ?_
        refine St.r (R.move rfl) rfl rfl ?_
        refine St.r (Runs.lit (c := true) (R.not rfl) ((by simp [h63]))) rfl rfl ?_
        refine St.r (R.move rfl) rfl rfl ?_
        refine St.take (dg := 65) rfl rfl ?_ rfl
        refine St.r (R.move rfl) rfl rfl ?_
        refine St.take (dg := 65) rfl rfl ?_ rfl
        refine St.r (R.not rfl) rfl rfl ?_
        refine St.r (R.pickT rfl rfl) rfl rfl ?_
        refine St.nil ?_
        refine St.weak [(0, _), (1, _), (2, _), (3, _), (10, _), (11, _), (12, _), (13, _), (16, _), (20, _), (68, _)] ⟨rfl, rfl, rfl, rfl, rfl, rfl, rfl, rfl, rfl, rfl, rfl, trivial⟩ ?_
        refine St.then_n ?_
        refine St.go hK18 ?_
        clear hK18
        refine St.cond rfl (fun h68 => ?_) (fun h68 => ?_)
        ·
          replace h68 : ¬ sideOf a ck = sideOf b ck := by simpa using h68
          refine St.seq fun K19 hK19 => ?_
          refine St.region ?_
          refine St.r (R.move rfl) rfl rfl ?_
          refine St.r (R.move rfl) rfl rfl ?_
          refine St.r (R.move rfl) rfl rfl ?_
          refine St.r (R.indexS k Tryz.underlying73 Tryz.sizeOf176 rfl rfl rfl (by omega)) rfl rfl ?_
          refine St.r (R.loadA Tryz.isAgg176 Tryz.sizeOf176 rfl ((o12.reads encClash_len).get hck) rfl) rfl rfl ?_
          refine St.buildSl Tryz.underlying73 Tryz.sizeOf176 Tryz.zeroValue176 rfl rfl rfl rfl (by intro u hu; simp only [List.mem_cons, List.not_mem_nil, or_false] at hu; first | (subst hu; rfl) | (rcases hu with rfl | rfl <;> rfl) | (rcases hu with rfl | rfl | rfl <;> rfl) | (rcases hu with rfl | rfl | rfl | rfl <;> rfl)) rfl ?_
          intro w74 b74 hb74 hs74 e74 k74
          have qE74 := E.size
          replace E := Ext.trans E e74
          replace o12 := o12.ext e74
          replace o10 := o10.ext e74
          replace o11 := o11.ext e74
          replace zz := Nat.le_trans zz (Chg.size e74)
          replace o38 := o38.ext e74
          replace o44 := o44.ext e74
          replace o50 := o50.ext e74
          have hzc := E.size
          refine St.append (enc := encClash) (fun _ => rfl) one_clash Tryz.underlying73 info176 rfl rfl rfl rfl o11 (RSl.mk (enc := encClash) (xs := [ck]) encClash_len k74.cells (fun i u hu => hu) (by simp) (by simp)) (by simp; omega) (by simp; omega) (by omega) rfl ?_
          intro v75 w75 a75 g75 at75
          replace E := Ext.then E g75 (by intro j hj hk; have := (o11.base hk).1; omega)
          replace o12 := o12.chg g75 (fun k hk e => by have := hB12 k hk; have := (o11.base e).1; omega)
          replace o10 := o10.chg g75 (fun k hk e => hap k hk e)
          replace zz := Nat.le_trans zz (Chg.size g75)
          replace o38 := o38.chg g75 (fun k hk e => by have := bb38 k hk; have := hcL k e; omega)
          replace o44 := o44.chg g75 (fun k hk e => by have := bb44 k hk; have := hcL k e; omega)
          replace o50 := o50.chg g75 (fun k hk e => by have := bb50 k hk; have := hcL k e; omega)
          clear o11; have o11 := a75; clear a75
          have hap2 : ∀ x, ov.ownBlock = some x → v75.ownBlock ≠ some x := fun x hx hx2 => by
            rcases at75 with e | e
            · exact hap x hx (e ▸ hx2)
            · have h3 := e.symm.trans hx2
              injection h3 with h3
              have := hoL x hx
              omega
          refine St.r (R.assign rfl) rfl rfl ?_
          refine St.nil ?_
          refine St.weak [(0, _), (1, _), (2, _), (3, _), (10, _), (11, _), (12, _), (13, _), (16, _), (20, _)] ⟨rfl, rfl, rfl, rfl, rfl, rfl, rfl, rfl, rfl, rfl, trivial⟩ ?_
          refine St.then_n ?_
          refine St.go hK19 ?_
          clear hK19
          refine St.seq fun K20 hK20 => ?_
          refine St.region ?_
          refine St.r (R.move rfl) rfl rfl ?_
          refine St.r (R.not rfl) rfl rfl ?_
          refine St.nil ?_
          refine St.weak [(0, _), (1, _), (2, _), (3, _), (10, _), (11, _), (12, _), (13, _), (16, _), (20, _), (77, _)] ⟨rfl, rfl, rfl, rfl, rfl, rfl, rfl, rfl, rfl, rfl, rfl, trivial⟩ ?_
          refine St.then_n ?_
          refine St.go hK20 ?_
          clear hK20
          refine St.cond rfl (fun h77 => ?_) (fun h77 => ?_)
          ·
            refine St.region ?_
            refine St.r (R.move rfl) rfl rfl ?_
            refine St.r (R.assign rfl) rfl rfl ?_
            refine St.nil ?_
            refine St.weak [(0, _), (1, _), (2, _), (3, _), (10, _), (11, _), (12, _), (13, _), (20, _)] ⟨rfl, rfl, rfl, rfl, rfl, rfl, rfl, rfl, rfl, trivial⟩ ?_
            refine St.then_n ?_
            refine St.meet hK16 (v75, .slice B50 (sideOf b ck).length D50) ⟨rfl, rfl, rfl, rfl, rfl, rfl, rfl, rfl, rfl, trivial⟩ ?_
            · try dsimp only
              have hcb : clashB (sideOf base ck) (sideOf a ck) (sideOf b ck) = true := by simp [clashB, h61, h63, h68]
              have hp : pickL (sideOf base ck) (sideOf a ck) (sideOf b ck) first = (sideOf b ck) := by have hf : first = false := (by simpa using h77); rw [pickL, if_neg h61, if_neg (by simp [h63, h68]), hf]; rfl
              exact ⟨E, o12, o10, by rw [take_snoc hck, clashL_snoc, hcb]; simpa using o11, hap2, zz, by rw [hp]; exact o50.reads encTriple_len, fun x hx => by have := bb50 x hx; omega⟩
          ·
            refine St.skip ?_
            refine St.then_n ?_
            refine St.meet hK16 (v75, .slice B44 (sideOf a ck).length D44) ⟨rfl, rfl, rfl, rfl, rfl, rfl, rfl, rfl, rfl, trivial⟩ ?_
            · try dsimp only
              have hcb : clashB (sideOf base ck) (sideOf a ck) (sideOf b ck) = true := by simp [clashB, h61, h63, h68]
              have hp : pickL (sideOf base ck) (sideOf a ck) (sideOf b ck) first = (sideOf a ck) := by have hf : first = true := (by simpa using h77); rw [pickL, if_neg h61, if_neg (by simp [h63, h68]), hf]; rfl
              exact ⟨E, o12, o10, by rw [take_snoc hck, clashL_snoc, hcb]; simpa using o11, hap2, zz, by rw [hp]; exact o44.reads encTriple_len, fun x hx => by have := bb44 x hx; omega⟩
        ·
          replace h68 : sideOf a ck = sideOf b ck := by simpa using h68
          refine St.skip ?_
          refine St.then_n ?_
          refine St.meet hK16 (cv, .slice B44 (sideOf a ck).length D44) ⟨rfl, rfl, rfl, rfl, rfl, rfl, rfl, rfl, rfl, trivial⟩ ?_
          · try dsimp only
            have hcb : clashB (sideOf base ck) (sideOf a ck) (sideOf b ck) = false := by simp [clashB, h68]
            have hp : pickL (sideOf base ck) (sideOf a ck) (sideOf b ck) first = (sideOf a ck) := by rw [pickL, if_neg h61, if_pos (.inr h68)]
            exact ⟨E, o12, o10, by rw [take_snoc hck, clashL_snoc, hcb]; simpa using o11, hap, zz, by rw [hp]; exact o44.reads encTriple_len, fun x hx => by have := bb44 x hx; omega⟩
      ·
        refine St.region ?_
        refine St.r (R.move rfl) rfl rfl ?_
        refine St.r (Runs.lit (c := false) (R.not rfl) ((by simpa using h63))) rfl rfl ?_
        refine St.r (R.move rfl) rfl rfl ?_
        refine St.pass (dg := 65) rfl rfl rfl rfl rfl ?_
        refine St.pass (dg := 65) rfl rfl rfl rfl rfl ?_
        refine St.r (R.pickF rfl rfl) rfl rfl ?_
        refine St.nil ?_
        refine St.weak [(0, _), (1, _), (2, _), (3, _), (10, _), (11, _), (12, _), (13, _), (16, _), (20, _), (68, _)] ⟨rfl, rfl, rfl, rfl, rfl, rfl, rfl, rfl, rfl, rfl, rfl, trivial⟩ ?_
        refine St.then_n ?_
        refine St.go hK18 ?_
        clear hK18
        refine St.condF rfl ?_
        refine St.skip ?_
        refine St.then_n ?_
        refine St.meet hK16 (cv, .slice B44 (sideOf a ck).length D44) ⟨rfl, rfl, rfl, rfl, rfl, rfl, rfl, rfl, rfl, trivial⟩ ?_
        · try dsimp only
          have hcb : clashB (sideOf base ck) (sideOf a ck) (sideOf b ck) = false := by have h63 := Decidable.not_not.1 h63; simp [clashB, h63]
          have hp : pickL (sideOf base ck) (sideOf a ck) (sideOf b ck) first = (sideOf a ck) := by rw [pickL, if_neg h61, if_pos (.inl (Decidable.not_not.1 h63))]
          exact ⟨E, o12, o10, by rw [take_snoc hck, clashL_snoc, hcb]; simpa using o11, hap, zz, by rw [hp]; exact o44.reads encTriple_len, fun x hx => by have := bb44 x hx; omega⟩
  ·
    refine St.exit ?_
    refine St.then_x ?_
    refine St.then_x ?_
    refine St.in_x ?_
    refine St.then_n ?_
    refine St.go hK4 ?_
    clear hK4
    refine St.seq fun K21 hK21 => ?_
    refine St.region ?_
    refine St.r (R.move rfl) rfl rfl ?_
    refine St.r (R.move rfl) rfl rfl ?_
    refine St.r (R.assign rfl) rfl rfl ?_
    refine St.r (R.assign rfl) rfl rfl ?_
    refine St.nil ?_
    refine St.weak [(8, _), (9, _)] ⟨rfl, rfl, trivial⟩ ?_
    refine St.then_n ?_
    refine St.go hK21 ?_
    clear hK21
    refine St.ret ?_
    refine St.ret2 Tryz.results33 rfl rfl ?_
    rw [List.take_of_length_le (by omega)] at o10 o11
    exact ⟨_, rfl, _, _, ks, rfl, hIP, o10.lower (by omega), o11.lower (by omega), E⟩

set_option maxHeartbeats 4000000 in
set_option maxRecDepth 100000 in
theorem rPairsD_ret {a b : List Triple} {v0 v1 : Value} (w0 : World) (h0 : RTriples w0 v0 a) (h1 : RTriples w0 v1 b) (n0 : a.length ≤ 1000) (n1 : b.length ≤ 1000) :
    Ret Tryz.prog 38 [v0, v1] w0 fun r w' => ∃ ks, IsPairs [a, b] ks ∧ Own encClash 6 w0.heap.size 176 w' r (diffL a b ks) ∧ Ext w0 w' := by
  obtain ⟨A0, C0, rfl, -, -⟩ := h0.form
  obtain ⟨A1, C1, rfl, -, -⟩ := h1.form
  have E : Ext w0 w0 := Ext.refl w0
  refine St.enter (N := 46) Tryz.func38 rfl Tryz.ntmps38 rfl ?_
  refine St.seq fun K0 hK0 => ?_
  refine St.region ?_
  refine St.r (R.assign rfl) rfl rfl ?_
  refine St.nil ?_
  refine St.weak [(0, _), (1, _)] ⟨rfl, rfl, trivial⟩ ?_
  refine St.then_n ?_
  refine St.go hK0 ?_
  clear hK0
  refine St.seq fun K1 hK1 => ?_
  refine St.region ?_
  refine St.r (R.assign rfl) rfl rfl ?_
  refine St.nil ?_
  refine St.weak [(0, _), (1, _), (5, _)] ⟨rfl, rfl, rfl, trivial⟩ ?_
  refine St.then_n ?_
  refine St.go hK1 ?_
  clear hK1
  refine St.seq fun K2 hK2 => ?_
  refine St.region ?_
  refine St.r (R.move rfl) rfl rfl ?_
  refine St.r (R.move rfl) rfl rfl ?_
  refine St.call rfl rfl ent99 (rUnion_ret _ (h0.ext (REnc.firm _) E) (h1.ext (REnc.firm _) E) (by omega) (by omega)) rfl ?_
  rintro r13 w13 ⟨s1, o13, hs1, e13⟩
  replace E := Ext.trans E e13
  have zE13 := E.size
  refine St.call rfl rfl ent98 (rPairs_ret _ (o13.reads encTriple_len) (by have := hs1.few; simp at this; omega)) rfl ?_
  rintro r14 w14 ⟨ks, o6, hkr, hkm, hkl, e14⟩
  replace E := Ext.trans E e14
  replace o13 := o13.ext e14
  have hIP : IsPairs [a, b] ks := pairs2 hkr (u := s1) (fun x => (hs1.mem x).trans List.mem_append) hkm
  have hk5 : ks.length ≤ 5000 := by have := hs1.few; simp at this; omega
  obtain ⟨KA, KC, rfl, -, -⟩ := o6.form
  have hB6 := fun k hk => (o6.base (k := k) hk).2
  obtain ⟨Z, hZ⟩ : ∃ Z, Z = w14.heap.size := ⟨_, rfl⟩
  rw [← hZ] at hB6
  have zz : Z ≤ w14.heap.size := by omega
  have hZ0 : w0.heap.size ≤ Z := by have := E.size; omega
  replace o6 := o6.lower (base' := w0.heap.size) (by omega)
  refine St.r (R.assign rfl) rfl rfl ?_
  refine St.nil ?_
  refine St.weak [(0, _), (1, _), (5, _), (6, _)] ⟨rfl, rfl, rfl, rfl, trivial⟩ ?_
  refine St.then_n ?_
  refine St.go hK2 ?_
  clear hK2
  refine St.seq fun K3 hK3 => ?_
  refine St.seq fun K4 hK4 => ?_
  refine St.region ?_
  refine St.r (R.assign rfl) rfl rfl ?_
  refine St.nil ?_
  refine St.weak [(0, _), (1, _), (5, _), (6, _), (7, _)] ⟨rfl, rfl, rfl, rfl, rfl, trivial⟩ ?_
  refine St.then_n ?_
  refine St.go hK4 ?_
  clear hK4
  refine St.block ?_
  refine St.loop (fun (x : Nat × Value) => match x with | (k, cv) => [(0, .slice A0 a.length C0), (1, .slice A1 b.length C1), (5, cv), (6, .slice KA ks.length KC), (7, .int .i64 (k : Int))])
      (fun (x : Nat × Value) w => match x with | (k, cv) => k ≤ ks.length ∧ Ext w0 w ∧ Own encClash 6 w0.heap.size 176 w (.slice KA ks.length KC) ks ∧ Own encClash 6 Z 176 w cv (diffL a b (ks.take k)) ∧ Z ≤ w.heap.size)
      (fun (x : Nat × Value) => match x with | (k, cv) => ks.length - k) (0, .slice none 0 0) ⟨rfl, rfl, rfl, rfl, rfl, trivial⟩ ?_ ?_
  · exact ⟨Nat.zero_le _, E, o6, Own.nil _ _ _ _ _, zz⟩
  rintro ⟨k, cv⟩ w ⟨hk, E, o6, o5, zz⟩
  show St _ _ [(0, .slice A0 a.length C0), (1, .slice A1 b.length C1), (5, cv), (6, .slice KA ks.length KC), (7, .int .i64 (k : Int))] _ _
  refine St.seq fun K5 hK5 => ?_
  refine St.seq fun K6 hK6 => ?_
  refine St.region ?_
  refine St.r (R.move rfl) rfl rfl ?_
  refine St.r (R.move rfl) rfl rfl ?_
  refine St.r (R.lenSl Tryz.underlying73 rfl) rfl rfl ?_
  refine St.r (R.lss rfl rfl) rfl rfl ?_
  refine St.nil ?_
  refine St.weak [(0, _), (1, _), (5, _), (6, _), (7, _), (18, _)] ⟨rfl, rfl, rfl, rfl, rfl, rfl, trivial⟩ ?_
  refine St.then_n ?_
  refine St.go hK6 ?_
  clear hK6
  refine St.condD rfl (fun h18 => ?_) (fun h18 => ?_)
  ·
    obtain ⟨ck, hck⟩ := get_of_lt (xs := ks) (k := k) (by omega)
    obtain ⟨kb, ko, rfl, hkc⟩ := (o6.reads encClash_len).get' hck
    have hdl : (diffL a b (ks.take k)).length ≤ ks.length := Nat.le_trans (List.length_filter_le _ _) (by rw [List.length_take]; omega)
    refine St.skip ?_
    refine St.then_n ?_
    refine St.go hK5 ?_
    clear hK5
    refine St.seq fun K7 hK7 => ?_
    refine St.block ?_
    refine St.seq fun K8 hK8 => ?_
    refine St.region ?_
    refine St.r (R.move rfl) rfl rfl ?_
    refine St.r (R.move rfl) rfl rfl ?_
    refine St.r (R.move rfl) rfl rfl ?_
    refine St.r (R.indexS k Tryz.underlying73 Tryz.sizeOf176 rfl rfl rfl (by omega)) rfl rfl ?_
    refine St.r (R.loadA Tryz.isAgg176 Tryz.sizeOf176 rfl ((o6.reads encClash_len).get hck) rfl) rfl rfl ?_
    refine St.call rfl rfl ent100 (rOf_ret (ck := ck) _ (h0.ext (REnc.firm _) E) (by omega)) rfl ?_
    rintro r26 w26 ⟨o26, e26⟩
    replace E := Ext.trans E e26
    replace o6 := o6.ext e26
    replace o5 := o5.ext e26
    replace zz := Nat.le_trans zz (Chg.size e26)
    obtain ⟨B26, D26, rfl, -, -⟩ := o26.form
    have bb26 := fun k hk => (o26.base (k := k) hk).1
    have ze26 := e26.size
    refine St.r (R.assign rfl) rfl rfl ?_
    refine St.nil ?_
    refine St.weak [(0, _), (1, _), (5, _), (6, _), (7, _), (8, _)] ⟨rfl, rfl, rfl, rfl, rfl, rfl, trivial⟩ ?_
    refine St.then_n ?_
    refine St.go hK8 ?_
    clear hK8
    refine St.seq fun K9 hK9 => ?_
    refine St.region ?_
    refine St.r (R.move rfl) rfl rfl ?_
    refine St.r (R.move rfl) rfl rfl ?_
    refine St.r (R.move rfl) rfl rfl ?_
    refine St.r (R.indexS k Tryz.underlying73 Tryz.sizeOf176 rfl rfl rfl (by omega)) rfl rfl ?_
    refine St.r (R.loadA Tryz.isAgg176 Tryz.sizeOf176 rfl ((o6.reads encClash_len).get hck) rfl) rfl rfl ?_
    refine St.call rfl rfl ent100 (rOf_ret (ck := ck) _ (h1.ext (REnc.firm _) E) (by omega)) rfl ?_
    rintro r32 w32 ⟨o32, e32⟩
    replace E := Ext.trans E e32
    replace o6 := o6.ext e32
    replace o5 := o5.ext e32
    replace zz := Nat.le_trans zz (Chg.size e32)
    replace o26 := o26.ext e32
    obtain ⟨B32, D32, rfl, -, -⟩ := o32.form
    have bb32 := fun k hk => (o32.base (k := k) hk).1
    have ze32 := e32.size
    refine St.r (R.assign rfl) rfl rfl ?_
    refine St.nil ?_
    refine St.weak [(0, _), (1, _), (5, _), (6, _), (7, _), (8, _), (9, _)] ⟨rfl, rfl, rfl, rfl, rfl, rfl, rfl, trivial⟩ ?_
    refine St.then_n ?_
    refine St.go hK9 ?_
    clear hK9
    refine St.seq fun K10 hK10 => ?_
    refine St.region ?_
    refine St.r (R.move rfl) rfl rfl ?_
    refine St.r (R.move rfl) rfl rfl ?_
    refine St.call rfl rfl ent101 (rSame_ret _ (o26.reads encTriple_len) (o32.reads encTriple_len)) rfl ?_
    rintro r35 w35 ⟨rfl, e35⟩
    replace E := Ext.trans E e35
    replace o6 := o6.ext e35
    replace o5 := o5.ext e35
    replace zz := Nat.le_trans zz (Chg.size e35)
    replace o26 := o26.ext e35
    replace o32 := o32.ext e35
    have ze35 := e35.size
    refine St.r (R.assign rfl) rfl rfl ?_
    refine St.nil ?_
    refine St.weak [(0, _), (1, _), (5, _), (6, _), (7, _), (10, _)] ⟨rfl, rfl, rfl, rfl, rfl, rfl, trivial⟩ ?_
    refine St.then_n ?_
    refine St.go hK10 ?_
    clear hK10
    refine St.seq fun K11 hK11 => ?_
    refine St.region ?_
    refine St.r (R.move rfl) rfl rfl ?_
    refine St.r (R.not rfl) rfl rfl ?_
    refine St.nil ?_
    refine St.weak [(0, _), (1, _), (5, _), (6, _), (7, _), (37, _)] ⟨rfl, rfl, rfl, rfl, rfl, rfl, trivial⟩ ?_
    refine St.then_n ?_
    refine St.go hK11 ?_
    clear hK11
    refine St.cond rfl (fun h37 => ?_) (fun h37 => ?_)
    ·
      replace h37 : ¬ sideOf a ck = sideOf b ck := by simpa using h37
      refine St.region ?_
      refine St.r (R.move rfl) rfl rfl ?_
      refine St.r (R.move rfl) rfl rfl ?_
      refine St.r (R.move rfl) rfl rfl ?_
      refine St.r (R.indexS k Tryz.underlying73 Tryz.sizeOf176 rfl rfl rfl (by omega)) rfl rfl ?_
      refine St.r (R.loadA Tryz.isAgg176 Tryz.sizeOf176 rfl ((o6.reads encClash_len).get hck) rfl) rfl rfl ?_
      refine St.buildSl Tryz.underlying73 Tryz.sizeOf176 Tryz.zeroValue176 rfl rfl rfl rfl (by intro u hu; simp only [List.mem_cons, List.not_mem_nil, or_false] at hu; first | (subst hu; rfl) | (rcases hu with rfl | rfl <;> rfl) | (rcases hu with rfl | rfl | rfl <;> rfl) | (rcases hu with rfl | rfl | rfl | rfl <;> rfl)) rfl ?_
      intro w43 b43 hb43 hs43 e43 k43
      have qE43 := E.size
      replace E := Ext.trans E e43
      replace o6 := o6.ext e43
      replace o5 := o5.ext e43
      replace zz := Nat.le_trans zz (Chg.size e43)
      replace o26 := o26.ext e43
      replace o32 := o32.ext e43
      refine St.append (enc := encClash) (fun _ => rfl) one_clash Tryz.underlying73 info176 rfl rfl rfl rfl o5 (RSl.mk (enc := encClash) (xs := [ck]) encClash_len k43.cells (fun i u hu => hu) (by simp) (by simp)) (by simp; omega) (by simp; omega) (by omega) rfl ?_
      intro v44 w44 a44 g44 at44
      replace E := Ext.then E g44 (by intro j hj hk; have := (o5.base hk).1; omega)
      replace o6 := o6.chg g44 (fun k hk e => by have := hB6 k hk; have := (o5.base e).1; omega)
      replace zz := Nat.le_trans zz (Chg.size g44)
      clear o5; have o5 := a44; clear a44
      refine St.r (R.assign rfl) rfl rfl ?_
      refine St.nil ?_
      refine St.weak [(0, _), (1, _), (5, _), (6, _), (7, _)] ⟨rfl, rfl, rfl, rfl, rfl, trivial⟩ ?_
      refine St.in_n ?_
      refine St.then_n ?_
      refine St.go hK7 ?_
      clear hK7
      refine St.region ?_
      refine St.r (R.move rfl) rfl rfl ?_
      refine St.r (R.add rfl rfl (by omega) (by omega)) rfl rfl ?_
      refine St.r (R.assign rfl) rfl rfl ?_
      refine St.nil ?_
      refine St.weak [(0, _), (1, _), (5, _), (6, _), (7, _)] ⟨rfl, rfl, rfl, rfl, rfl, trivial⟩ ?_
      refine St.then_n ?_
      refine St.round (k + 1, v44) ⟨rfl, rfl, rfl, rfl, rfl, trivial⟩ ?_ ?_
      · try dsimp only
        exact ⟨by omega, E, o6, by rw [take_snoc hck, diffL_snoc, if_neg h37]; exact o5, zz⟩
      · try dsimp only
        omega
    ·
      replace h37 : sideOf a ck = sideOf b ck := by simpa using h37
      refine St.skip ?_
      refine St.in_n ?_
      refine St.then_n ?_
      refine St.go hK7 ?_
      clear hK7
      refine St.region ?_
      refine St.r (R.move rfl) rfl rfl ?_
      refine St.r (R.add rfl rfl (by omega) (by omega)) rfl rfl ?_
      refine St.r (R.assign rfl) rfl rfl ?_
      refine St.nil ?_
      refine St.weak [(0, _), (1, _), (5, _), (6, _), (7, _)] ⟨rfl, rfl, rfl, rfl, rfl, trivial⟩ ?_
      refine St.then_n ?_
      refine St.round (k + 1, cv) ⟨rfl, rfl, rfl, rfl, rfl, trivial⟩ ?_ ?_
      · try dsimp only
        exact ⟨by omega, E, o6, by rw [take_snoc hck, diffL_snoc, if_pos h37, List.append_nil]; exact o5, zz⟩
      · try dsimp only
        omega
  ·
    refine St.exit ?_
    refine St.then_x ?_
    refine St.then_x ?_
    refine St.in_x ?_
    refine St.then_n ?_
    refine St.go hK3 ?_
    clear hK3
    refine St.seq fun K12 hK12 => ?_
    refine St.region ?_
    refine St.r (R.move rfl) rfl rfl ?_
    refine St.r (R.assign rfl) rfl rfl ?_
    refine St.nil ?_
    refine St.weak [(4, _)] ⟨rfl, trivial⟩ ?_
    refine St.then_n ?_
    refine St.go hK12 ?_
    clear hK12
    refine St.ret ?_
    refine St.ret1 Tryz.results38 rfl ?_
    rw [List.take_of_length_le (by omega)] at o5
    exact ⟨_, rfl, ks, hIP, o5.lower (by omega), E⟩


def preferL (base a b : List Triple) (first : Bool) (ks : List Clash) : List Triple × Option Int := match rightErr [base, a, b] with
  | some e => ([], some e)
  | none => if 200 < (outL base a b first ks).length then ([], some 4) else (outL base a b first ks, none)

theorem Prefer_ret {base a b : List Triple} {v0 v1 v2 : Value} {first : Bool} (w0 : World) (h0 : RTriples w0 v0 base) (h1 : RTriples w0 v1 a) (h2 : RTriples w0 v2 b) :
    Ret Tryz.prog 37 [v0, v1, v2, .bool first] w0 fun r w' => ∃ x ks, r = .tuple #[x, errV 119 (preferL base a b first ks).2] ∧ (rightErr [base, a, b] = none → IsPairs [base, a, b] ks) ∧ RTriples w' x (preferL base a b first ks).1 ∧ Ext w0 w' := by
  obtain ⟨A0, C0, rfl, -, -⟩ := h0.form
  obtain ⟨A1, C1, rfl, -, -⟩ := h1.form
  obtain ⟨A2, C2, rfl, -, -⟩ := h2.form
  have E : Ext w0 w0 := Ext.refl w0
  refine St.enter (N := 34) Tryz.func37 rfl Tryz.ntmps37 rfl ?_
  refine St.seq fun K0 hK0 => ?_
  refine St.region ?_
  refine St.r (R.assign rfl) rfl rfl ?_
  refine St.r (R.assign rfl) rfl rfl ?_
  refine St.nil ?_
  refine St.weak [(0, _), (1, _), (2, _), (3, _)] ⟨rfl, rfl, rfl, rfl, trivial⟩ ?_
  refine St.then_n ?_
  refine St.go hK0 ?_
  clear hK0
  refine St.seq fun K1 hK1 => ?_
  refine St.seq fun K2 hK2 => ?_
  refine St.region ?_
  refine St.r (R.move rfl) rfl rfl ?_
  refine St.r (R.move rfl) rfl rfl ?_
  refine St.r (R.move rfl) rfl rfl ?_
  refine St.buildSl Tryz.underlying53 Tryz.sizeOf22 Tryz.zeroValue22 rfl rfl rfl rfl (by intro u hu; simp only [List.mem_cons, List.not_mem_nil, or_false] at hu; first | (subst hu; rfl) | (rcases hu with rfl | rfl <;> rfl) | (rcases hu with rfl | rfl | rfl <;> rfl) | (rcases hu with rfl | rfl | rfl | rfl <;> rfl)) rfl ?_
  intro w16 b16 hb16 hs16 e16 k16
  have qE16 := E.size
  replace E := Ext.trans E e16
  refine St.call rfl rfl ent102 (Right_ret _ (RTL.three k16 (h0.ext (REnc.firm _) E) (h1.ext (REnc.firm _) E) (h2.ext (REnc.firm _) E))) rfl ?_
  rintro r17 w17 ⟨rfl, e17⟩
  replace E := Ext.trans E e17
  refine St.r (R.assign rfl) rfl rfl ?_
  refine St.nil ?_
  refine St.weak [(0, _), (1, _), (2, _), (3, _), (10, _)] ⟨rfl, rfl, rfl, rfl, rfl, trivial⟩ ?_
  refine St.then_n ?_
  refine St.go hK2 ?_
  clear hK2
  refine St.seq fun K3 hK3 => ?_
  refine St.region ?_
  refine St.r (R.move rfl) rfl rfl ?_
  refine St.r (R.notNil (et := 119) (e := _) Tryz.underlying32 rfl) rfl rfl ?_
  refine St.nil ?_
  refine St.weak [(0, _), (1, _), (2, _), (3, _), (10, _), (19, _)] ⟨rfl, rfl, rfl, rfl, rfl, rfl, trivial⟩ ?_
  refine St.then_n ?_
  refine St.go hK3 ?_
  clear hK3
  refine St.cond rfl (fun h19 => ?_) (fun h19 => ?_)
  ·
    obtain ⟨er, her⟩ := Option.isSome_iff_exists.1 h19
    refine St.seq fun K4 hK4 => ?_
    refine St.region ?_
    refine St.r (R.move rfl) rfl rfl ?_
    refine St.r (R.assign rfl) rfl rfl ?_
    refine St.r (R.assign rfl) rfl rfl ?_
    refine St.nil ?_
    refine St.weak [(8, _), (9, _)] ⟨rfl, rfl, trivial⟩ ?_
    refine St.then_n ?_
    refine St.go hK4 ?_
    clear hK4
    refine St.ret ?_
    refine St.then_r ?_
    refine St.ret2 Tryz.results37 rfl rfl ?_
    have hm : preferL base a b first [] = ([], some er) := by simp only [preferL, her]
    exact ⟨_, rfl, _, [], by rw [hm, her], fun h => (by rw [h] at her; cases her), by rw [hm]; exact RSl.nil _ _ _, E⟩
  ·
    have hR := isSome_false h19
    have s0 := (right_all hR base (by simp)).few
    have s1 := (right_all hR a (by simp)).few
    have s2 := (right_all hR b (by simp)).few
    refine St.skip ?_
    refine St.then_n ?_
    refine St.go hK1 ?_
    clear hK1
    refine St.seq fun K5 hK5 => ?_
    refine St.region ?_
    refine St.r (R.move rfl) rfl rfl ?_
    refine St.r (R.move rfl) rfl rfl ?_
    refine St.r (R.move rfl) rfl rfl ?_
    refine St.r (R.move rfl) rfl rfl ?_
    refine St.call rfl rfl ent103 (three_ret _ (h0.ext (REnc.firm _) E) (h1.ext (REnc.firm _) E) (h2.ext (REnc.firm _) E) (by omega) (by omega) (by omega)) rfl ?_
    rintro r26 w26 ⟨p, q, ks, rfl, hIP, op, oq, e26⟩
    replace E := Ext.trans E e26
    obtain ⟨PA, PC, rfl, -, -⟩ := op.form
    obtain ⟨QA, QC, rfl, -, -⟩ := oq.form
    refine St.r (R.move rfl) rfl rfl ?_
    refine St.r (R.extract rfl rfl) rfl rfl ?_
    refine St.r (R.extract rfl rfl) rfl rfl ?_
    refine St.r (R.assign rfl) rfl rfl ?_
    refine St.r (R.assign rfl) rfl rfl ?_
    refine St.nil ?_
    refine St.weak [(11, _)] ⟨rfl, trivial⟩ ?_
    refine St.then_n ?_
    refine St.go hK5 ?_
    clear hK5
    refine St.seq fun K6 hK6 => ?_
    refine St.seq fun K7 hK7 => ?_
    refine St.region ?_
    refine St.r (R.move rfl) rfl rfl ?_
    refine St.r (R.lenSl Tryz.underlying22 rfl) rfl rfl ?_
    refine St.r (R.gtr rfl rfl) rfl rfl ?_
    refine St.nil ?_
    refine St.weak [(11, _), (31, _)] ⟨rfl, rfl, trivial⟩ ?_
    refine St.then_n ?_
    refine St.go hK7 ?_
    clear hK7
    refine St.condD rfl (fun h31 => ?_) (fun h31 => ?_)
    ·
      refine St.seq fun K8 hK8 => ?_
      refine St.region ?_
      refine St.r (R.iface Tryz.underlying119 rfl rfl) rfl rfl ?_
      refine St.r (R.assign rfl) rfl rfl ?_
      refine St.r (R.assign rfl) rfl rfl ?_
      refine St.nil ?_
      refine St.weak [(8, _), (9, _)] ⟨rfl, rfl, trivial⟩ ?_
      refine St.then_n ?_
      refine St.go hK8 ?_
      clear hK8
      refine St.ret ?_
      refine St.then_r ?_
      refine St.ret2 Tryz.results37 rfl rfl ?_
      have hm : preferL base a b first ks = ([], some 4) := by simp only [preferL, hR]; rw [if_pos (by omega)]
      exact ⟨_, rfl, _, ks, by rw [hm]; rfl, fun _ => hIP, by rw [hm]; exact RSl.nil _ _ _, E⟩
    ·
      refine St.skip ?_
      refine St.then_n ?_
      refine St.go hK6 ?_
      clear hK6
      refine St.seq fun K9 hK9 => ?_
      refine St.region ?_
      refine St.r (R.move rfl) rfl rfl ?_
      refine St.r (R.assign rfl) rfl rfl ?_
      refine St.r (R.assign rfl) rfl rfl ?_
      refine St.nil ?_
      refine St.weak [(8, _), (9, _)] ⟨rfl, rfl, trivial⟩ ?_
      refine St.then_n ?_
      refine St.go hK9 ?_
      clear hK9
      refine St.ret ?_
      refine St.ret2 Tryz.results37 rfl rfl ?_
      have hm : preferL base a b first ks = (outL base a b first ks, none) := by simp only [preferL, hR]; rw [if_neg (by omega)]
      exact ⟨_, rfl, _, ks, by rw [hm]; rfl, fun _ => hIP, by rw [hm]; exact op.reads encTriple_len, E⟩

theorem clh_IndexFunc {xs : List Clash} {v : Value} {g : FuncId} {caps : Array Value} {p : Clash → Bool} (w0 : World) (hv : RSl (REnc encClash) 6 w0 v xs) (he : Ent Tryz.prog g)
    (hp : ∀ W x, Ext w0 W → x ∈ xs → Ret Tryz.prog g ([.agg (encClash x).toArray] ++ caps.toList) W fun r W' => r = .bool (p x) ∧ Ext W W') :
    Ret Tryz.prog 162 [v, .func (.func g) #[] caps] w0 fun r w' => r = .int .i64 (idxOf p xs) ∧ Ext w0 w' := by
  obtain ⟨A, c, rfl, hc1, hc2⟩ := hv.form
  have E : Ext w0 w0 := Ext.refl w0
  refine St.enter (N := 19) Tryz.func162 rfl Tryz.ntmps162 rfl ?_
  refine St.seq fun K0 hK0 => ?_
  refine St.region ?_
  refine St.r (R.assign rfl) rfl rfl ?_
  refine St.nil ?_
  refine St.weak [(0, _), (1, _)] ⟨rfl, rfl, trivial⟩ ?_
  refine St.then_n ?_
  refine St.go hK0 ?_
  clear hK0
  refine St.seq fun K1 hK1 => ?_
  refine St.seq fun K2 hK2 => ?_
  refine St.region ?_
  refine St.r (R.move rfl) rfl rfl ?_
  refine St.r (R.lenSl Tryz.underlying73 rfl) rfl rfl ?_
  refine St.r (R.move rfl) rfl rfl ?_
  refine St.nil ?_
  refine St.weak [(0, _), (1, _), (7, _), (8, _)] ⟨rfl, rfl, rfl, rfl, trivial⟩ ?_
  refine St.then_n ?_
  refine St.go hK2 ?_
  clear hK2
  refine St.block ?_
  refine St.loop (fun (k : Nat) => [(0, .slice A xs.length c), (1, .func (.func g) #[] caps), (7, .int .i64 (xs.length : Int)), (8, .int .i64 (k : Int))])
      (fun (k : Nat) w => k ≤ xs.length ∧ Ext w0 w ∧ ∀ y ∈ xs.take k, p y = false)
      (fun (k : Nat) => xs.length - k) 0 ⟨rfl, rfl, rfl, rfl, trivial⟩ ?_ ?_
  · exact ⟨Nat.zero_le _, E, by simp⟩
  rintro k w ⟨hk, E, hall⟩
  show St _ _ [(0, .slice A xs.length c), (1, .func (.func g) #[] caps), (7, .int .i64 (xs.length : Int)), (8, .int .i64 (k : Int))] _ _
  refine St.seq fun K3 hK3 => ?_
  refine St.region ?_
  refine St.r (R.lss rfl rfl) rfl rfl ?_
  refine St.nil ?_
  refine St.weak [(0, _), (1, _), (7, _), (8, _), (9, _)] ⟨rfl, rfl, rfl, rfl, rfl, trivial⟩ ?_
  refine St.then_n ?_
  refine St.go hK3 ?_
  clear hK3
  refine St.seq fun K4 hK4 => ?_
  refine St.condD rfl (fun h9 => ?_) (fun h9 => ?_)
  ·
    obtain ⟨x, hx⟩ := get_of_lt (xs := xs) (k := k) (by omega)
    obtain ⟨b, o, c', heq, -, -, hcell⟩ := hv.at (by omega)
    cases heq
    obtain ⟨cs, -, hx', rfl⟩ := hcell k x hx
    refine St.skip ?_
    refine St.then_n ?_
    refine St.go hK4 ?_
    clear hK4
    refine St.seq fun K5 hK5 => ?_
    refine St.block ?_
    refine St.seq fun K6 hK6 => ?_
    refine St.region ?_
    refine St.r (R.move rfl) rfl rfl ?_
    refine St.r (R.assign rfl) rfl rfl ?_
    refine St.nil ?_
    refine St.weak [(0, _), (1, _), (5, _), (7, _), (8, _)] ⟨rfl, rfl, rfl, rfl, rfl, trivial⟩ ?_
    refine St.then_n ?_
    refine St.go hK6 ?_
    clear hK6
    refine St.seq fun K7 hK7 => ?_
    refine St.region ?_
    refine St.r (R.move rfl) rfl rfl ?_
    refine St.r (R.move rfl) rfl rfl ?_
    refine St.r (R.move rfl) rfl rfl ?_
    refine St.r (R.indexS _ Tryz.underlying73 Tryz.sizeOf176 rfl rfl rfl (by omega)) rfl rfl ?_
    refine St.r (R.loadA Tryz.isAgg176 Tryz.sizeOf176 rfl (E.cells hx') rfl) rfl rfl ?_
    refine St.call rfl rfl he (hp _ x E (List.mem_of_getElem? hx)) rfl ?_
    rintro r16 w16 ⟨rfl, e16⟩
    replace E := Ext.trans E e16
    refine St.nil ?_
    refine St.weak [(0, _), (1, _), (5, _), (7, _), (8, _), (16, _)] ⟨rfl, rfl, rfl, rfl, rfl, rfl, trivial⟩ ?_
    refine St.then_n ?_
    refine St.go hK7 ?_
    clear hK7
    refine St.cond rfl (fun h16 => ?_) (fun h16 => ?_)
    ·
      refine St.seq fun K8 hK8 => ?_
      refine St.region ?_
      refine St.r (R.move rfl) rfl rfl ?_
      refine St.r (R.assign rfl) rfl rfl ?_
      refine St.nil ?_
      refine St.weak [(4, _)] ⟨rfl, trivial⟩ ?_
      refine St.then_n ?_
      refine St.go hK8 ?_
      clear hK8
      refine St.ret ?_
      refine St.in_r ?_
      refine St.then_r ?_
      refine St.then_r ?_
      refine St.in_r ?_
      refine St.then_r ?_
      refine St.ret1 Tryz.results162 rfl ?_
      exact ⟨_, rfl, by rw [idxOf_found hx h16 hall], E⟩
    ·
      refine St.skip ?_
      refine St.in_n ?_
      refine St.then_n ?_
      refine St.go hK5 ?_
      clear hK5
      refine St.region ?_
      refine St.r (R.add rfl rfl (by omega) (by omega)) rfl rfl ?_
      refine St.r (R.move rfl) rfl rfl ?_
      refine St.nil ?_
      refine St.weak [(0, _), (1, _), (7, _), (8, _)] ⟨rfl, rfl, rfl, rfl, trivial⟩ ?_
      refine St.then_n ?_
      refine St.round (k + 1) ⟨rfl, rfl, rfl, rfl, trivial⟩ ?_ ?_
      · refine ⟨by omega, E, ?_⟩
        rw [take_snoc hx]
        intro y hy
        rcases List.mem_append.1 hy with hy | hy
        · exact hall y hy
        · rw [List.mem_singleton] at hy; subst hy; exact h16
      · omega
  ·
    refine St.exit ?_
    refine St.then_x ?_
    refine St.then_x ?_
    refine St.in_x ?_
    refine St.then_n ?_
    refine St.go hK1 ?_
    clear hK1
    refine St.seq fun K9 hK9 => ?_
    refine St.region ?_
    refine St.r (R.assign rfl) rfl rfl ?_
    refine St.nil ?_
    refine St.weak [(4, _)] ⟨rfl, trivial⟩ ?_
    refine St.then_n ?_
    refine St.go hK9 ?_
    clear hK9
    refine St.ret ?_
    refine St.ret1 Tryz.results162 rfl ?_
    exact ⟨_, rfl, by rw [idxOf_none (fun x hx => hall x (by rw [List.take_of_length_le (by omega)]; exact hx))], E⟩

theorem clh_DeleteFunc {xs : List Clash} {v : Value} {g : FuncId} {caps : Array Value} {p : Clash → Bool} {base : Nat} (w0 : World) (ho : Own encClash 6 base 176 w0 v xs) (he : Ent Tryz.prog g)
    (hp : ∀ W x, Chg (fun k => v.ownBlock = some k) w0 W → x ∈ xs → Ret Tryz.prog g ([.agg (encClash x).toArray] ++ caps.toList) W fun r W' => r = .bool (p x) ∧ Ext W W') :
    Ret Tryz.prog 105 [v, .func (.func g) #[] caps] w0 fun r w' => Own encClash 6 base 176 w' r (xs.filter fun x => !p x) ∧ Chg (fun k => v.ownBlock = some k) w0 w' := by
  refine St.enter (N := 42) Tryz.func105 rfl Tryz.ntmps105 rfl ?_
  refine St.seq fun K0 hK0 => ?_
  refine St.region ?_
  refine St.r (R.assign rfl) rfl rfl ?_
  refine St.nil ?_
  refine St.weak [(0, _), (1, _)] ⟨rfl, rfl, trivial⟩ ?_
  refine St.then_n ?_
  refine St.go hK0 ?_
  clear hK0
  refine St.seq fun K1 hK1 => ?_
  refine St.region ?_
  refine St.r (R.move rfl) rfl rfl ?_
  refine St.r (R.move rfl) rfl rfl ?_
  refine St.call rfl rfl ent162 (clh_IndexFunc w0 (ho.reads encClash_len) he (fun W x eW hx => hp W x (Chg.mono eW fun _ _ h => h.elim) hx)) rfl ?_
  rintro r10 w10 ⟨rfl, e10⟩
  have C : Chg (fun k => v.ownBlock = some k) w0 w10 := Chg.mono e10 fun _ _ h => h.elim
  refine St.r (R.assign rfl) rfl rfl ?_
  refine St.nil ?_
  refine St.weak [(0, _), (1, _), (5, _)] ⟨rfl, rfl, rfl, trivial⟩ ?_
  refine St.then_n ?_
  refine St.go hK1 ?_
  clear hK1
  refine St.seq fun K2 hK2 => ?_
  refine St.seq fun K3 hK3 => ?_
  refine St.region ?_
  refine St.r (R.move rfl) rfl rfl ?_
  refine St.r (R.eql rfl rfl) rfl rfl ?_
  refine St.nil ?_
  refine St.weak [(0, _), (1, _), (5, _), (12, _)] ⟨rfl, rfl, rfl, rfl, trivial⟩ ?_
  refine St.then_n ?_
  refine St.go hK3 ?_
  clear hK3
  refine St.condD rfl (fun h12 => ?_) (fun h12 => ?_)
  ·
    have hno : ∀ x ∈ xs, p x = false := by
      rcases idxOf_cases p xs with ⟨_, h⟩ | ⟨k, x, h, _⟩
      · exact h
      · omega
    have hfil : (xs.filter fun x => !p x) = xs := List.filter_eq_self.2 (fun x hx => by rw [hno x hx]; rfl)
    refine St.seq fun K4 hK4 => ?_
    refine St.region ?_
    refine St.r (R.move rfl) rfl rfl ?_
    refine St.r (R.assign rfl) rfl rfl ?_
    refine St.nil ?_
    refine St.weak [(4, _)] ⟨rfl, trivial⟩ ?_
    refine St.then_n ?_
    refine St.go hK4 ?_
    clear hK4
    refine St.ret ?_
    refine St.then_r ?_
    refine St.ret1 Tryz.results105 rfl ?_
    exact ⟨_, rfl, by rw [hfil]; exact ho.ext e10, C⟩
  ·
    obtain ⟨i0, x0, hi1, hx0, hpx0, hi2⟩ : ∃ (k : Nat) (x : Clash), idxOf p xs = (k : Int) ∧ xs[k]? = some x ∧ p x = true ∧ ∀ y ∈ xs.take k, p y = false := by
      rcases idxOf_cases p xs with ⟨h, _⟩ | h
      · omega
      · exact h
    have hn0 := lt_of_get hx0
    obtain ⟨gb, c, sp, rfl, hgb, kS, hc1, hc2, hlen⟩ := ho.blk (by omega)
    rw [hi1]
    have C' : Chg (fun k => k = gb) w0 w10 := Chg.mono e10 fun _ _ h => h.elim
    replace kS := kS.ext e10
    refine St.skip ?_
    refine St.then_n ?_
    refine St.go hK2 ?_
    clear hK2
    refine St.seq fun K5 hK5 => ?_
    refine St.seq fun K6 hK6 => ?_
    refine St.region ?_
    refine St.r (R.move rfl) rfl rfl ?_
    refine St.r (R.add rfl rfl (by omega) (by omega)) rfl rfl ?_
    refine St.r (R.assign rfl) rfl rfl ?_
    refine St.nil ?_
    refine St.weak [(0, _), (1, _), (5, _), (6, _)] ⟨rfl, rfl, rfl, rfl, trivial⟩ ?_
    refine St.then_n ?_
    refine St.go hK6 ?_
    clear hK6
    refine St.block ?_
    refine St.loop (fun (x : Nat × Nat × List Clash) => match x with | (j, i, ys) => [(0, .slice (some ⟨gb, 0, none⟩) xs.length c), (1, .func (.func g) #[] caps), (5, .int .i64 (i : Int)), (6, .int .i64 (j : Int))])
        (fun (x : Nat × Nat × List Clash) w => match x with | (j, i, ys) => i < j ∧ j ≤ xs.length ∧ ys.length = xs.length ∧ (ys.take i = (xs.take j).filter fun x => !p x) ∧ ys.drop j = xs.drop j ∧ Chg (fun k => k = gb) w0 w ∧ Blk w gb 176 (ys.flatMap encClash ++ sp))
        (fun (x : Nat × Nat × List Clash) => match x with | (j, i, ys) => xs.length - j) (i0 + 1, i0, xs) ⟨rfl, rfl, rfl, rfl, trivial⟩ ?_ ?_
    · refine ⟨by omega, by omega, rfl, ?_, rfl, C', kS⟩
      rw [take_snoc hx0, filter_snoc, hpx0]
      simp only [Bool.not_true, Bool.false_eq_true, if_false, List.append_nil]
      exact (List.filter_eq_self.2 (fun x hx => by rw [hi2 x hx]; rfl)).symm
    rintro ⟨j, i, ys⟩ w ⟨hij, hjn, hys, htk, hdr, C, kS⟩
    show St _ _ [(0, .slice (some ⟨gb, 0, none⟩) xs.length c), (1, .func (.func g) #[] caps), (5, .int .i64 (i : Int)), (6, .int .i64 (j : Int))] _ _
    refine St.seq fun K7 hK7 => ?_
    refine St.seq fun K8 hK8 => ?_
    refine St.region ?_
    refine St.r (R.move rfl) rfl rfl ?_
    refine St.r (R.move rfl) rfl rfl ?_
    refine St.r (R.lenSl Tryz.underlying73 rfl) rfl rfl ?_
    refine St.r (R.lss rfl rfl) rfl rfl ?_
    refine St.nil ?_
    refine St.weak [(0, _), (1, _), (5, _), (6, _), (19, _)] ⟨rfl, rfl, rfl, rfl, rfl, trivial⟩ ?_
    refine St.then_n ?_
    refine St.go hK8 ?_
    clear hK8
    refine St.condD rfl (fun h19 => ?_) (fun h19 => ?_)
    ·
      obtain ⟨x, hx⟩ := get_of_lt (xs := xs) (k := j) (by omega)
      have hyx : ys[j]? = some x := by
        have h := congrArg (fun l => l[0]?) hdr
        simp only [List.getElem?_drop, Nat.add_zero] at h
        rw [h, hx]
      have hgl := kS.lt
      have hcz := C.size
      refine St.skip ?_
      refine St.then_n ?_
      refine St.go hK7 ?_
      clear hK7
      refine St.seq fun K9 hK9 => ?_
      refine St.block ?_
      refine St.seq fun K10 hK10 => ?_
      refine St.region ?_
      refine St.r (R.move rfl) rfl rfl ?_
      refine St.r (R.move rfl) rfl rfl ?_
      refine St.r (R.indexS _ Tryz.underlying73 Tryz.sizeOf176 rfl rfl rfl (by omega)) rfl rfl ?_
      refine St.r (R.loadA Tryz.isAgg176 Tryz.sizeOf176 rfl (kS.elem encClash_len hyx) rfl) rfl rfl ?_
      refine St.alloc Tryz.zeroValue176 rfl ?_
      intro w7 b7 hb7 hs7 e7 k7
      replace kS := kS.ext e7
      replace C := C.then e7 (fun _ _ h => h.elim)
      refine St.store Tryz.sizeOf176 rfl rfl k7 rfl (by simp [Value.cells, encClash]) (one_clash x) ?_
      intro ws0 ks0 gs0 zs0
      replace kS := kS.chg gs0 (by omega)
      clear k7; have k7 := ks0; clear ks0
      replace k7 : Blk ws0 b7 176 (encClash x) := k7
      replace C := C.then gs0 (fun k hk h => by omega)
      refine St.nil ?_
      refine St.weak [(0, _), (1, _), (5, _), (6, _), (7, _)] ⟨rfl, rfl, rfl, rfl, rfl, trivial⟩ ?_
      refine St.then_n ?_
      refine St.go hK10 ?_
      clear hK10
      refine St.seq fun K11 hK11 => ?_
      refine St.region ?_
      refine St.r (R.move rfl) rfl rfl ?_
      refine St.r (R.loadA Tryz.isAgg176 Tryz.sizeOf176 rfl k7.cells rfl) rfl rfl ?_
      refine St.call rfl rfl he (hp _ x (Chg.mono C fun _ _ h => by subst h; rfl) (List.mem_of_getElem? hx)) rfl ?_
      rintro r28 w28 ⟨rfl, e28⟩
      replace kS := kS.ext e28
      replace k7 := k7.ext e28
      refine St.r (R.not rfl) rfl rfl ?_
      refine St.nil ?_
      refine St.weak [(0, _), (1, _), (5, _), (6, _), (7, _), (29, _)] ⟨rfl, rfl, rfl, rfl, rfl, rfl, trivial⟩ ?_
      refine St.then_n ?_
      refine St.go hK11 ?_
      clear hK11
      refine St.cond rfl (fun h29 => ?_) (fun h29 => ?_)
      ·
        have hpx : p x = false := by cases h : p x <;> simp [h] at h29 <;> rfl
        refine St.seq fun K12 hK12 => ?_
        refine St.region ?_
        refine St.r (R.move rfl) rfl rfl ?_
        refine St.r (R.move rfl) rfl rfl ?_
        refine St.r (R.loadA Tryz.isAgg176 Tryz.sizeOf176 rfl k7.cells rfl) rfl rfl ?_
        refine St.r (R.indexS _ Tryz.underlying73 Tryz.sizeOf176 rfl rfl rfl (by omega)) rfl rfl ?_
        refine St.store Tryz.sizeOf176 rfl rfl kS rfl (by simp only [List.length_append, flat_length encClash_len]; simp [Value.cells, encClash]; omega) (one_clash x) ?_
        intro ws1 ks1 gs1 zs1
        replace k7 := k7.chg gs1 (by omega)
        clear kS; have kS := ks1; clear ks1
        refine St.nil ?_
        refine St.weak [(0, _), (1, _), (5, _), (6, _)] ⟨rfl, rfl, rfl, rfl, trivial⟩ ?_
        refine St.then_n ?_
        refine St.go hK12 ?_
        clear hK12
        refine St.region ?_
        refine St.r (R.move rfl) rfl rfl ?_
        refine St.r (R.add rfl rfl (by omega) (by omega)) rfl rfl ?_
        refine St.r (R.assign rfl) rfl rfl ?_
        refine St.nil ?_
        refine St.weak [(0, _), (1, _), (5, _), (6, _)] ⟨rfl, rfl, rfl, rfl, trivial⟩ ?_
        refine St.in_n ?_
        refine St.then_n ?_
        refine St.go hK9 ?_
        clear hK9
        refine St.region ?_
        refine St.r (R.move rfl) rfl rfl ?_
        refine St.r (R.add rfl rfl (by omega) (by omega)) rfl rfl ?_
        refine St.r (R.assign rfl) rfl rfl ?_
        refine St.nil ?_
        refine St.weak [(0, _), (1, _), (5, _), (6, _)] ⟨rfl, rfl, rfl, rfl, trivial⟩ ?_
        refine St.then_n ?_
        refine St.round (j + 1, i + 1, ys.set i x) ⟨rfl, rfl, rfl, rfl, trivial⟩ ?_ ?_
        · try dsimp only
          have hd1 : (ys.set i x).drop (j + 1) = xs.drop (j + 1) := by
            rw [List.drop_set_of_lt (by omega), ← List.drop_drop, hdr, List.drop_drop]
          refine ⟨by omega, by omega, by rw [List.length_set]; exact hys, ?_, hd1, (C.then e28 (fun _ _ h => h.elim)).trans gs1, ?_⟩
          · rw [List.take_succ_eq_append_getElem (by rw [List.length_set]; omega), List.take_set_of_le (Nat.le_refl _), htk, take_snoc hx, filter_snoc, hpx]
            simp
          · have h := kS
            rw [Nat.zero_add] at h
            rw [← splice_flat encClash_len (by omega)]
            exact h
        · try dsimp only
          omega
      ·
        have hpx : p x = true := by cases h : p x <;> simp [h] at h29 <;> rfl
        refine St.skip ?_
        refine St.in_n ?_
        refine St.then_n ?_
        refine St.go hK9 ?_
        clear hK9
        refine St.region ?_
        refine St.r (R.move rfl) rfl rfl ?_
        refine St.r (R.add rfl rfl (by omega) (by omega)) rfl rfl ?_
        refine St.r (R.assign rfl) rfl rfl ?_
        refine St.nil ?_
        refine St.weak [(0, _), (1, _), (5, _), (6, _)] ⟨rfl, rfl, rfl, rfl, trivial⟩ ?_
        refine St.then_n ?_
        refine St.round (j + 1, i, ys) ⟨rfl, rfl, rfl, rfl, trivial⟩ ?_ ?_
        · try dsimp only
          have hd1 : ys.drop (j + 1) = xs.drop (j + 1) := by rw [← List.drop_drop, hdr, List.drop_drop]
          refine ⟨by omega, by omega, hys, ?_, hd1, C.then e28 (fun _ _ h => h.elim), kS⟩
          rw [htk, take_snoc hx, filter_snoc, hpx]
          simp
        · try dsimp only
          omega
    ·
      obtain rfl : j = xs.length := by omega
      rw [List.take_length] at htk
      refine St.exit ?_
      refine St.then_x ?_
      refine St.then_x ?_
      refine St.in_x ?_
      refine St.then_n ?_
      refine St.go hK5 ?_
      clear hK5
      refine St.seq fun K13 hK13 => ?_
      refine St.region ?_
      refine St.r (R.move rfl) rfl rfl ?_
      refine St.r (R.move rfl) rfl rfl ?_
      refine St.r (R.cutLo i Tryz.underlying73 Tryz.sizeOf176 rfl rfl rfl (by omega) (by omega)) rfl rfl ?_
      refine St.clear Tryz.underlying73 Tryz.zeroValue176 rfl (by omega) kS (by simp only [List.length_append, flat_length encClash_len]; simp [Value.cells]; omega) (zeroCells_one (by decide) (by intro u hu; simp [Value.cells] at hu; rcases hu with rfl | rfl | rfl | rfl | rfl | rfl <;> rfl) _) ?_
      intro wc kC gC zC
      refine St.nil ?_
      refine St.weak [(0, _), (5, _)] ⟨rfl, rfl, trivial⟩ ?_
      refine St.then_n ?_
      refine St.go hK13 ?_
      clear hK13
      refine St.seq fun K14 hK14 => ?_
      refine St.region ?_
      refine St.r (R.move rfl) rfl rfl ?_
      refine St.r (R.move rfl) rfl rfl ?_
      refine St.r (R.cutHi i Tryz.underlying73 Tryz.sizeOf176 rfl rfl rfl (by omega)) rfl rfl ?_
      refine St.r (R.assign rfl) rfl rfl ?_
      refine St.nil ?_
      refine St.weak [(4, _)] ⟨rfl, trivial⟩ ?_
      refine St.then_n ?_
      refine St.go hK14 ?_
      clear hK14
      refine St.ret ?_
      refine St.ret1 Tryz.results105 rfl ?_
      have hfl : i = (xs.filter fun x => !p x).length := by rw [← htk, List.length_take]; omega
      refine ⟨_, rfl, ?_, Chg.mono (C.trans gC) fun _ _ h => by subst h; rfl⟩
      have hz : (Builtin.zeroCells (Value.cells (.agg #[.int .i64 0, .string ⟨#[]⟩, .string ⟨#[]⟩, .int .i64 0, .string ⟨#[]⟩, .string ⟨#[]⟩])) (xs.length - i)).toList.length = (xs.length - i) * 6 := by simp [Builtin.zeroCells, Value.cells]
      rw [splice_eq (by simp only [Nat.zero_add, hz, List.length_append, flat_length encClash_len]; omega), Nat.zero_add, flat_take encClash_len ys sp (by omega), htk, List.append_assoc] at kC
      rw [hfl]
      refine Own.of_blk encClash_len kC hgb (by omega) hc2 ?_
      rw [← hlen]
      have h1 := congrArg List.length htk
      simp only [List.length_append, flat_length encClash_len, hz, List.length_drop]
      omega

theorem Pairs1_ret {a b : List Triple} {ck : Clash} {B1 B2 m1 m2 Z1 Z2 : Nat} {ms1 ms2 : List (Clash × Hd)} (w0 : World) (c1 : w0.cell? ⟨B1, 0, none⟩ = some (.map (some m1))) (c2 : w0.cell? ⟨B2, 0, none⟩ = some (.map (some m2))) (hm1 : MapB vf176 Hd.val w0 m1 ms1) (hm2 : MapB vf176 Hd.val w0 m2 ms2) (q1 : SidesO 100 Z1 w0 a ms1) (q2 : SidesO 100 Z2 w0 b ms2) :
    Ret Tryz.prog 107 [.agg (encClash ck).toArray, .pointer (some ⟨B1, 0, none⟩), .pointer (some ⟨B2, 0, none⟩)] w0 fun r w' => r = .bool (decide (sideOf a ck = sideOf b ck)) ∧ Ext w0 w' := by
  have E : Ext w0 w0 := Ext.refl w0
  refine St.enter (N := 12) Tryz.func107 rfl Tryz.ntmps107 rfl ?_
  refine St.seq fun K0 hK0 => ?_
  refine St.region ?_
  refine St.box rfl rfl ?_
  intro w3 b3 hb3 hs3 e3 k3
  have qE3 := E.size
  replace E := Ext.trans E e3
  refine St.r (R.assign rfl) rfl rfl ?_
  refine St.nil ?_
  refine St.weak [(1, _), (2, _), (3, _)] ⟨rfl, rfl, rfl, trivial⟩ ?_
  refine St.then_n ?_
  refine St.go hK0 ?_
  clear hK0
  refine St.seq fun K1 hK1 => ?_
  refine St.weak [(1, _), (2, _), (3, _)] ⟨rfl, rfl, rfl, trivial⟩ ?_
  refine St.drawX mixed rfl rfl rfl rfl ?_
  replace E := Ext.trans E (Ext.drew _)
  replace k3 := k3.ext (Ext.drew _)
  refine ⟨_, fun W eW => OpX.q (OpOk.r (R.load1 Tryz.isAgg179 rfl ((Ext.trans E eW).cell c1)) rfl), ?_⟩
  refine ⟨_, fun W eW => OpX.q (OpOk.r (R.loadA Tryz.isAgg176 Tryz.sizeOf176 rfl (k3.ext eW).cells rfl) rfl), ?_⟩
  refine ⟨_, fun W eW => OpX.q (OpOk.r (R.lookup (z := (⟨none, 0, 0⟩ : Hd)) (kenc176) Tryz.underlying179 Tryz.zeroValue22 (hm1.ext (Ext.trans E eW)) rfl rfl) rfl), ?_⟩
  refine ⟨_, fun W eW => OpX.q (OpOk.r (R.load1 Tryz.isAgg179 rfl ((Ext.trans E eW).cell c2)) rfl), ?_⟩
  refine ⟨_, fun W eW => OpX.q (OpOk.r (R.loadA Tryz.isAgg176 Tryz.sizeOf176 rfl (k3.ext eW).cells rfl) rfl), ?_⟩
  refine ⟨_, fun W eW => OpX.q (OpOk.r (R.lookup (z := (⟨none, 0, 0⟩ : Hd)) (kenc176) Tryz.underlying179 Tryz.zeroValue22 (hm2.ext (Ext.trans E eW)) rfl rfl) rfl), ?_⟩
  refine ⟨_, fun W eW => OpX.call rfl rfl ent108 (tri_Equal _ (((q1.ext (Ext.trans E eW)).at ck).reads encTriple_len) (((q2.ext (Ext.trans E eW)).at ck).reads encTriple_len)), ?_⟩
  refine ⟨_, fun W eW => OpX.q (OpOk.r (R.assign rfl) rfl), ?_⟩
  show ∀ w', Ext _ w' → St _ _ _ _ w'
  intro wd1 ed1
  replace E := Ext.trans E ed1
  replace k3 := k3.ext ed1
  refine St.weak [(4, _)] ⟨rfl, trivial⟩ ?_
  refine St.then_n ?_
  refine St.go hK1 ?_
  clear hK1
  refine St.ret ?_
  refine St.ret1 Tryz.results107 rfl ?_
  exact ⟨_, rfl, rfl, E⟩


theorem RMS.two {w : World} {b : Nat} {t : TypeId} {x y : Nat × List (Clash × Hd)} (hk : Blk w b t [.map (some x.1), .map (some y.1)]) (hx : MapB vf176 Hd.val w x.1 x.2) (hy : MapB vf176 Hd.val w y.1 y.2) :
    RSl RMS 1 w (.slice (some ⟨b, 0, none⟩) 2 2) [x, y] :=
  ⟨some ⟨b, 0, none⟩, 2, rfl, by simp, by omega, fun _ => ⟨b, 0, rfl, fun k u hu => by
    match k, hu with
    | 0, hu => injection hu with hu; subst hu; exact ⟨[.map (some x.1)], rfl, fun i a ha => by match i, ha with | 0, ha => injection ha with ha; subst ha; exact hk.cells.at 0 rfl, rfl, hx⟩
    | 1, hu => injection hu with hu; subst hu; exact ⟨[.map (some y.1)], rfl, fun i a ha => by match i, ha with | 0, ha => injection ha with ha; subst ha; exact hk.cells.at 1 rfl, rfl, hy⟩⟩⟩

theorem PairsD_ret {a b : List Triple} {v0 v1 : Value} (w0 : World) (h0 : RTriples w0 v0 a) (h1 : RTriples w0 v1 b) :
    Ret Tryz.prog 39 [v0, v1] w0 fun r w' => ∃ x ks, r = .tuple #[x, errV 119 (rightErr [a, b])] ∧ (rightErr [a, b] = none → IsPairs [a, b] ks) ∧ RClashes w' x (if (rightErr [a, b]).isSome then [] else diffL a b ks) ∧ Ext w0 w' := by
  obtain ⟨A0, C0, rfl, -, -⟩ := h0.form
  obtain ⟨A1, C1, rfl, -, -⟩ := h1.form
  have E : Ext w0 w0 := Ext.refl w0
  refine St.enter (N := 26) Tryz.func39 rfl Tryz.ntmps39 rfl ?_
  refine St.seq fun K0 hK0 => ?_
  refine St.region ?_
  refine St.r (R.assign rfl) rfl rfl ?_
  refine St.r (R.assign rfl) rfl rfl ?_
  refine St.nil ?_
  refine St.weak [(0, _), (1, _)] ⟨rfl, rfl, trivial⟩ ?_
  refine St.then_n ?_
  refine St.go hK0 ?_
  clear hK0
  refine St.seq fun K1 hK1 => ?_
  refine St.seq fun K2 hK2 => ?_
  refine St.region ?_
  refine St.r (R.move rfl) rfl rfl ?_
  refine St.r (R.move rfl) rfl rfl ?_
  refine St.buildSl Tryz.underlying53 Tryz.sizeOf22 Tryz.zeroValue22 rfl rfl rfl rfl (by intro u hu; simp only [List.mem_cons, List.not_mem_nil, or_false] at hu; first | (subst hu; rfl) | (rcases hu with rfl | rfl <;> rfl) | (rcases hu with rfl | rfl | rfl <;> rfl) | (rcases hu with rfl | rfl | rfl | rfl <;> rfl)) rfl ?_
  intro w11 b11 hb11 hs11 e11 k11
  have qE11 := E.size
  replace E := Ext.trans E e11
  refine St.call rfl rfl ent102 (Right_ret _ (RTL.pair k11 (h0.ext (REnc.firm _) E) (h1.ext (REnc.firm _) E))) rfl ?_
  rintro r12 w12 ⟨rfl, e12⟩
  replace E := Ext.trans E e12
  refine St.r (R.assign rfl) rfl rfl ?_
  refine St.nil ?_
  refine St.weak [(0, _), (1, _), (6, _)] ⟨rfl, rfl, rfl, trivial⟩ ?_
  refine St.then_n ?_
  refine St.go hK2 ?_
  clear hK2
  refine St.seq fun K3 hK3 => ?_
  refine St.region ?_
  refine St.r (R.move rfl) rfl rfl ?_
  refine St.r (R.notNil (et := 119) (e := _) Tryz.underlying32 rfl) rfl rfl ?_
  refine St.nil ?_
  refine St.weak [(0, _), (1, _), (6, _), (14, _)] ⟨rfl, rfl, rfl, rfl, trivial⟩ ?_
  refine St.then_n ?_
  refine St.go hK3 ?_
  clear hK3
  refine St.cond rfl (fun h14 => ?_) (fun h14 => ?_)
  ·
    refine St.seq fun K4 hK4 => ?_
    refine St.region ?_
    refine St.r (R.move rfl) rfl rfl ?_
    refine St.r (R.assign rfl) rfl rfl ?_
    refine St.r (R.assign rfl) rfl rfl ?_
    refine St.nil ?_
    refine St.weak [(4, _), (5, _)] ⟨rfl, rfl, trivial⟩ ?_
    refine St.then_n ?_
    refine St.go hK4 ?_
    clear hK4
    refine St.ret ?_
    refine St.then_r ?_
    refine St.ret2 Tryz.results39 rfl rfl ?_
    exact ⟨_, rfl, _, [], rfl, fun h => (by rw [h] at h14; cases h14), by rw [if_pos h14]; exact RSl.nil _ _ _, E⟩
  ·
    have hR := isSome_false h14
    have s0 := (right_all hR a (by simp)).few
    have s1 := (right_all hR b (by simp)).few
    refine St.skip ?_
    refine St.then_n ?_
    refine St.go hK1 ?_
    clear hK1
    refine St.seq fun K5 hK5 => ?_
    refine St.region ?_
    refine St.r (R.move rfl) rfl rfl ?_
    refine St.call rfl rfl ent104 (of_ret _ (h0.ext (REnc.firm _) E) (by omega)) rfl ?_
    rintro r17 w17 ⟨b17, ms17, rfl, m17, q17, z17, l17, e17⟩
    replace E := Ext.trans E e17
    refine St.r (R.move rfl) rfl rfl ?_
    refine St.call rfl rfl ent104 (of_ret _ (h1.ext (REnc.firm _) E) (by omega)) rfl ?_
    rintro r19 w19 ⟨b19, ms19, rfl, m19, q19, z19, l19, e19⟩
    replace E := Ext.trans E e19
    replace m17 := m17.ext e19
    replace q17 := q17.ext e19
    have of17 := q17.off m17.isMap
    have hl17 := q17.lt
    have hl19 := q19.lt
    have yl17 := m17.lt
    have yl19 := m19.lt
    refine St.alloc Tryz.zeroValue179 rfl ?_
    intro w7 b7 hb7 hs7 e7 k7
    have qE7 := E.size
    replace E := Ext.trans E e7
    replace m17 := m17.ext e7
    replace q17 := q17.ext e7
    replace m19 := m19.ext e7
    replace q19 := q19.ext e7
    refine St.alloc Tryz.zeroValue179 rfl ?_
    intro w8 b8 hb8 hs8 e8 k8
    have qE8 := E.size
    replace E := Ext.trans E e8
    replace m17 := m17.ext e8
    replace q17 := q17.ext e8
    replace m19 := m19.ext e8
    replace q19 := q19.ext e8
    replace k7 := k7.ext e8
    refine St.store Tryz.sizeOf179 rfl rfl k7 rfl (by simp [Value.cells]) (by simp [Value.cells, Value.oneCell']) ?_
    intro ws0 ks0 gs0 zs0
    replace E := Ext.then E gs0 (by intro j hj; omega)
    replace m17 := m17.chg gs0 (by omega)
    replace q17 := q17.chg gs0 (fun k hd hk y hy e => by have := hl17 k hd hk y hy; omega)
    replace m19 := m19.chg gs0 (by omega)
    replace q19 := q19.chg gs0 (fun k hd hk y hy e => by have := hl19 k hd hk y hy; omega)
    replace k8 := k8.chg gs0 (by omega)
    clear k7; have k7 := ks0; clear ks0
    refine St.store Tryz.sizeOf179 rfl rfl k8 rfl (by simp [Value.cells]) (by simp [Value.cells, Value.oneCell']) ?_
    intro ws1 ks1 gs1 zs1
    replace E := Ext.then E gs1 (by intro j hj; omega)
    replace m17 := m17.chg gs1 (by omega)
    replace q17 := q17.chg gs1 (fun k hd hk y hy e => by have := hl17 k hd hk y hy; omega)
    replace m19 := m19.chg gs1 (by omega)
    replace q19 := q19.chg gs1 (fun k hd hk y hy e => by have := hl19 k hd hk y hy; omega)
    replace k7 := k7.chg gs1 (by omega)
    clear k8; have k8 := ks1; clear ks1
    refine St.nil ?_
    refine St.weak [(7, _), (8, _)] ⟨rfl, rfl, trivial⟩ ?_
    refine St.then_n ?_
    refine St.go hK5 ?_
    clear hK5
    refine St.seq fun K6 hK6 => ?_
    refine St.region ?_
    refine St.r (R.load1 Tryz.isAgg179 rfl (k7.cells.at 0 rfl)) rfl rfl ?_
    refine St.r (R.load1 Tryz.isAgg179 rfl (k8.cells.at 0 rfl)) rfl rfl ?_
    refine St.buildSl Tryz.underlying243 Tryz.sizeOf179 Tryz.zeroValue179 rfl rfl rfl rfl (by intro u hu; simp only [List.mem_cons, List.not_mem_nil, or_false] at hu; first | (subst hu; rfl) | (rcases hu with rfl | rfl <;> rfl) | (rcases hu with rfl | rfl | rfl <;> rfl) | (rcases hu with rfl | rfl | rfl | rfl <;> rfl)) rfl ?_
    intro w22 b22 hb22 hs22 e22 k22
    have qE22 := E.size
    replace E := Ext.trans E e22
    replace m17 := m17.ext e22
    replace q17 := q17.ext e22
    replace m19 := m19.ext e22
    replace q19 := q19.ext e22
    replace k7 := k7.ext e22
    replace k8 := k8.ext e22
    have yk7 := k7.lt
    have yk8 := k8.lt
    have yl17b := m17.lt
    have yl19b := m19.lt
    have hl17b := q17.lt
    have hl19b := q19.lt
    refine St.call rfl rfl ent106 (pairs_ret (xs := [(b17, ms17), (b19, ms19)]) _ (RMS.two k22 m17 m19) (by simp [sizeMS]; omega) (by simp)) rfl ?_
    rintro r23 w23 ⟨ks, o23, hkr, hkm, hkl, e23⟩
    replace E := Ext.trans E e23
    replace m17 := m17.ext e23
    replace q17 := q17.ext e23
    replace m19 := m19.ext e23
    replace q19 := q19.ext e23
    replace k7 := k7.ext e23
    replace k8 := k8.ext e23
    have hIP : IsPairs [a, b] ks := ⟨hkr, fun k => (hkm k).trans (by simp only [HasK, List.mem_cons, List.not_mem_nil, or_false, exists_eq_or_imp, exists_eq_left, q17.has, q19.has])⟩
    have hb23 := fun k hk => (o23.base (k := k) hk).1
    have hx17 := q17.lt
    have hx19 := q19.lt
    refine St.r (R.fn rfl rfl) rfl rfl ?_
    refine St.call rfl rfl ent105 (clh_DeleteFunc (p := fun k => decide (sideOf a k = sideOf b k)) _ o23 ent107 (fun W x C hx => Pairs1_ret W (C.cell (k7.cell 0 rfl) (fun hk => by have := hb23 _ hk; dsimp only at this; omega)) (C.cell (k8.cell 0 rfl) (fun hk => by have := hb23 _ hk; dsimp only at this; omega)) (m17.chg C (fun hk => by have := hb23 _ hk; omega)) (m19.chg C (fun hk => by have := hb23 _ hk; omega)) (q17.chg C (fun k hd hk y hy e => by have := hb23 _ e; have := hl17b k hd hk y hy; omega)) (q19.chg C (fun k hd hk y hy e => by have := hb23 _ e; have := hl19b k hd hk y hy; omega)))) rfl ?_
    rintro r25 w25 ⟨o25, C25⟩
    have zE23 := E.size
    replace E := Ext.then E C25 (by intro j hj hk; have := hb23 _ hk; omega)
    refine St.r (R.assign rfl) rfl rfl ?_
    refine St.r (R.assign rfl) rfl rfl ?_
    refine St.nil ?_
    refine St.weak [(4, _), (5, _)] ⟨rfl, rfl, trivial⟩ ?_
    refine St.then_n ?_
    refine St.go hK6 ?_
    clear hK6
    refine St.ret ?_
    refine St.ret2 Tryz.results39 rfl rfl ?_
    exact ⟨_, rfl, _, ks, by rw [hR]; rfl, fun _ => hIP, by rw [hR, if_neg (by simp)]; exact o25.reads encClash_len, E⟩

end Go.Proofs.YtjgcmpondbocfaaGreatDoor

/- What ask.Vars and ask.Check come to: the names of all parts; what is wrong with a question. Each walked once, under the reading of the arguments. -/
import Derived.Test.YtjgcmpondbocfaaGreatDoorProg
import Derived.Test.YtjgcmpondbocfaaGreatDoorMatchW
namespace Go.Proofs.YtjgcmpondbocfaaGreatDoor
open Go.RowKit 
theorem ent122 : Ent Tryz.prog 122 := Ent.of Tryz.func122 (by kernel_rfl) rfl
theorem ent128 : Ent Tryz.prog 128 := Ent.of Tryz.func128 (by kernel_rfl) rfl
theorem ent129 : Ent Tryz.prog 129 := Ent.of Tryz.func129 (by kernel_rfl) rfl
theorem ent130 : Ent Tryz.prog 130 := Ent.of Tryz.func130 (by kernel_rfl) rfl
theorem ent178 : Ent Tryz.prog 178 := Ent.of Tryz.func178 (by kernel_rfl) rfl
theorem str_IndexFunc {xs : List ByteArray} {v : Value} {g : FuncId} {caps : Array Value} {p : ByteArray → Bool} (w0 : World) (hv : RSl (REnc encStr) 1 w0 v xs) (he : Ent Tryz.prog g)
    (hp : ∀ W x, Ext w0 W → x ∈ xs → Ret Tryz.prog g ([.string x] ++ caps.toList) W fun r W' => r = .bool (p x) ∧ Ext W W') :
    Ret Tryz.prog 178 [v, .func (.func g) #[] caps] w0 fun r w' => r = .int .i64 (idxOf p xs) ∧ Ext w0 w' := by
  obtain ⟨A, c, rfl, hc1, hc2⟩ := hv.form
  have E : Ext w0 w0 := Ext.refl w0
  refine St.enter (N := 19) Tryz.func178 rfl Tryz.ntmps178 rfl ?_
  refine St.seq fun K0 hK0 => ?_
  refine St.region ?_
  refine St.r (R.assign rfl) rfl rfl ?_
  refine St.nil ?_
  refine St.weak [(0, _), (1, _)] ⟨rfl, rfl, trivial⟩ ?_
  refine St.then_n ?_
  refine St.go hK0 ?_
  clear hK0
  refine St.seq fun K1 hK1 => ?_
  refine St.seq fun K2 hK2 => ?_
  refine St.region ?_
  refine St.r (R.move rfl) rfl rfl ?_
  refine St.r (R.lenSl Tryz.underlying23 rfl) rfl rfl ?_
  refine St.r (R.move rfl) rfl rfl ?_
  refine St.nil ?_
  refine St.weak [(0, _), (1, _), (7, _), (8, _)] ⟨rfl, rfl, rfl, rfl, trivial⟩ ?_
  refine St.then_n ?_
  refine St.go hK2 ?_
  clear hK2
  refine St.block ?_
  refine St.loop (fun (k : Nat) => [(0, .slice A xs.length c), (1, .func (.func g) #[] caps), (7, .int .i64 (xs.length : Int)), (8, .int .i64 (k : Int))])
      (fun (k : Nat) w => k ≤ xs.length ∧ Ext w0 w ∧ ∀ y ∈ xs.take k, p y = false)
      (fun (k : Nat) => xs.length - k) 0 ⟨rfl, rfl, rfl, rfl, trivial⟩ ?_ ?_
  · exact ⟨Nat.zero_le _, E, by simp⟩
  rintro k w ⟨hk, E, hall⟩
  show St _ _ [(0, .slice A xs.length c), (1, .func (.func g) #[] caps), (7, .int .i64 (xs.length : Int)), (8, .int .i64 (k : Int))] _ _
  refine St.seq fun K3 hK3 => ?_
  refine St.region ?_
  refine St.r (R.lss rfl rfl) rfl rfl ?_
  refine St.nil ?_
  refine St.weak [(0, _), (1, _), (7, _), (8, _), (9, _)] ⟨rfl, rfl, rfl, rfl, rfl, trivial⟩ ?_
  refine St.then_n ?_
  refine St.go hK3 ?_
  clear hK3
  refine St.seq fun K4 hK4 => ?_
  refine St.condD rfl (fun h9 => ?_) (fun h9 => ?_)
  ·
    obtain ⟨x, hx⟩ := get_of_lt (xs := xs) (k := k) (by omega)
    obtain ⟨b, o, c', heq, -, -, hcell⟩ := hv.at (by omega)
    cases heq
    obtain ⟨cs, -, hx', rfl⟩ := hcell k x hx
    refine St.skip ?_
    refine St.then_n ?_
    refine St.go hK4 ?_
    clear hK4
    refine St.seq fun K5 hK5 => ?_
    refine St.block ?_
    refine St.seq fun K6 hK6 => ?_
    refine St.region ?_
    refine St.r (R.move rfl) rfl rfl ?_
    refine St.r (R.assign rfl) rfl rfl ?_
    refine St.nil ?_
    refine St.weak [(0, _), (1, _), (5, _), (7, _), (8, _)] ⟨rfl, rfl, rfl, rfl, rfl, trivial⟩ ?_
    refine St.then_n ?_
    refine St.go hK6 ?_
    clear hK6
    refine St.seq fun K7 hK7 => ?_
    refine St.region ?_
    refine St.r (R.move rfl) rfl rfl ?_
    refine St.r (R.move rfl) rfl rfl ?_
    refine St.r (R.move rfl) rfl rfl ?_
    refine St.r (R.indexS _ Tryz.underlying23 Tryz.sizeOf9 rfl rfl rfl (by omega)) rfl rfl ?_
    refine St.r (R.load1 Tryz.isAgg9 rfl ((E.cells hx').at 0 rfl)) rfl rfl ?_
    refine St.call rfl rfl he (hp _ x E (List.mem_of_getElem? hx)) rfl ?_
    rintro r16 w16 ⟨rfl, e16⟩
    replace E := Ext.trans E e16
    refine St.nil ?_
    refine St.weak [(0, _), (1, _), (5, _), (7, _), (8, _), (16, _)] ⟨rfl, rfl, rfl, rfl, rfl, rfl, trivial⟩ ?_
    refine St.then_n ?_
    refine St.go hK7 ?_
    clear hK7
    refine St.cond rfl (fun h16 => ?_) (fun h16 => ?_)
    ·
      refine St.seq fun K8 hK8 => ?_
      refine St.region ?_
      refine St.r (R.move rfl) rfl rfl ?_
      refine St.r (R.assign rfl) rfl rfl ?_
      refine St.nil ?_
      refine St.weak [(4, _)] ⟨rfl, trivial⟩ ?_
      refine St.then_n ?_
      refine St.go hK8 ?_
      clear hK8
      refine St.ret ?_
      refine St.in_r ?_
      refine St.then_r ?_
      refine St.then_r ?_
      refine St.in_r ?_
      refine St.then_r ?_
      refine St.ret1 Tryz.results178 rfl ?_
      exact ⟨_, rfl, by rw [idxOf_found hx h16 hall], E⟩
    ·
      refine St.skip ?_
      refine St.in_n ?_
      refine St.then_n ?_
      refine St.go hK5 ?_
      clear hK5
      refine St.region ?_
      refine St.r (R.add rfl rfl (by omega) (by omega)) rfl rfl ?_
      refine St.r (R.move rfl) rfl rfl ?_
      refine St.nil ?_
      refine St.weak [(0, _), (1, _), (7, _), (8, _)] ⟨rfl, rfl, rfl, rfl, trivial⟩ ?_
      refine St.then_n ?_
      refine St.round (k + 1) ⟨rfl, rfl, rfl, rfl, trivial⟩ ?_ ?_
      · refine ⟨by omega, E, ?_⟩
        rw [take_snoc hx]
        intro y hy
        rcases List.mem_append.1 hy with hy | hy
        · exact hall y hy
        · rw [List.mem_singleton] at hy; subst hy; exact h16
      · omega
  ·
    refine St.exit ?_
    refine St.then_x ?_
    refine St.then_x ?_
    refine St.in_x ?_
    refine St.then_n ?_
    refine St.go hK1 ?_
    clear hK1
    refine St.seq fun K9 hK9 => ?_
    refine St.region ?_
    refine St.r (R.assign rfl) rfl rfl ?_
    refine St.nil ?_
    refine St.weak [(4, _)] ⟨rfl, trivial⟩ ?_
    refine St.then_n ?_
    refine St.go hK9 ?_
    clear hK9
    refine St.ret ?_
    refine St.ret1 Tryz.results178 rfl ?_
    exact ⟨_, rfl, by rw [idxOf_none (fun x hx => hall x (by rw [List.take_of_length_le (by omega)]; exact hx))], E⟩

theorem str_ContainsFunc {xs : List ByteArray} {v : Value} {g : FuncId} {caps : Array Value} {p : ByteArray → Bool} (w0 : World) (hv : RSl (REnc encStr) 1 w0 v xs) (he : Ent Tryz.prog g)
    (hp : ∀ W x, Ext w0 W → x ∈ xs → Ret Tryz.prog g ([.string x] ++ caps.toList) W fun r W' => r = .bool (p x) ∧ Ext W W') :
    Ret Tryz.prog 129 [v, .func (.func g) #[] caps] w0 fun r w' => r = .bool (xs.any p) ∧ Ext w0 w' := by
  have E : Ext w0 w0 := Ext.refl w0
  refine St.enter (N := 9) Tryz.func129 rfl Tryz.ntmps129 rfl ?_
  refine St.seq fun K0 hK0 => ?_
  refine St.region ?_
  refine St.r (R.assign rfl) rfl rfl ?_
  refine St.nil ?_
  refine St.weak [(0, _), (1, _)] ⟨rfl, rfl, trivial⟩ ?_
  refine St.then_n ?_
  refine St.go hK0 ?_
  clear hK0
  refine St.seq fun K1 hK1 => ?_
  refine St.region ?_
  refine St.r (R.move rfl) rfl rfl ?_
  refine St.r (R.move rfl) rfl rfl ?_
  refine St.call rfl rfl ent178 (str_IndexFunc w0 hv he hp) rfl ?_
  rintro r7 w7 ⟨rfl, e7⟩
  replace E := Ext.trans E e7
  refine St.r (Runs.eq (R.geq rfl rfl) ((congrArg Value.bool (idxOf_any p xs)))) rfl rfl ?_
  refine St.r (R.assign rfl) rfl rfl ?_
  refine St.nil ?_
  refine St.weak [(4, _)] ⟨rfl, trivial⟩ ?_
  refine St.then_n ?_
  refine St.go hK1 ?_
  clear hK1
  refine St.ret ?_
  refine St.ret1 Tryz.results129 rfl ?_
  exact ⟨_, rfl, rfl, E⟩

set_option maxHeartbeats 4000000 in
set_option maxRecDepth 100000 in
theorem aVars_ret {q : Query} {cs : List Value} (w0 : World) (hq : RQuery w0 cs q) (h6 : q.parts.length ≤ 6) : Ret Tryz.prog 128 [.agg cs.toArray] w0 fun r w' => ∃ y, r = .tuple #[y, errV 119 (partsErr q.parts)] ∧ RStrs w' y (if (partsErr q.parts).isSome then [] else partsVars q.parts) ∧ Ext w0 w' := by
  have hq0 := hq
  obtain ⟨vv, pv, rfl, hvv, hpv⟩ := hq
  obtain ⟨VA, VC, rfl, hvc1, hvc2⟩ := hvv.form
  obtain ⟨PA, PC, rfl, -, -⟩ := hpv.form
  have E : Ext w0 w0 := Ext.refl w0
  refine St.enter (N := 43) Tryz.func128 rfl Tryz.ntmps128 rfl ?_
  refine St.seq fun K0 hK0 => ?_
  refine St.region ?_
  refine St.box rfl rfl ?_
  intro w1 b1 hb1 hs1 e1 k1
  have qE1 := E.size
  replace E := Ext.trans E e1
  refine St.r (R.assign rfl) rfl rfl ?_
  refine St.r (R.assign rfl) rfl rfl ?_
  refine St.nil ?_
  refine St.weak [(1, _)] ⟨rfl, trivial⟩ ?_
  refine St.then_n ?_
  refine St.go hK0 ?_
  clear hK0
  refine St.seq fun K1 hK1 => ?_
  refine St.region ?_
  refine St.r (R.assign rfl) rfl rfl ?_
  refine St.nil ?_
  refine St.weak [(1, _), (4, _)] ⟨rfl, rfl, trivial⟩ ?_
  refine St.then_n ?_
  refine St.go hK1 ?_
  clear hK1
  refine St.seq fun K2 hK2 => ?_
  refine St.seq fun K3 hK3 => ?_
  refine St.region ?_
  refine St.r (R.fieldA Tryz.underlying26 rfl Tryz.sizeOf24 rfl rfl rfl) rfl rfl ?_
  refine St.r (R.load1 Tryz.isAgg24 rfl (k1.cells.at 1 rfl)) rfl rfl ?_
  refine St.r (R.lenSl Tryz.underlying24 rfl) rfl rfl ?_
  refine St.r (R.move rfl) rfl rfl ?_
  refine St.nil ?_
  refine St.weak [(4, _), (12, _), (13, _), (14, _)] ⟨rfl, rfl, rfl, rfl, trivial⟩ ?_
  refine St.then_n ?_
  refine St.go hK3 ?_
  clear hK3
  refine St.block ?_
  refine St.loop (fun (x : Nat × Value) => match x with | (k, ov) => [(4, ov), (12, .slice PA q.parts.length PC), (13, .int .i64 (q.parts.length : Int)), (14, .int .i64 (k : Int))])
      (fun (x : Nat × Value) w => match x with | (k, ov) => k ≤ q.parts.length ∧ Ext w0 w ∧ Own encStr 1 w0.heap.size 9 w ov (partsVars (q.parts.take k)) ∧ partsErr q.parts = firstE ((q.parts.drop k).map patErr))
      (fun (x : Nat × Value) => match x with | (k, ov) => q.parts.length - k) (0, .slice none 0 0) ⟨rfl, rfl, rfl, rfl, trivial⟩ ?_ ?_
  · exact ⟨Nat.zero_le _, E, Own.nil _ _ _ _ _, rfl⟩
  rintro ⟨k, ov⟩ w ⟨hk, E, o4, he⟩
  show St _ _ [(4, ov), (12, .slice PA q.parts.length PC), (13, .int .i64 (q.parts.length : Int)), (14, .int .i64 (k : Int))] _ _
  refine St.seq fun K4 hK4 => ?_
  refine St.region ?_
  refine St.r (R.lss rfl rfl) rfl rfl ?_
  refine St.nil ?_
  refine St.weak [(4, _), (12, _), (13, _), (14, _), (15, _)] ⟨rfl, rfl, rfl, rfl, rfl, trivial⟩ ?_
  refine St.then_n ?_
  refine St.go hK4 ?_
  clear hK4
  refine St.seq fun K5 hK5 => ?_
  refine St.condD rfl (fun h15 => ?_) (fun h15 => ?_)
  ·
    obtain ⟨p, hp⟩ := get_of_lt (xs := q.parts) (k := k) (by omega)
    obtain ⟨pb, po, rfl, hpc⟩ := hpv.get' hp
    have hoL := fun k hk => (o4.base (k := k) hk).2
    have hpl := partsVars_len (q.parts.take k)
    rw [List.length_take] at hpl
    have hp3 := patVars_len p
    refine St.skip ?_
    refine St.then_n ?_
    refine St.go hK5 ?_
    clear hK5
    refine St.seq fun K6 hK6 => ?_
    refine St.block ?_
    refine St.seq fun K7 hK7 => ?_
    refine St.region ?_
    refine St.r (R.indexS k Tryz.underlying24 Tryz.sizeOf48 rfl rfl rfl (by omega)) rfl rfl ?_
    refine St.r (R.loadA Tryz.isAgg48 Tryz.sizeOf48 rfl (E.cells hpc) rfl) rfl rfl ?_
    refine St.alloc Tryz.zeroValue48 rfl ?_
    intro w6 b6 hb6 hs6 e6 k6
    have qE6 := E.size
    replace E := Ext.trans E e6
    replace o4 := o4.ext e6
    refine St.store Tryz.sizeOf48 rfl rfl k6 rfl (by simp [Value.cells, encPat, encSlot, encTerm]) (one_pat p) ?_
    intro ws0 ks0 gs0 zs0
    replace E := Ext.then E gs0 (by intro j hj; omega)
    replace o4 := o4.chg gs0 (fun k hk h => by have := hoL k hk; omega)
    clear k6; have k6 := ks0; clear ks0
    replace k6 : Blk ws0 b6 48 (encPat p) := k6
    refine St.nil ?_
    refine St.weak [(4, _), (6, _), (12, _), (13, _), (14, _)] ⟨rfl, rfl, rfl, rfl, rfl, trivial⟩ ?_
    refine St.then_n ?_
    refine St.go hK7 ?_
    clear hK7
    refine St.seq fun K8 hK8 => ?_
    refine St.region ?_
    refine St.r (R.loadA Tryz.isAgg48 Tryz.sizeOf48 rfl k6.cells rfl) rfl rfl ?_
    refine St.call rfl rfl ent122 (mVars_ret _) rfl ?_
    rintro r20 w20 ⟨y, rfl, ry, hyb, e20⟩
    replace E := Ext.trans E e20
    replace o4 := o4.ext e20
    replace k6 := k6.ext e20
    have hz18 := k6.lt
    refine St.r (R.move rfl) rfl rfl ?_
    refine St.r (R.extract rfl rfl) rfl rfl ?_
    refine St.r (R.extract rfl rfl) rfl rfl ?_
    refine St.r (R.assign rfl) rfl rfl ?_
    refine St.r (R.assign rfl) rfl rfl ?_
    refine St.nil ?_
    refine St.weak [(4, _), (7, _), (8, _), (12, _), (13, _), (14, _)] ⟨rfl, rfl, rfl, rfl, rfl, rfl, trivial⟩ ?_
    refine St.then_n ?_
    refine St.go hK8 ?_
    clear hK8
    refine St.seq fun K9 hK9 => ?_
    refine St.seq fun K10 hK10 => ?_
    refine St.region ?_
    refine St.r (R.move rfl) rfl rfl ?_
    refine St.r (R.notNil (et := 119) (e := _) Tryz.underlying32 rfl) rfl rfl ?_
    refine St.nil ?_
    refine St.weak [(4, _), (7, _), (8, _), (12, _), (13, _), (14, _), (24, _)] ⟨rfl, rfl, rfl, rfl, rfl, rfl, rfl, trivial⟩ ?_
    refine St.then_n ?_
    refine St.go hK10 ?_
    clear hK10
    refine St.cond rfl (fun h24 => ?_) (fun h24 => ?_)
    ·
      refine St.seq fun K11 hK11 => ?_
      refine St.region ?_
      refine St.r (R.move rfl) rfl rfl ?_
      refine St.r (R.assign rfl) rfl rfl ?_
      refine St.r (R.assign rfl) rfl rfl ?_
      refine St.nil ?_
      refine St.weak [(2, _), (3, _)] ⟨rfl, rfl, trivial⟩ ?_
      refine St.then_n ?_
      refine St.go hK11 ?_
      clear hK11
      refine St.ret ?_
      refine St.then_r ?_
      refine St.in_r ?_
      refine St.then_r ?_
      refine St.then_r ?_
      refine St.in_r ?_
      refine St.then_r ?_
      refine St.ret2 Tryz.results128 rfl rfl ?_
      have hpe : partsErr q.parts = patErr p := by rw [he, drop_at hp, List.map_cons, firstE_some h24]
      exact ⟨_, rfl, _, by rw [hpe], by rw [hpe, if_pos h24]; exact RSl.nil _ _ _, E⟩
    ·
      rw [isSome_false h24, if_neg (by simp)] at ry
      obtain ⟨YA, YC, rfl, -, -⟩ := ry.form
      have hap0 : ∀ x, ov.ownBlock = some x → (Value.slice YA (patVars p).length YC).ownBlock ≠ some x := fun x hx hy => by have := hoL x hx; have := hyb x hy; omega
      refine St.skip ?_
      refine St.then_n ?_
      refine St.go hK9 ?_
      clear hK9
      refine St.seq fun K12 hK12 => ?_
      refine St.region ?_
      refine St.r (R.move rfl) rfl rfl ?_
      refine St.r (R.lenSl Tryz.underlying23 rfl) rfl rfl ?_
      refine St.r (R.move rfl) rfl rfl ?_
      refine St.nil ?_
      refine St.weak [(4, _), (12, _), (13, _), (14, _), (26, _), (27, _), (28, _)] ⟨rfl, rfl, rfl, rfl, rfl, rfl, rfl, trivial⟩ ?_
      refine St.then_n ?_
      refine St.go hK12 ?_
      clear hK12
      refine St.block ?_
      refine St.loop (fun (x : Nat × Value) => match x with | (j, ov2) => [(4, ov2), (12, .slice (some ⟨pb, po, none⟩) q.parts.length PC), (13, .int .i64 (q.parts.length : Int)), (14, .int .i64 (k : Int)), (26, .slice YA (patVars p).length YC), (27, .int .i64 ((patVars p).length : Int)), (28, .int .i64 (j : Int))])
          (fun (x : Nat × Value) w => match x with | (j, ov2) => j ≤ (patVars p).length ∧ Ext w0 w ∧ Own encStr 1 w0.heap.size 9 w ov2 (((patVars p).take j).foldl addV (partsVars (q.parts.take k))) ∧ RStrs w (.slice YA (patVars p).length YC) (patVars p) ∧ ∀ x, ov2.ownBlock = some x → (Value.slice YA (patVars p).length YC).ownBlock ≠ some x)
          (fun (x : Nat × Value) => match x with | (j, ov2) => (patVars p).length - j) (0, ov) ⟨rfl, rfl, rfl, rfl, rfl, rfl, rfl, trivial⟩ ?_ ?_
      · exact ⟨Nat.zero_le _, E, o4, ry, hap0⟩
      rintro ⟨j, ov2⟩ w ⟨hj, E, o4, ry, hap⟩
      show St _ _ [(4, ov2), (12, .slice (some ⟨pb, po, none⟩) q.parts.length PC), (13, .int .i64 (q.parts.length : Int)), (14, .int .i64 (k : Int)), (26, .slice YA (patVars p).length YC), (27, .int .i64 ((patVars p).length : Int)), (28, .int .i64 (j : Int))] _ _
      refine St.seq fun K13 hK13 => ?_
      refine St.region ?_
      refine St.r (R.lss rfl rfl) rfl rfl ?_
      refine St.nil ?_
      refine St.weak [(4, _), (12, _), (13, _), (14, _), (26, _), (27, _), (28, _), (29, _)] ⟨rfl, rfl, rfl, rfl, rfl, rfl, rfl, rfl, trivial⟩ ?_
      refine St.then_n ?_
      refine St.go hK13 ?_
      clear hK13
      refine St.seq fun K14 hK14 => ?_
      refine St.condD rfl (fun h29 => ?_) (fun h29 => ?_)
      ·
        obtain ⟨v, hv⟩ := get_of_lt (xs := patVars p) (k := j) (by omega)
        obtain ⟨vb, vo, rfl, hvc⟩ := ry.get' hv
        have hol := addVs_len ((patVars p).take j) (partsVars (q.parts.take k))
        rw [List.length_take] at hol
        have hvl := ry.lt (fun x => by rw [encStr_len]; omega) (by omega) (k := vb) rfl
        refine St.skip ?_
        refine St.then_n ?_
        refine St.go hK14 ?_
        clear hK14
        refine St.seq fun K15 hK15 => ?_
        refine St.block ?_
        refine St.seq fun K16 hK16 => ?_
        refine St.region ?_
        refine St.r (R.indexS j Tryz.underlying23 Tryz.sizeOf9 rfl rfl rfl (by omega)) rfl rfl ?_
        refine St.r (R.load1 Tryz.isAgg9 rfl ((ry.get hv).at 0 rfl)) rfl rfl ?_
        refine St.r (R.assign rfl) rfl rfl ?_
        refine St.nil ?_
        refine St.weak [(4, _), (10, _), (12, _), (13, _), (14, _), (26, _), (27, _), (28, _)] ⟨rfl, rfl, rfl, rfl, rfl, rfl, rfl, rfl, trivial⟩ ?_
        refine St.then_n ?_
        refine St.go hK16 ?_
        clear hK16
        refine St.seq fun K17 hK17 => ?_
        refine St.region ?_
        refine St.r (R.move rfl) rfl rfl ?_
        refine St.r (R.move rfl) rfl rfl ?_
        refine St.call rfl rfl ent82 (str_Contains _ (o4.reads encStr_len)) rfl ?_
        rintro r34 w34 ⟨rfl, e34⟩
        replace E := Ext.trans E e34
        replace o4 := o4.ext e34
        replace ry := ry.ext (REnc.firm _) e34
        refine St.r (R.not rfl) rfl rfl ?_
        refine St.nil ?_
        refine St.weak [(4, _), (10, _), (12, _), (13, _), (14, _), (26, _), (27, _), (28, _), (35, _)] ⟨rfl, rfl, rfl, rfl, rfl, rfl, rfl, rfl, rfl, trivial⟩ ?_
        refine St.then_n ?_
        refine St.go hK17 ?_
        clear hK17
        refine St.cond rfl (fun h35 => ?_) (fun h35 => ?_)
        ·
          refine St.region ?_
          refine St.r (R.move rfl) rfl rfl ?_
          refine St.r (R.move rfl) rfl rfl ?_
          refine St.buildSl Tryz.underlying23 Tryz.sizeOf9 Tryz.zeroValue9 rfl rfl rfl rfl (by intro u hu; simp only [List.mem_cons, List.not_mem_nil, or_false] at hu; first | (subst hu; rfl) | (rcases hu with rfl | rfl <;> rfl) | (rcases hu with rfl | rfl | rfl <;> rfl) | (rcases hu with rfl | rfl | rfl | rfl <;> rfl)) rfl ?_
          intro w38 b38 hb38 hs38 e38 k38
          have qE38 := E.size
          replace E := Ext.trans E e38
          replace o4 := o4.ext e38
          replace ry := ry.ext (REnc.firm _) e38
          have hz39 := e38.size
          have hz34 := e34.size
          refine St.append (enc := encStr) (fun _ => rfl) one_str Tryz.underlying23 info9 rfl rfl rfl rfl o4 (RSl.mk (enc := encStr) (xs := [v]) encStr_len k38.cells (fun i u hu => hu) (by simp) (by simp)) (by simp; omega) (by simp; omega) E.size rfl ?_
          intro v39 w39 a39 g39 at39
          replace E := Ext.then E g39 (by intro j hj hk; have := (o4.base hk).1; omega)
          replace ry := ry.chg g39 (fun _ k hk e => hap k e hk)
          clear o4; have o4 := a39; clear a39
          have hap2 : ∀ x, v39.ownBlock = some x → (Value.slice (some ⟨vb, vo, none⟩) (patVars p).length YC).ownBlock ≠ some x := fun x hx hy => by
            rcases at39 with e | e
            · exact hap x (e ▸ hx) hy
            · have h3 := e.symm.trans hx
              injection h3 with h3
              injection hy with hy
              dsimp only at hy
              omega
          refine St.r (R.assign rfl) rfl rfl ?_
          refine St.nil ?_
          refine St.weak [(4, _), (12, _), (13, _), (14, _), (26, _), (27, _), (28, _)] ⟨rfl, rfl, rfl, rfl, rfl, rfl, rfl, trivial⟩ ?_
          refine St.in_n ?_
          refine St.then_n ?_
          refine St.go hK15 ?_
          clear hK15
          refine St.region ?_
          refine St.r (R.add rfl rfl (by omega) (by omega)) rfl rfl ?_
          refine St.r (R.move rfl) rfl rfl ?_
          refine St.nil ?_
          refine St.weak [(4, _), (12, _), (13, _), (14, _), (26, _), (27, _), (28, _)] ⟨rfl, rfl, rfl, rfl, rfl, rfl, rfl, trivial⟩ ?_
          refine St.then_n ?_
          refine St.round (j + 1, v39) ⟨rfl, rfl, rfl, rfl, rfl, rfl, rfl, trivial⟩ ?_ ?_
          · try dsimp only
            exact ⟨by omega, E, by rw [take_snoc hv, List.foldl_append]; show Own _ _ _ _ _ _ (addV _ v); rw [addV, if_neg (by simpa [mem_any] using h35)]; exact o4, ry, hap2⟩
          · try dsimp only
            omega
        ·
          refine St.skip ?_
          refine St.in_n ?_
          refine St.then_n ?_
          refine St.go hK15 ?_
          clear hK15
          refine St.region ?_
          refine St.r (R.add rfl rfl (by omega) (by omega)) rfl rfl ?_
          refine St.r (R.move rfl) rfl rfl ?_
          refine St.nil ?_
          refine St.weak [(4, _), (12, _), (13, _), (14, _), (26, _), (27, _), (28, _)] ⟨rfl, rfl, rfl, rfl, rfl, rfl, rfl, trivial⟩ ?_
          refine St.then_n ?_
          refine St.round (j + 1, ov2) ⟨rfl, rfl, rfl, rfl, rfl, rfl, rfl, trivial⟩ ?_ ?_
          · try dsimp only
            exact ⟨by omega, E, by rw [take_snoc hv, List.foldl_append]; show Own _ _ _ _ _ _ (addV _ v); rw [addV, if_pos (by simpa [mem_any] using h35)]; exact o4, ry, hap⟩
          · try dsimp only
            omega
      ·
        refine St.exit ?_
        refine St.then_x ?_
        refine St.then_x ?_
        refine St.in_x ?_
        refine St.in_n ?_
        refine St.then_n ?_
        refine St.go hK6 ?_
        clear hK6
        refine St.region ?_
        refine St.r (R.add rfl rfl (by omega) (by omega)) rfl rfl ?_
        refine St.r (R.move rfl) rfl rfl ?_
        refine St.nil ?_
        refine St.weak [(4, _), (12, _), (13, _), (14, _)] ⟨rfl, rfl, rfl, rfl, trivial⟩ ?_
        refine St.then_n ?_
        refine St.round (k + 1, ov2) ⟨rfl, rfl, rfl, rfl, trivial⟩ ?_ ?_
        · try dsimp only
          refine ⟨by omega, E, ?_, by rw [he, drop_at hp, List.map_cons, firstE_none h24]⟩
          rw [take_snoc hp, partsVars_snoc]; rw [List.take_of_length_le (l := patVars p) (by omega)] at o4; exact o4
        · try dsimp only
          omega
  ·
    refine St.exit ?_
    refine St.then_x ?_
    refine St.then_x ?_
    refine St.in_x ?_
    refine St.then_n ?_
    refine St.go hK2 ?_
    clear hK2
    refine St.seq fun K18 hK18 => ?_
    refine St.region ?_
    refine St.r (R.move rfl) rfl rfl ?_
    refine St.r (R.assign rfl) rfl rfl ?_
    refine St.r (R.assign rfl) rfl rfl ?_
    refine St.nil ?_
    refine St.weak [(2, _), (3, _)] ⟨rfl, rfl, trivial⟩ ?_
    refine St.then_n ?_
    refine St.go hK18 ?_
    clear hK18
    refine St.ret ?_
    refine St.ret2 Tryz.results128 rfl rfl ?_
    have hpe : partsErr q.parts = none := by rw [he, List.drop_of_length_le (by omega)]; rfl
    rw [List.take_of_length_le (by omega)] at o4
    exact ⟨_, rfl, _, by rw [hpe]; rfl, by rw [hpe, if_neg (by simp)]; exact o4.reads encStr_len, E⟩

theorem aCheck1_ret {xs : List ByteArray} {s : ByteArray} {v : Value} {B : Nat} (w0 : World) (hB : w0.cell? ⟨B, 0, none⟩ = some v) (hv : RStrs w0 v xs) : Ret Tryz.prog 130 [.string s, .pointer (some ⟨B, 0, none⟩)] w0 fun r w' => r = .bool (!decide (s ∈ xs)) ∧ Ext w0 w' := by
  have E : Ext w0 w0 := Ext.refl w0
  refine St.enter (N := 8) Tryz.func130 rfl Tryz.ntmps130 rfl ?_
  refine St.seq fun K0 hK0 => ?_
  refine St.region ?_
  refine St.r (R.assign rfl) rfl rfl ?_
  refine St.nil ?_
  refine St.weak [(0, _), (1, _)] ⟨rfl, rfl, trivial⟩ ?_
  refine St.then_n ?_
  refine St.go hK0 ?_
  clear hK0
  refine St.seq fun K1 hK1 => ?_
  refine St.region ?_
  refine St.r (R.load1 Tryz.isAgg23 rfl (E.cell hB)) rfl rfl ?_
  refine St.r (R.move rfl) rfl rfl ?_
  refine St.call rfl rfl ent82 (str_Contains _ (hv.ext (REnc.firm _) E)) rfl ?_
  rintro r6 w6 ⟨rfl, e6⟩
  replace E := Ext.trans E e6
  refine St.r (R.not rfl) rfl rfl ?_
  refine St.r (R.assign rfl) rfl rfl ?_
  refine St.nil ?_
  refine St.weak [(3, _)] ⟨rfl, trivial⟩ ?_
  refine St.then_n ?_
  refine St.go hK1 ?_
  clear hK1
  refine St.ret ?_
  refine St.ret1 Tryz.results130 rfl ?_
  exact ⟨_, rfl, by rw [mem_any], E⟩

set_option maxHeartbeats 4000000 in
set_option maxRecDepth 100000 in
theorem aCheck_ret {q : Query} {cs : List Value} (w0 : World) (hq : RQuery w0 cs q) : Ret Tryz.prog 56 [.agg cs.toArray] w0 fun r w' => r = errV 119 (queryErr q) ∧ Ext w0 w' := by
  have hq0 := hq
  obtain ⟨vv, pv, rfl, hvv, hpv⟩ := hq
  obtain ⟨VA, VC, rfl, hvc1, hvc2⟩ := hvv.form
  obtain ⟨PA, PC, rfl, -, -⟩ := hpv.form
  have E : Ext w0 w0 := Ext.refl w0
  refine St.enter (N := 93) Tryz.func56 rfl Tryz.ntmps56 rfl ?_
  refine St.seq fun K0 hK0 => ?_
  refine St.region ?_
  refine St.box rfl rfl ?_
  intro w1 b1 hb1 hs1 e1 k1
  have qE1 := E.size
  replace E := Ext.trans E e1
  refine St.r (R.assign rfl) rfl rfl ?_
  refine St.nil ?_
  refine St.weak [(1, _)] ⟨rfl, trivial⟩ ?_
  refine St.then_n ?_
  refine St.go hK0 ?_
  clear hK0
  refine St.seq fun K1 hK1 => ?_
  refine St.block ?_
  refine St.seq fun K2 hK2 => ?_
  refine St.region ?_
  refine St.r (R.fieldA Tryz.underlying26 rfl Tryz.sizeOf24 rfl rfl rfl) rfl rfl ?_
  refine St.r (R.load1 Tryz.isAgg24 rfl (k1.cells.at 1 rfl)) rfl rfl ?_
  refine St.r (R.lenSl Tryz.underlying24 rfl) rfl rfl ?_
  refine St.r (R.gtr rfl rfl) rfl rfl ?_
  refine St.r (R.assign rfl) rfl rfl ?_
  refine St.nil ?_
  refine St.weak [(1, _), (7, _)] ⟨rfl, rfl, trivial⟩ ?_
  refine St.then_n ?_
  refine St.go hK2 ?_
  clear hK2
  refine St.condD rfl (fun h7 => ?_) (fun h7 => ?_)
  ·
    refine St.seq fun K3 hK3 => ?_
    refine St.region ?_
    refine St.r (R.iface Tryz.underlying119 rfl rfl) rfl rfl ?_
    refine St.r (R.assign rfl) rfl rfl ?_
    refine St.nil ?_
    refine St.weak [(2, _)] ⟨rfl, trivial⟩ ?_
    refine St.then_n ?_
    refine St.go hK3 ?_
    clear hK3
    refine St.ret ?_
    refine St.in_r ?_
    refine St.then_r ?_
    refine St.ret1 Tryz.results56 rfl ?_
    exact ⟨_, rfl, by rw [queryErr, if_pos h7]; rfl, E⟩
  ·
    refine St.seq fun K4 hK4 => ?_
    refine St.region ?_
    refine St.r (R.fieldA Tryz.underlying26 rfl Tryz.sizeOf24 rfl rfl rfl) rfl rfl ?_
    refine St.r (R.load1 Tryz.isAgg24 rfl (k1.cells.at 1 rfl)) rfl rfl ?_
    refine St.r (R.lenSl Tryz.underlying24 rfl) rfl rfl ?_
    refine St.r (R.eql rfl rfl) rfl rfl ?_
    refine St.r (R.assign rfl) rfl rfl ?_
    refine St.nil ?_
    refine St.weak [(1, _), (13, _)] ⟨rfl, rfl, trivial⟩ ?_
    refine St.then_n ?_
    refine St.go hK4 ?_
    clear hK4
    refine St.condD rfl (fun h13 => ?_) (fun h13 => ?_)
    ·
      refine St.seq fun K5 hK5 => ?_
      refine St.region ?_
      refine St.r (R.iface Tryz.underlying119 rfl rfl) rfl rfl ?_
      refine St.r (R.assign rfl) rfl rfl ?_
      refine St.nil ?_
      refine St.weak [(2, _)] ⟨rfl, trivial⟩ ?_
      refine St.then_n ?_
      refine St.go hK5 ?_
      clear hK5
      refine St.ret ?_
      refine St.in_r ?_
      refine St.then_r ?_
      refine St.ret1 Tryz.results56 rfl ?_
      exact ⟨_, rfl, by rw [queryErr, if_neg h7, if_pos h13]; rfl, E⟩
    ·
      refine St.skip ?_
      refine St.in_n ?_
      refine St.then_n ?_
      refine St.go hK1 ?_
      clear hK1
      refine St.seq fun K6 hK6 => ?_
      refine St.region ?_
      refine St.r (R.loadA Tryz.isAgg26 Tryz.sizeOf26 rfl k1.cells rfl) rfl rfl ?_
      refine St.call rfl rfl ent128 (aVars_ret _ (RQuery.firm _ _ _ _ E hq0) (by omega)) rfl ?_
      rintro r21 w21 ⟨y, rfl, ry, e21⟩
      replace E := Ext.trans E e21
      replace k1 := k1.ext e21
      have hyl : 0 < (if (partsErr q.parts).isSome then [] else partsVars q.parts).length → ∀ k, y.ownBlock = some k → k < w21.heap.size := fun h0 k hk => ry.lt (fun x => by rw [encStr_len]; omega) h0 hk
      obtain ⟨YA, YC, rfl, -, -⟩ := ry.form
      refine St.r (R.move rfl) rfl rfl ?_
      refine St.r (R.extract rfl rfl) rfl rfl ?_
      refine St.r (R.extract rfl rfl) rfl rfl ?_
      have y1 := k1.lt
      refine St.alloc Tryz.zeroValue23 rfl ?_
      intro w3 b3 hb3 hs3 e3 k3
      have qE3 := E.size
      replace E := Ext.trans E e3
      replace k1 := k1.ext e3
      replace ry := ry.ext (REnc.firm _) e3
      refine St.store Tryz.sizeOf23 rfl rfl k3 rfl (by simp [Value.cells]) (by simp [Value.cells, Value.oneCell']) ?_
      intro ws0 ks0 gs0 zs0
      replace E := Ext.then E gs0 (by intro j hj; omega)
      replace k1 := k1.chg gs0 (by omega)
      replace ry := ry.chg gs0 (fun h0 k hk h => by have := hyl h0 k hk; omega)
      clear k3; have k3 := ks0; clear ks0
      replace k3 : Blk ws0 b3 23 [.slice YA (if (partsErr q.parts).isSome then [] else partsVars q.parts).length YC] := k3
      refine St.r (R.assign rfl) rfl rfl ?_
      refine St.nil ?_
      refine St.weak [(1, _), (3, _), (4, _)] ⟨rfl, rfl, rfl, trivial⟩ ?_
      refine St.then_n ?_
      refine St.go hK6 ?_
      clear hK6
      refine St.seq fun K7 hK7 => ?_
      refine St.block ?_
      refine St.seq fun K8 hK8 => ?_
      refine St.region ?_
      refine St.r (R.move rfl) rfl rfl ?_
      refine St.r (R.notNil (et := 119) (e := _) Tryz.underlying32 rfl) rfl rfl ?_
      refine St.r (R.assign rfl) rfl rfl ?_
      refine St.nil ?_
      refine St.weak [(1, _), (3, _), (4, _), (24, _)] ⟨rfl, rfl, rfl, rfl, trivial⟩ ?_
      refine St.then_n ?_
      refine St.go hK8 ?_
      clear hK8
      refine St.cond rfl (fun h24 => ?_) (fun h24 => ?_)
      ·
        refine St.seq fun K9 hK9 => ?_
        refine St.region ?_
        refine St.r (R.move rfl) rfl rfl ?_
        refine St.r (R.assign rfl) rfl rfl ?_
        refine St.nil ?_
        refine St.weak [(2, _)] ⟨rfl, trivial⟩ ?_
        refine St.then_n ?_
        refine St.go hK9 ?_
        clear hK9
        refine St.ret ?_
        refine St.in_r ?_
        refine St.then_r ?_
        refine St.ret1 Tryz.results56 rfl ?_
        obtain ⟨er, her⟩ := Option.isSome_iff_exists.1 h24
        exact ⟨_, rfl, by rw [queryErr, if_neg h7, if_neg h13, her], E⟩
      ·
        have hpe := isSome_false h24
        rw [hpe, if_neg (by simp)] at ry k3
        refine St.seq fun K10 hK10 => ?_
        refine St.region ?_
        refine St.r (R.load1 Tryz.isAgg23 rfl (k3.cells.at 0 rfl)) rfl rfl ?_
        refine St.r (R.lenSl Tryz.underlying23 rfl) rfl rfl ?_
        refine St.r (R.gtr rfl rfl) rfl rfl ?_
        refine St.r (R.assign rfl) rfl rfl ?_
        refine St.nil ?_
        refine St.weak [(1, _), (3, _), (28, _)] ⟨rfl, rfl, rfl, trivial⟩ ?_
        refine St.then_n ?_
        refine St.go hK10 ?_
        clear hK10
        refine St.condD rfl (fun h28 => ?_) (fun h28 => ?_)
        ·
          refine St.seq fun K11 hK11 => ?_
          refine St.region ?_
          refine St.r (R.iface Tryz.underlying119 rfl rfl) rfl rfl ?_
          refine St.r (R.assign rfl) rfl rfl ?_
          refine St.nil ?_
          refine St.weak [(2, _)] ⟨rfl, trivial⟩ ?_
          refine St.then_n ?_
          refine St.go hK11 ?_
          clear hK11
          refine St.ret ?_
          refine St.in_r ?_
          refine St.then_r ?_
          refine St.ret1 Tryz.results56 rfl ?_
          exact ⟨_, rfl, by rw [queryErr, if_neg h7, if_neg h13, hpe]; simp only; rw [if_pos h28]; rfl, E⟩
        ·
          refine St.seq fun K12 hK12 => ?_
          by_cases h37 : (q.vars.length : Int) = 0
          ·
            refine St.region ?_
            refine St.r (R.fieldA Tryz.underlying26 rfl Tryz.sizeOf23 rfl rfl rfl) rfl rfl ?_
            refine St.r (R.load1 Tryz.isAgg23 rfl (k1.cells.at 0 rfl)) rfl rfl ?_
            refine St.r (R.lenSl Tryz.underlying23 rfl) rfl rfl ?_
            refine St.r (Runs.lit (c := true) (R.eql rfl rfl) (decide_eq_true h37)) rfl rfl ?_
            refine St.r (R.move rfl) rfl rfl ?_
            refine St.pass (dg := 38) rfl rfl rfl rfl rfl ?_
            refine St.pass (dg := 38) rfl rfl rfl rfl rfl ?_
            refine St.pass (dg := 38) rfl rfl rfl rfl rfl ?_
            refine St.pass (dg := 38) rfl rfl rfl rfl rfl ?_
            refine St.r (R.pickT rfl rfl) rfl rfl ?_
            refine St.r (R.assign rfl) rfl rfl ?_
            refine St.nil ?_
            refine St.weak [(1, _), (33, _)] ⟨rfl, rfl, trivial⟩ ?_
            refine St.then_n ?_
            refine St.go hK12 ?_
            clear hK12
            refine St.condT rfl ?_
            refine St.seq fun K13 hK13 => ?_
            refine St.region ?_
            refine St.r (R.iface Tryz.underlying119 rfl rfl) rfl rfl ?_
            refine St.r (R.assign rfl) rfl rfl ?_
            refine St.nil ?_
            refine St.weak [(2, _)] ⟨rfl, trivial⟩ ?_
            refine St.then_n ?_
            refine St.go hK13 ?_
            clear hK13
            refine St.ret ?_
            refine St.in_r ?_
            refine St.then_r ?_
            refine St.ret1 Tryz.results56 rfl ?_
            exact ⟨_, rfl, by rw [queryErr, if_neg h7, if_neg h13, hpe]; simp only; rw [if_neg h28, if_pos (.inl h37)]; rfl, E⟩
          ·
            refine St.region ?_
            refine St.r (R.fieldA Tryz.underlying26 rfl Tryz.sizeOf23 rfl rfl rfl) rfl rfl ?_
            refine St.r (R.load1 Tryz.isAgg23 rfl (k1.cells.at 0 rfl)) rfl rfl ?_
            refine St.r (R.lenSl Tryz.underlying23 rfl) rfl rfl ?_
            refine St.r (Runs.lit (c := false) (R.eql rfl rfl) (decide_eq_false h37)) rfl rfl ?_
            refine St.r (R.move rfl) rfl rfl ?_
            refine St.take (dg := 38) rfl rfl ?_ rfl
            refine St.r (R.fieldA Tryz.underlying26 rfl Tryz.sizeOf23 rfl rfl rfl) rfl rfl ?_
            refine St.take (dg := 38) rfl rfl ?_ rfl
            refine St.r (R.load1 Tryz.isAgg23 rfl (k1.cells.at 0 rfl)) rfl rfl ?_
            refine St.take (dg := 38) rfl rfl ?_ rfl
            refine St.r (R.fn rfl rfl) rfl rfl ?_
            refine St.take (dg := 38) rfl rfl ?_ rfl
            refine St.call rfl rfl ent129 (str_ContainsFunc (p := fun v => !decide (v ∈ partsVars q.parts)) _ (hvv.ext (REnc.firm _) E) ent130 (fun W x eW _ => aCheck1_ret W (eW.cell (k3.cell 0 rfl)) (ry.ext (REnc.firm _) eW))) rfl ?_
            rintro r42 w42 ⟨rfl, e42⟩
            replace E := Ext.trans E e42
            replace k1 := k1.ext e42
            replace ry := ry.ext (REnc.firm _) e42
            replace k3 := k3.ext e42
            refine St.r (R.pickF rfl rfl) rfl rfl ?_
            refine St.r (R.assign rfl) rfl rfl ?_
            refine St.nil ?_
            refine St.weak [(1, _), (33, _)] ⟨rfl, rfl, trivial⟩ ?_
            refine St.then_n ?_
            refine St.go hK12 ?_
            clear hK12
            refine St.cond rfl (fun h33 => ?_) (fun h33 => ?_)
            ·
              refine St.seq fun K14 hK14 => ?_
              refine St.region ?_
              refine St.r (R.iface Tryz.underlying119 rfl rfl) rfl rfl ?_
              refine St.r (R.assign rfl) rfl rfl ?_
              refine St.nil ?_
              refine St.weak [(2, _)] ⟨rfl, trivial⟩ ?_
              refine St.then_n ?_
              refine St.go hK14 ?_
              clear hK14
              refine St.ret ?_
              refine St.in_r ?_
              refine St.then_r ?_
              refine St.ret1 Tryz.results56 rfl ?_
              exact ⟨_, rfl, by rw [queryErr, if_neg h7, if_neg h13, hpe]; simp only; rw [if_neg h28, if_pos (.inr h33)]; rfl, E⟩
            ·
              refine St.skip ?_
              refine St.in_n ?_
              refine St.then_n ?_
              refine St.go hK7 ?_
              clear hK7
              refine St.seq fun K15 hK15 => ?_
              refine St.seq fun K16 hK16 => ?_
              refine St.region ?_
              refine St.r (R.fieldA Tryz.underlying26 rfl Tryz.sizeOf23 rfl rfl rfl) rfl rfl ?_
              refine St.r (R.load1 Tryz.isAgg23 rfl (k1.cells.at 0 rfl)) rfl rfl ?_
              refine St.r (R.lenSl Tryz.underlying23 rfl) rfl rfl ?_
              refine St.r (R.move rfl) rfl rfl ?_
              refine St.nil ?_
              refine St.weak [(1, _), (46, _), (47, _), (48, _)] ⟨rfl, rfl, rfl, rfl, trivial⟩ ?_
              refine St.then_n ?_
              refine St.go hK16 ?_
              clear hK16
              refine St.block ?_
              refine St.loop (fun (k : Nat) => [(1, .pointer (some ⟨b1, 0, none⟩)), (46, .slice VA q.vars.length VC), (47, .int .i64 (q.vars.length : Int)), (48, .int .i64 (k : Int))])
                  (fun (k : Nat) w => k ≤ q.vars.length ∧ Ext w0 w ∧ Blk w b1 26 [.slice VA q.vars.length VC, .slice PA q.parts.length PC, .string q.order, .bool q.down, .bool q.distinct, .int .i64 q.limit] ∧ ∀ i v, i < k → q.vars[i]? = some v → ¬ v ∈ q.vars.take i)
                  (fun (k : Nat) => q.vars.length - k) 0 ⟨rfl, rfl, rfl, rfl, trivial⟩ ?_ ?_
              · exact ⟨Nat.zero_le _, E, k1, fun i v h => by omega⟩
              rintro k w ⟨hk, E, k1, hd⟩
              show St _ _ [(1, .pointer (some ⟨b1, 0, none⟩)), (46, .slice VA q.vars.length VC), (47, .int .i64 (q.vars.length : Int)), (48, .int .i64 (k : Int))] _ _
              refine St.seq fun K17 hK17 => ?_
              refine St.region ?_
              refine St.r (R.lss rfl rfl) rfl rfl ?_
              refine St.nil ?_
              refine St.weak [(1, _), (46, _), (47, _), (48, _), (49, _)] ⟨rfl, rfl, rfl, rfl, rfl, trivial⟩ ?_
              refine St.then_n ?_
              refine St.go hK17 ?_
              clear hK17
              refine St.seq fun K18 hK18 => ?_
              refine St.condD rfl (fun h49 => ?_) (fun h49 => ?_)
              ·
                obtain ⟨v, hv⟩ := get_of_lt (xs := q.vars) (k := k) (by omega)
                obtain ⟨vb, vo, rfl, hvc⟩ := hvv.get' hv
                refine St.skip ?_
                refine St.then_n ?_
                refine St.go hK18 ?_
                clear hK18
                refine St.seq fun K19 hK19 => ?_
                refine St.block ?_
                refine St.seq fun K20 hK20 => ?_
                refine St.region ?_
                refine St.r (R.move rfl) rfl rfl ?_
                refine St.r (R.indexS k Tryz.underlying23 Tryz.sizeOf9 rfl rfl rfl (by omega)) rfl rfl ?_
                refine St.r (R.load1 Tryz.isAgg9 rfl ((E.cells hvc).at 0 rfl)) rfl rfl ?_
                refine St.r (R.assign rfl) rfl rfl ?_
                refine St.r (R.assign rfl) rfl rfl ?_
                refine St.nil ?_
                refine St.weak [(1, _), (5, _), (6, _), (46, _), (47, _), (48, _)] ⟨rfl, rfl, rfl, rfl, rfl, rfl, trivial⟩ ?_
                refine St.then_n ?_
                refine St.go hK20 ?_
                clear hK20
                refine St.seq fun K21 hK21 => ?_
                refine St.region ?_
                refine St.r (R.fieldA Tryz.underlying26 rfl Tryz.sizeOf23 rfl rfl rfl) rfl rfl ?_
                refine St.r (R.load1 Tryz.isAgg23 rfl (k1.cells.at 0 rfl)) rfl rfl ?_
                refine St.r (R.move rfl) rfl rfl ?_
                refine St.r (R.cutHi k Tryz.underlying23 Tryz.sizeOf9 rfl rfl rfl (by omega)) rfl rfl ?_
                refine St.r (R.move rfl) rfl rfl ?_
                refine St.call rfl rfl ent82 (str_Contains _ ((hvv.ext (REnc.firm _) E).take hk)) rfl ?_
                rintro r58 w58 ⟨rfl, e58⟩
                replace E := Ext.trans E e58
                replace k1 := k1.ext e58
                refine St.nil ?_
                refine St.weak [(1, _), (46, _), (47, _), (48, _), (58, _)] ⟨rfl, rfl, rfl, rfl, rfl, trivial⟩ ?_
                refine St.then_n ?_
                refine St.go hK21 ?_
                clear hK21
                refine St.cond rfl (fun h58 => ?_) (fun h58 => ?_)
                ·
                  refine St.seq fun K22 hK22 => ?_
                  refine St.region ?_
                  refine St.r (R.iface Tryz.underlying119 rfl rfl) rfl rfl ?_
                  refine St.r (R.assign rfl) rfl rfl ?_
                  refine St.nil ?_
                  refine St.weak [(2, _)] ⟨rfl, trivial⟩ ?_
                  refine St.then_n ?_
                  refine St.go hK22 ?_
                  clear hK22
                  refine St.ret ?_
                  refine St.in_r ?_
                  refine St.then_r ?_
                  refine St.then_r ?_
                  refine St.in_r ?_
                  refine St.then_r ?_
                  refine St.ret1 Tryz.results56 rfl ?_
                  exact ⟨_, rfl, by rw [queryErr, if_neg h7, if_neg h13, hpe]; simp only; rw [if_neg h28, if_neg (by rintro (h | h); exact h37 h; rw [h33] at h; cases h), if_pos (dupB_true hv (by simpa [mem_any] using h58))]; rfl, E⟩
                ·
                  refine St.skip ?_
                  refine St.in_n ?_
                  refine St.then_n ?_
                  refine St.go hK19 ?_
                  clear hK19
                  refine St.region ?_
                  refine St.r (R.add rfl rfl (by omega) (by omega)) rfl rfl ?_
                  refine St.r (R.move rfl) rfl rfl ?_
                  refine St.nil ?_
                  refine St.weak [(1, _), (46, _), (47, _), (48, _)] ⟨rfl, rfl, rfl, rfl, trivial⟩ ?_
                  refine St.then_n ?_
                  refine St.round (k + 1) ⟨rfl, rfl, rfl, rfl, trivial⟩ ?_ ?_
                  · refine ⟨by omega, E, k1, fun i u hi hu => ?_⟩
                    rcases Nat.lt_or_ge i k with h | h
                    · exact hd i u h hu
                    · obtain rfl : i = k := by omega
                      rw [hv] at hu; injection hu with hu; subst hu; simpa [mem_any] using h58
                  · omega
              ·
                have hdup : dupB q.vars = false := dupB_false fun i v hi => hd i v (by have := lt_of_get hi; omega) hi
                refine St.exit ?_
                refine St.then_x ?_
                refine St.then_x ?_
                refine St.in_x ?_
                refine St.then_n ?_
                refine St.go hK15 ?_
                clear hK15
                refine St.seq fun K23 hK23 => ?_
                refine St.block ?_
                refine St.seqJ (fun (b61 : Bool) => [(1, .pointer (some ⟨b1, 0, none⟩)), (61, .bool b61)])
                    (fun (b61 : Bool) w => Ext w0 w ∧ Blk w b1 26 [.slice VA q.vars.length VC, .slice PA q.parts.length PC, .string q.order, .bool q.down, .bool q.distinct, .int .i64 q.limit] ∧ (b61 = true ↔ (q.order ≠ ⟨#[]⟩ ∧ ¬ q.order ∈ q.vars))) ?_ ?_
                · rintro b61 w ⟨E, k1, hb61⟩
                  show St _ _ [(1, .pointer (some ⟨b1, 0, none⟩)), (61, .bool b61)] _ _
                  refine St.cond rfl (fun h61 => ?_) (fun h61 => ?_)
                  ·
                    replace h61 := hb61.1 h61
                    refine St.seq fun K25 hK25 => ?_
                    refine St.region ?_
                    refine St.r (R.iface Tryz.underlying119 rfl rfl) rfl rfl ?_
                    refine St.r (R.assign rfl) rfl rfl ?_
                    refine St.nil ?_
                    refine St.weak [(2, _)] ⟨rfl, trivial⟩ ?_
                    refine St.then_n ?_
                    refine St.go hK25 ?_
                    clear hK25
                    refine St.ret ?_
                    refine St.in_r ?_
                    refine St.then_r ?_
                    refine St.ret1 Tryz.results56 rfl ?_
                    exact ⟨_, rfl, by rw [queryErr, if_neg h7, if_neg h13, hpe]; simp only; rw [if_neg h28, if_neg (by rintro (h | h); exact h37 h; rw [h33] at h; cases h), if_neg (by rw [hdup]; simp), if_pos h61]; rfl, E⟩
                  ·
                    replace h61 : ¬ (q.order ≠ ⟨#[]⟩ ∧ ¬ q.order ∈ q.vars) := fun h => by rw [hb61.2 h] at h61; cases h61
                    refine St.seqJ (fun (b74 : Bool) => [(1, .pointer (some ⟨b1, 0, none⟩)), (74, .bool b74)])
                        (fun (b74 : Bool) w => Ext w0 w ∧ Blk w b1 26 [.slice VA q.vars.length VC, .slice PA q.parts.length PC, .string q.order, .bool q.down, .bool q.distinct, .int .i64 q.limit] ∧ (b74 = true ↔ (q.down = true ∧ q.order = ⟨#[]⟩))) ?_ ?_
                    · rintro b74 w ⟨E, k1, hb74⟩
                      show St _ _ [(1, .pointer (some ⟨b1, 0, none⟩)), (74, .bool b74)] _ _
                      refine St.cond rfl (fun h74 => ?_) (fun h74 => ?_)
                      ·
                        replace h74 := hb74.1 h74
                        refine St.seq fun K27 hK27 => ?_
                        refine St.region ?_
                        refine St.r (R.iface Tryz.underlying119 rfl rfl) rfl rfl ?_
                        refine St.r (R.assign rfl) rfl rfl ?_
                        refine St.nil ?_
                        refine St.weak [(2, _)] ⟨rfl, trivial⟩ ?_
                        refine St.then_n ?_
                        refine St.go hK27 ?_
                        clear hK27
                        refine St.ret ?_
                        refine St.in_r ?_
                        refine St.then_r ?_
                        refine St.ret1 Tryz.results56 rfl ?_
                        exact ⟨_, rfl, by rw [queryErr, if_neg h7, if_neg h13, hpe]; simp only; rw [if_neg h28, if_neg (by rintro (h | h); exact h37 h; rw [h33] at h; cases h), if_neg (by rw [hdup]; simp), if_neg h61, if_pos h74]; rfl, E⟩
                      ·
                        replace h74 : ¬ (q.down = true ∧ q.order = ⟨#[]⟩) := fun h => by rw [hb74.2 h] at h74; cases h74
                        refine St.seq fun K28 hK28 => ?_
                        by_cases h86 : q.limit < -1
                        ·
                          refine St.region ?_
                          refine St.r (R.fieldA Tryz.underlying26 rfl Tryz.sizeOf3 rfl rfl rfl) rfl rfl ?_
                          refine St.r (R.load1 Tryz.isAgg3 rfl (k1.cells.at 5 rfl)) rfl rfl ?_
                          refine St.r (Runs.lit (c := true) (R.lss rfl rfl) (decide_eq_true h86)) rfl rfl ?_
                          refine St.r (R.move rfl) rfl rfl ?_
                          refine St.pass (dg := 87) rfl rfl rfl rfl rfl ?_
                          refine St.pass (dg := 87) rfl rfl rfl rfl rfl ?_
                          refine St.pass (dg := 87) rfl rfl rfl rfl rfl ?_
                          refine St.r (R.pickT rfl rfl) rfl rfl ?_
                          refine St.r (R.assign rfl) rfl rfl ?_
                          refine St.nil ?_
                          refine St.weak [(83, _)] ⟨rfl, trivial⟩ ?_
                          refine St.then_n ?_
                          refine St.go hK28 ?_
                          clear hK28
                          refine St.condT rfl ?_
                          refine St.seq fun K29 hK29 => ?_
                          refine St.region ?_
                          refine St.r (R.iface Tryz.underlying119 rfl rfl) rfl rfl ?_
                          refine St.r (R.assign rfl) rfl rfl ?_
                          refine St.nil ?_
                          refine St.weak [(2, _)] ⟨rfl, trivial⟩ ?_
                          refine St.then_n ?_
                          refine St.go hK29 ?_
                          clear hK29
                          refine St.ret ?_
                          refine St.in_r ?_
                          refine St.then_r ?_
                          refine St.ret1 Tryz.results56 rfl ?_
                          exact ⟨_, rfl, by rw [queryErr, if_neg h7, if_neg h13, hpe]; simp only; rw [if_neg h28, if_neg (by rintro (h | h); exact h37 h; rw [h33] at h; cases h), if_neg (by rw [hdup]; simp), if_neg h61, if_neg h74, if_pos (.inl h86)]; rfl, E⟩
                        ·
                          refine St.region ?_
                          refine St.r (R.fieldA Tryz.underlying26 rfl Tryz.sizeOf3 rfl rfl rfl) rfl rfl ?_
                          refine St.r (R.load1 Tryz.isAgg3 rfl (k1.cells.at 5 rfl)) rfl rfl ?_
                          refine St.r (Runs.lit (c := false) (R.lss rfl rfl) (decide_eq_false h86)) rfl rfl ?_
                          refine St.r (R.move rfl) rfl rfl ?_
                          refine St.take (dg := 87) rfl rfl ?_ rfl
                          refine St.r (R.fieldA Tryz.underlying26 rfl Tryz.sizeOf3 rfl rfl rfl) rfl rfl ?_
                          refine St.take (dg := 87) rfl rfl ?_ rfl
                          refine St.r (R.load1 Tryz.isAgg3 rfl (k1.cells.at 5 rfl)) rfl rfl ?_
                          refine St.take (dg := 87) rfl rfl ?_ rfl
                          refine St.r (R.gtr rfl rfl) rfl rfl ?_
                          refine St.r (R.pickF rfl rfl) rfl rfl ?_
                          refine St.r (R.assign rfl) rfl rfl ?_
                          refine St.nil ?_
                          refine St.weak [(83, _)] ⟨rfl, trivial⟩ ?_
                          refine St.then_n ?_
                          refine St.go hK28 ?_
                          clear hK28
                          refine St.condD rfl (fun h83 => ?_) (fun h83 => ?_)
                          ·
                            refine St.seq fun K30 hK30 => ?_
                            refine St.region ?_
                            refine St.r (R.iface Tryz.underlying119 rfl rfl) rfl rfl ?_
                            refine St.r (R.assign rfl) rfl rfl ?_
                            refine St.nil ?_
                            refine St.weak [(2, _)] ⟨rfl, trivial⟩ ?_
                            refine St.then_n ?_
                            refine St.go hK30 ?_
                            clear hK30
                            refine St.ret ?_
                            refine St.in_r ?_
                            refine St.then_r ?_
                            refine St.ret1 Tryz.results56 rfl ?_
                            exact ⟨_, rfl, by rw [queryErr, if_neg h7, if_neg h13, hpe]; simp only; rw [if_neg h28, if_neg (by rintro (h | h); exact h37 h; rw [h33] at h; cases h), if_neg (by rw [hdup]; simp), if_neg h61, if_neg h74, if_pos (.inr h83)]; rfl, E⟩
                          ·
                            refine St.skip ?_
                            refine St.in_n ?_
                            refine St.then_n ?_
                            refine St.go hK23 ?_
                            clear hK23
                            refine St.seq fun K31 hK31 => ?_
                            refine St.region ?_
                            refine St.r (R.assign rfl) rfl rfl ?_
                            refine St.nil ?_
                            refine St.weak [(2, _)] ⟨rfl, trivial⟩ ?_
                            refine St.then_n ?_
                            refine St.go hK31 ?_
                            clear hK31
                            refine St.ret ?_
                            refine St.ret1 Tryz.results56 rfl ?_
                            exact ⟨_, rfl, by rw [queryErr, if_neg h7, if_neg h13, hpe]; simp only; rw [if_neg h28, if_neg (by rintro (h | h); exact h37 h; rw [h33] at h; cases h), if_neg (by rw [hdup]; simp), if_neg h61, if_neg h74, if_neg (by rintro (h | h) <;> omega)]; rfl, E⟩
                    intro K26 hK26
                    rcases Bool.eq_false_or_eq_true q.down with h76 | h76
                    ·
                      refine St.region ?_
                      refine St.r (R.fieldA Tryz.underlying26 rfl Tryz.sizeOf4 rfl rfl rfl) rfl rfl ?_
                      refine St.r (Runs.lit (c := true) (R.load1 Tryz.isAgg4 rfl (k1.cells.at 3 rfl)) (h76)) rfl rfl ?_
                      refine St.r (R.move rfl) rfl rfl ?_
                      refine St.take (dg := 77) rfl rfl ?_ rfl
                      refine St.r (R.fieldA Tryz.underlying26 rfl Tryz.sizeOf9 rfl rfl rfl) rfl rfl ?_
                      refine St.take (dg := 77) rfl rfl ?_ rfl
                      refine St.r (R.load1 Tryz.isAgg9 rfl (k1.cells.at 2 rfl)) rfl rfl ?_
                      refine St.take (dg := 77) rfl rfl ?_ rfl
                      refine St.r (R.eqS rfl rfl) rfl rfl ?_
                      refine St.r (R.pickT rfl rfl) rfl rfl ?_
                      refine St.r (R.assign rfl) rfl rfl ?_
                      refine St.nil ?_
                      refine St.weak [(1, _), (74, _)] ⟨rfl, rfl, trivial⟩ ?_
                      refine St.then_n ?_
                      refine St.meet hK26 _ ⟨rfl, rfl, trivial⟩ ?_
                      · exact ⟨E, k1, by simp [h76]⟩
                    ·
                      refine St.region ?_
                      refine St.r (R.fieldA Tryz.underlying26 rfl Tryz.sizeOf4 rfl rfl rfl) rfl rfl ?_
                      refine St.r (Runs.lit (c := false) (R.load1 Tryz.isAgg4 rfl (k1.cells.at 3 rfl)) (h76)) rfl rfl ?_
                      refine St.r (R.move rfl) rfl rfl ?_
                      refine St.pass (dg := 77) rfl rfl rfl rfl rfl ?_
                      refine St.pass (dg := 77) rfl rfl rfl rfl rfl ?_
                      refine St.pass (dg := 77) rfl rfl rfl rfl rfl ?_
                      refine St.r (R.pickF rfl rfl) rfl rfl ?_
                      refine St.r (R.assign rfl) rfl rfl ?_
                      refine St.nil ?_
                      refine St.weak [(1, _), (74, _)] ⟨rfl, rfl, trivial⟩ ?_
                      refine St.then_n ?_
                      refine St.meet hK26 false ⟨rfl, rfl, trivial⟩ ?_
                      · exact ⟨E, k1, by simp [h76]⟩
                intro K24 hK24
                by_cases h64 : q.order ≠ ⟨#[]⟩
                ·
                  refine St.region ?_
                  refine St.r (R.fieldA Tryz.underlying26 rfl Tryz.sizeOf9 rfl rfl rfl) rfl rfl ?_
                  refine St.r (R.load1 Tryz.isAgg9 rfl (k1.cells.at 2 rfl)) rfl rfl ?_
                  refine St.r (Runs.lit (c := true) (R.neS rfl rfl) (decide_eq_true h64)) rfl rfl ?_
                  refine St.r (R.move rfl) rfl rfl ?_
                  refine St.take (dg := 65) rfl rfl ?_ rfl
                  refine St.r (R.fieldA Tryz.underlying26 rfl Tryz.sizeOf23 rfl rfl rfl) rfl rfl ?_
                  refine St.take (dg := 65) rfl rfl ?_ rfl
                  refine St.r (R.load1 Tryz.isAgg23 rfl (k1.cells.at 0 rfl)) rfl rfl ?_
                  refine St.take (dg := 65) rfl rfl ?_ rfl
                  refine St.r (R.fieldA Tryz.underlying26 rfl Tryz.sizeOf9 rfl rfl rfl) rfl rfl ?_
                  refine St.take (dg := 65) rfl rfl ?_ rfl
                  refine St.r (R.load1 Tryz.isAgg9 rfl (k1.cells.at 2 rfl)) rfl rfl ?_
                  refine St.take (dg := 65) rfl rfl ?_ rfl
                  refine St.call rfl rfl ent82 (str_Contains _ (hvv.ext (REnc.firm _) E)) rfl ?_
                  rintro r70 w70 ⟨rfl, e70⟩
                  replace E := Ext.trans E e70
                  replace k1 := k1.ext e70
                  refine St.take (dg := 65) rfl rfl ?_ rfl
                  refine St.r (R.not rfl) rfl rfl ?_
                  refine St.r (R.pickT rfl rfl) rfl rfl ?_
                  refine St.r (R.assign rfl) rfl rfl ?_
                  refine St.nil ?_
                  refine St.weak [(1, _), (61, _)] ⟨rfl, rfl, trivial⟩ ?_
                  refine St.then_n ?_
                  refine St.meet hK24 _ ⟨rfl, rfl, trivial⟩ ?_
                  · exact ⟨E, k1, by rw [mem_any]; simp [h64]⟩
                ·
                  refine St.region ?_
                  refine St.r (R.fieldA Tryz.underlying26 rfl Tryz.sizeOf9 rfl rfl rfl) rfl rfl ?_
                  refine St.r (R.load1 Tryz.isAgg9 rfl (k1.cells.at 2 rfl)) rfl rfl ?_
                  refine St.r (Runs.lit (c := false) (R.neS rfl rfl) (decide_eq_false h64)) rfl rfl ?_
                  refine St.r (R.move rfl) rfl rfl ?_
                  refine St.pass (dg := 65) rfl rfl rfl rfl rfl ?_
                  refine St.pass (dg := 65) rfl rfl rfl rfl rfl ?_
                  refine St.pass (dg := 65) rfl rfl rfl rfl rfl ?_
                  refine St.pass (dg := 65) rfl rfl rfl rfl rfl ?_
                  refine St.pass (dg := 65) rfl rfl rfl rfl rfl ?_
                  refine St.pass (dg := 65) rfl rfl rfl rfl rfl ?_
                  refine St.r (R.pickF rfl rfl) rfl rfl ?_
                  refine St.r (R.assign rfl) rfl rfl ?_
                  refine St.nil ?_
                  refine St.weak [(1, _), (61, _)] ⟨rfl, rfl, trivial⟩ ?_
                  refine St.then_n ?_
                  refine St.meet hK24 false ⟨rfl, rfl, trivial⟩ ?_
                  · exact ⟨E, k1, by simp [h64]⟩

end Go.Proofs.YtjgcmpondbocfaaGreatDoor

/- The reference on orders and on bound names. Each walked once, under the reading of the arguments. -/
import Derived.Test.YtjgcmpondbocfaaGreatDoorProg
import Derived.Test.YtjgcmpondbocfaaGreatDoorSwapW
import Derived.Test.YtjgcmpondbocfaaGreatDoorRqW
import Derived.Test.YtjgcmpondbocfaaGreatDoorTqPure
namespace Go.Proofs.YtjgcmpondbocfaaGreatDoor
open Go.RowKit 
theorem ent15 : Ent Tryz.prog 15 := Ent.of Tryz.func15 (by kernel_rfl) rfl
theorem ent52 : Ent Tryz.prog 52 := Ent.of Tryz.func52 (by kernel_rfl) rfl
theorem ent53 : Ent Tryz.prog 53 := Ent.of Tryz.func53 (by kernel_rfl) rfl
theorem ent109 : Ent Tryz.prog 109 := Ent.of Tryz.func109 (by kernel_rfl) rfl
set_option maxHeartbeats 1000000 in
theorem tterms_ret {p : Pat} {kl : List ByteArray} {v : Value} (w0 : World) (hv : RStrs w0 v kl) : Ret Tryz.prog 52 [.agg (encPat p).toArray, v] w0 fun r w' => r = .int .i64 (termsN kl p : Int) ∧ Ext w0 w' := by
  have E : Ext w0 w0 := Ext.refl w0
  refine St.enter (N := 34) Tryz.func52 rfl Tryz.ntmps52 rfl ?_
  refine St.seq fun K0 hK0 => ?_
  refine St.region ?_
  refine St.box rfl rfl ?_
  intro w2 b2 hb2 hs2 e2 k2
  have qE2 := E.size
  replace E := Ext.trans E e2
  refine St.r (R.assign rfl) rfl rfl ?_
  refine St.nil ?_
  refine St.weak [(1, _), (2, _)] ⟨rfl, rfl, trivial⟩ ?_
  refine St.then_n ?_
  refine St.go hK0 ?_
  clear hK0
  refine St.seq fun K1 hK1 => ?_
  refine St.region ?_
  refine St.r (R.assign rfl) rfl rfl ?_
  refine St.nil ?_
  refine St.weak [(1, _), (2, _), (5, _)] ⟨rfl, rfl, rfl, trivial⟩ ?_
  refine St.then_n ?_
  refine St.go hK1 ?_
  clear hK1
  refine St.seq fun K2 hK2 => ?_
  refine St.region ?_
  refine St.r (R.loadA Tryz.isAgg48 Tryz.sizeOf48 rfl k2.cells rfl) rfl rfl ?_
  refine St.call rfl rfl ent54 (rSlots_ret _) rfl ?_
  rintro r10 w10 ⟨b6, rfl, r6, hb6, e10⟩
  replace E := Ext.trans E e10
  replace k2 := k2.ext e10
  refine St.r (R.assign rfl) rfl rfl ?_
  refine St.nil ?_
  refine St.weak [(1, _), (5, _), (6, _)] ⟨rfl, rfl, rfl, trivial⟩ ?_
  refine St.then_n ?_
  refine St.go hK2 ?_
  clear hK2
  refine St.seq fun K3 hK3 => ?_
  refine St.seq fun K4 hK4 => ?_
  refine St.region ?_
  refine St.r (R.assign rfl) rfl rfl ?_
  refine St.nil ?_
  refine St.weak [(1, _), (5, _), (6, _), (7, _)] ⟨rfl, rfl, rfl, rfl, trivial⟩ ?_
  refine St.then_n ?_
  refine St.go hK4 ?_
  clear hK4
  refine St.block ?_
  refine St.loop (fun (x : Nat × Nat) => match x with | (k, n) => [(1, v), (5, .int .i64 (n : Int)), (6, .slice (some ⟨b6, 0, none⟩) 3 3), (7, .int .i64 (k : Int))])
      (fun (x : Nat × Nat) w => match x with | (k, n) => k ≤ 3 ∧ n ≤ k ∧ Ext w0 w ∧ RSl (REnc encSlot) 4 w (.slice (some ⟨b6, 0, none⟩) 3 3) (slotsOf p) ∧ n = (((slotsOf p).take k).filter fun s => decide (s.var = ⟨#[]⟩) || decide (s.var ∈ kl)).length)
      (fun (x : Nat × Nat) => match x with | (k, n) => 3 - k) (0, 0) ⟨rfl, rfl, rfl, rfl, trivial⟩ ?_ ?_
  · exact ⟨Nat.zero_le _, Nat.zero_le _, E, r6, by simp⟩
  rintro ⟨k, n⟩ w ⟨hk, hnk, E, r6, hn⟩
  show St _ _ [(1, v), (5, .int .i64 (n : Int)), (6, .slice (some ⟨b6, 0, none⟩) 3 3), (7, .int .i64 (k : Int))] _ _
  refine St.seq fun K5 hK5 => ?_
  refine St.seq fun K6 hK6 => ?_
  refine St.region ?_
  refine St.r (R.move rfl) rfl rfl ?_
  refine St.r (R.lss rfl rfl) rfl rfl ?_
  refine St.nil ?_
  refine St.weak [(1, _), (5, _), (6, _), (7, _), (12, _)] ⟨rfl, rfl, rfl, rfl, rfl, trivial⟩ ?_
  refine St.then_n ?_
  refine St.go hK6 ?_
  clear hK6
  refine St.condD rfl (fun h12 => ?_) (fun h12 => ?_)
  ·
    obtain ⟨s, hs⟩ := slots_get (p := p) (i := k) (by omega)
    refine St.skip ?_
    refine St.then_n ?_
    refine St.go hK5 ?_
    clear hK5
    refine St.seq fun K7 hK7 => ?_
    refine St.block ?_
    refine St.seq fun K8 hK8 => ?_
    refine St.region ?_
    refine St.r (R.move rfl) rfl rfl ?_
    refine St.r (R.move rfl) rfl rfl ?_
    refine St.r (R.move rfl) rfl rfl ?_
    refine St.r (R.indexS k Tryz.underlying106 Tryz.sizeOf46 rfl rfl rfl (by omega)) rfl rfl ?_
    refine St.r (R.fieldA Tryz.underlying46 rfl Tryz.sizeOf9 rfl rfl rfl) rfl rfl ?_
    refine St.r (R.load1 Tryz.isAgg9 rfl (((r6.get hs).cut 0 1 rfl).at 0 rfl)) rfl rfl ?_
    refine St.call rfl rfl ent51 (rHas_ret _ (hv.ext (REnc.firm _) E)) rfl ?_
    rintro r21 w21 ⟨rfl, e21⟩
    replace E := Ext.trans E e21
    replace r6 := r6.ext (REnc.firm _) e21
    refine St.r (R.assign rfl) rfl rfl ?_
    refine St.nil ?_
    refine St.weak [(1, _), (5, _), (6, _), (7, _), (8, _)] ⟨rfl, rfl, rfl, rfl, rfl, trivial⟩ ?_
    refine St.then_n ?_
    refine St.go hK8 ?_
    clear hK8
    refine St.seq fun K9 hK9 => ?_
    by_cases h27 : s.var = ⟨#[]⟩
    ·
      refine St.region ?_
      refine St.r (R.move rfl) rfl rfl ?_
      refine St.r (R.move rfl) rfl rfl ?_
      refine St.r (R.indexS k Tryz.underlying106 Tryz.sizeOf46 rfl rfl rfl (by omega)) rfl rfl ?_
      refine St.r (R.fieldA Tryz.underlying46 rfl Tryz.sizeOf9 rfl rfl rfl) rfl rfl ?_
      refine St.r (R.load1 Tryz.isAgg9 rfl (((r6.get hs).cut 0 1 rfl).at 0 rfl)) rfl rfl ?_
      refine St.r (Runs.lit (c := true) (R.eqS rfl rfl) (decide_eq_true h27)) rfl rfl ?_
      refine St.r (R.move rfl) rfl rfl ?_
      refine St.pass (dg := 28) rfl rfl rfl rfl rfl ?_
      refine St.r (R.pickT rfl rfl) rfl rfl ?_
      refine St.nil ?_
      refine St.weak [(1, _), (5, _), (6, _), (7, _), (30, _)] ⟨rfl, rfl, rfl, rfl, rfl, trivial⟩ ?_
      refine St.then_n ?_
      refine St.go hK9 ?_
      clear hK9
      refine St.condT rfl ?_
      refine St.region ?_
      refine St.r (R.move rfl) rfl rfl ?_
      refine St.r (R.add rfl rfl (by omega) (by omega)) rfl rfl ?_
      refine St.r (R.assign rfl) rfl rfl ?_
      refine St.nil ?_
      refine St.weak [(1, _), (5, _), (6, _), (7, _)] ⟨rfl, rfl, rfl, rfl, trivial⟩ ?_
      refine St.in_n ?_
      refine St.then_n ?_
      refine St.go hK7 ?_
      clear hK7
      refine St.region ?_
      refine St.r (R.move rfl) rfl rfl ?_
      refine St.r (R.add rfl rfl (by omega) (by omega)) rfl rfl ?_
      refine St.r (R.assign rfl) rfl rfl ?_
      refine St.nil ?_
      refine St.weak [(1, _), (5, _), (6, _), (7, _)] ⟨rfl, rfl, rfl, rfl, trivial⟩ ?_
      refine St.then_n ?_
      refine St.round (k + 1, n + 1) ⟨rfl, rfl, rfl, rfl, trivial⟩ ?_ ?_
      · try dsimp only
        refine ⟨by omega, by omega, E, r6, ?_⟩
        rw [filter_len_snoc hs, ← hn, decide_eq_true h27, Bool.true_or, if_pos rfl]
      · try dsimp only
        omega
    ·
      refine St.region ?_
      refine St.r (R.move rfl) rfl rfl ?_
      refine St.r (R.move rfl) rfl rfl ?_
      refine St.r (R.indexS k Tryz.underlying106 Tryz.sizeOf46 rfl rfl rfl (by omega)) rfl rfl ?_
      refine St.r (R.fieldA Tryz.underlying46 rfl Tryz.sizeOf9 rfl rfl rfl) rfl rfl ?_
      refine St.r (R.load1 Tryz.isAgg9 rfl (((r6.get hs).cut 0 1 rfl).at 0 rfl)) rfl rfl ?_
      refine St.r (Runs.lit (c := false) (R.eqS rfl rfl) (decide_eq_false h27)) rfl rfl ?_
      refine St.r (R.move rfl) rfl rfl ?_
      refine St.take (dg := 28) rfl rfl ?_ rfl
      refine St.r (R.move rfl) rfl rfl ?_
      refine St.r (R.pickF rfl rfl) rfl rfl ?_
      refine St.nil ?_
      refine St.weak [(1, _), (5, _), (6, _), (7, _), (30, _)] ⟨rfl, rfl, rfl, rfl, rfl, trivial⟩ ?_
      refine St.then_n ?_
      refine St.go hK9 ?_
      clear hK9
      refine St.cond rfl (fun h30 => ?_) (fun h30 => ?_)
      ·
        refine St.region ?_
        refine St.r (R.move rfl) rfl rfl ?_
        refine St.r (R.add rfl rfl (by omega) (by omega)) rfl rfl ?_
        refine St.r (R.assign rfl) rfl rfl ?_
        refine St.nil ?_
        refine St.weak [(1, _), (5, _), (6, _), (7, _)] ⟨rfl, rfl, rfl, rfl, trivial⟩ ?_
        refine St.in_n ?_
        refine St.then_n ?_
        refine St.go hK7 ?_
        clear hK7
        refine St.region ?_
        refine St.r (R.move rfl) rfl rfl ?_
        refine St.r (R.add rfl rfl (by omega) (by omega)) rfl rfl ?_
        refine St.r (R.assign rfl) rfl rfl ?_
        refine St.nil ?_
        refine St.weak [(1, _), (5, _), (6, _), (7, _)] ⟨rfl, rfl, rfl, rfl, trivial⟩ ?_
        refine St.then_n ?_
        refine St.round (k + 1, n + 1) ⟨rfl, rfl, rfl, rfl, trivial⟩ ?_ ?_
        · try dsimp only
          refine ⟨by omega, by omega, E, r6, ?_⟩
          rw [filter_len_snoc hs, ← hn, decide_eq_false h27, Bool.false_or, h30, if_pos rfl]
        · try dsimp only
          omega
      ·
        refine St.skip ?_
        refine St.in_n ?_
        refine St.then_n ?_
        refine St.go hK7 ?_
        clear hK7
        refine St.region ?_
        refine St.r (R.move rfl) rfl rfl ?_
        refine St.r (R.add rfl rfl (by omega) (by omega)) rfl rfl ?_
        refine St.r (R.assign rfl) rfl rfl ?_
        refine St.nil ?_
        refine St.weak [(1, _), (5, _), (6, _), (7, _)] ⟨rfl, rfl, rfl, rfl, trivial⟩ ?_
        refine St.then_n ?_
        refine St.round (k + 1, n) ⟨rfl, rfl, rfl, rfl, trivial⟩ ?_ ?_
        · try dsimp only
          refine ⟨by omega, by omega, E, r6, ?_⟩
          rw [filter_len_snoc hs, ← hn, decide_eq_false h27, Bool.false_or, h30, if_neg (by simp)]; rfl
        · try dsimp only
          omega
  ·
    refine St.exit ?_
    refine St.then_x ?_
    refine St.then_x ?_
    refine St.in_x ?_
    refine St.then_n ?_
    refine St.go hK3 ?_
    clear hK3
    refine St.seq fun K10 hK10 => ?_
    refine St.region ?_
    refine St.r (R.move rfl) rfl rfl ?_
    refine St.r (R.assign rfl) rfl rfl ?_
    refine St.nil ?_
    refine St.weak [(4, _)] ⟨rfl, trivial⟩ ?_
    refine St.then_n ?_
    refine St.go hK10 ?_
    clear hK10
    refine St.ret ?_
    refine St.ret1 Tryz.results52 rfl ?_
    have hk3 : k = 3 := by omega
    subst hk3
    exact ⟨_, rfl, by rw [hn]; rfl, E⟩

set_option maxHeartbeats 4000000 in
set_option maxRecDepth 100000 in
theorem tOrder_ret {l : List Triple} {q : Query} {cs : List Value} {v : Value} (w0 : World) (hv : RTriples w0 v l) (hq : RQuery w0 cs q) (hl : l.length ≤ 200) (hp6 : q.parts.length ≤ 6) (hp0 : 0 < q.parts.length) : Ret Tryz.prog 9 [v, .agg cs.toArray] w0 fun r w' => RInts w' r (orderL l q) ∧ Ext w0 w' := by
  obtain ⟨vv, pv, rfl, hvv, hpv⟩ := hq
  obtain ⟨PA, PC, rfl, -, -⟩ := hpv.form
  obtain ⟨VA, VC, rfl, -, -⟩ := hv.form
  obtain ⟨p0, hp00⟩ := get_of_lt (xs := q.parts) (k := 0) (by omega)
  obtain ⟨pb, po, rfl, -⟩ := hpv.get' hp00
  have E : Ext w0 w0 := Ext.refl w0
  refine St.enter (N := 97) Tryz.func9 rfl Tryz.ntmps9 rfl ?_
  refine St.seq fun K0 hK0 => ?_
  refine St.region ?_
  refine St.box rfl rfl ?_
  intro w3 b3 hb3 hs3 e3 k3
  have qE3 := E.size
  replace E := Ext.trans E e3
  refine St.r (R.assign rfl) rfl rfl ?_
  refine St.nil ?_
  refine St.weak [(0, _), (3, _)] ⟨rfl, rfl, trivial⟩ ?_
  refine St.then_n ?_
  refine St.go hK0 ?_
  clear hK0
  refine St.seq fun K1 hK1 => ?_
  refine St.region ?_
  refine St.r (R.assign rfl) rfl rfl ?_
  refine St.nil ?_
  refine St.weak [(0, _), (3, _), (5, _)] ⟨rfl, rfl, rfl, trivial⟩ ?_
  refine St.then_n ?_
  refine St.go hK1 ?_
  clear hK1
  refine St.seq fun K2 hK2 => ?_
  refine St.region ?_
  refine St.r (R.assign rfl) rfl rfl ?_
  refine St.nil ?_
  refine St.weak [(0, _), (3, _), (5, _), (6, _)] ⟨rfl, rfl, rfl, rfl, trivial⟩ ?_
  refine St.then_n ?_
  refine St.go hK2 ?_
  clear hK2
  refine St.seq fun K3 hK3 => ?_
  refine St.block ?_
  obtain ⟨Z, hZ⟩ : ∃ Z, Z = w3.heap.size := ⟨_, rfl⟩
  have hb3Z : b3 < Z ∧ w0.heap.size ≤ b3 := by omega
  have zz : Z ≤ w3.heap.size := by omega
  refine St.loop (fun (x : List Int × List Int × List ByteArray × Value × Value) => match x with | (left, out, kl, ov, kv) => [(0, .slice VA l.length VC), (3, .pointer (some ⟨b3, 0, none⟩)), (5, ov), (6, kv)])
      (fun (x : List Int × List Int × List ByteArray × Value × Value) w => match x with | (left, out, kl, ov, kv) => LeftO q.parts.length left out ∧ orderL l q = out ++ ordL l q.parts left.length left kl ∧ kl.length ≤ 3 * out.length ∧ Ext w0 w ∧ Blk w b3 26 [vv, .slice (some ⟨pb, po, none⟩) q.parts.length PC, .string q.order, .bool q.down, .bool q.distinct, .int .i64 q.limit] ∧ Own encInt 1 Z 3 w ov out ∧ Own encStr 1 Z 9 w kv kl ∧ Z ≤ w.heap.size)
      (fun (x : List Int × List Int × List ByteArray × Value × Value) => match x with | (left, out, kl, ov, kv) => left.length) (rangeI q.parts.length, [], [], .slice none 0 0, .slice none 0 0) ⟨rfl, rfl, rfl, rfl, trivial⟩ ?_ ?_
  · exact ⟨LeftO.start _, by rw [rangeI_len]; rfl, by simp, E, k3, Own.nil _ _ _ _ _, Own.nil _ _ _ _ _, zz⟩
  rintro ⟨left, out, kl, ov, kv⟩ w ⟨hL, hord, hkl, E, k3, o5, o6, zz⟩
  show St _ _ [(0, .slice VA l.length VC), (3, .pointer (some ⟨b3, 0, none⟩)), (5, ov), (6, kv)] _ _
  obtain ⟨OA, OC, rfl, -, -⟩ := o5.form
  have hlen := hL.len
  refine St.seq fun K4 hK4 => ?_
  refine St.seq fun K5 hK5 => ?_
  refine St.region ?_
  refine St.r (R.move rfl) rfl rfl ?_
  refine St.r (R.lenSl Tryz.underlying27 rfl) rfl rfl ?_
  refine St.r (R.fieldA Tryz.underlying26 rfl Tryz.sizeOf24 rfl rfl rfl) rfl rfl ?_
  refine St.r (R.load1 Tryz.isAgg24 rfl (k3.cells.at 1 rfl)) rfl rfl ?_
  refine St.r (R.lenSl Tryz.underlying24 rfl) rfl rfl ?_
  refine St.r (R.lss rfl rfl) rfl rfl ?_
  refine St.nil ?_
  refine St.weak [(0, _), (3, _), (5, _), (6, _), (21, _)] ⟨rfl, rfl, rfl, rfl, rfl, trivial⟩ ?_
  refine St.then_n ?_
  refine St.go hK5 ?_
  clear hK5
  refine St.condD rfl (fun h21 => ?_) (fun h21 => ?_)
  ·
    refine St.skip ?_
    refine St.then_n ?_
    refine St.go hK4 ?_
    clear hK4
    refine St.block ?_
    refine St.seq fun K6 hK6 => ?_
    refine St.region ?_
    refine St.r (R.assign rfl) rfl rfl ?_
    refine St.nil ?_
    refine St.weak [(0, _), (3, _), (5, _), (6, _), (7, _)] ⟨rfl, rfl, rfl, rfl, rfl, trivial⟩ ?_
    refine St.then_n ?_
    refine St.go hK6 ?_
    clear hK6
    refine St.seq fun K7 hK7 => ?_
    refine St.region ?_
    refine St.r (R.assign rfl) rfl rfl ?_
    refine St.nil ?_
    refine St.weak [(0, _), (3, _), (5, _), (6, _), (7, _), (8, _)] ⟨rfl, rfl, rfl, rfl, rfl, rfl, trivial⟩ ?_
    refine St.then_n ?_
    refine St.go hK7 ?_
    clear hK7
    refine St.seq fun K8 hK8 => ?_
    refine St.region ?_
    refine St.r (R.assign rfl) rfl rfl ?_
    refine St.nil ?_
    refine St.weak [(0, _), (3, _), (5, _), (6, _), (7, _), (8, _), (9, _)] ⟨rfl, rfl, rfl, rfl, rfl, rfl, rfl, trivial⟩ ?_
    refine St.then_n ?_
    refine St.go hK8 ?_
    clear hK8
    refine St.seq fun K9 hK9 => ?_
    refine St.seq fun K10 hK10 => ?_
    refine St.region ?_
    refine St.r (R.assign rfl) rfl rfl ?_
    refine St.nil ?_
    refine St.weak [(0, _), (3, _), (5, _), (6, _), (7, _), (8, _), (9, _), (10, _)] ⟨rfl, rfl, rfl, rfl, rfl, rfl, rfl, rfl, trivial⟩ ?_
    refine St.then_n ?_
    refine St.go hK10 ?_
    clear hK10
    refine St.block ?_
    refine St.loop (fun (x : Nat × Int × Int × Int) => match x with | (k, b, c8, c9) => [(0, .slice VA l.length VC), (3, .pointer (some ⟨b3, 0, none⟩)), (5, .slice OA out.length OC), (6, kv), (7, .int .i64 b), (8, .int .i64 c8), (9, .int .i64 c9), (10, .int .i64 (k : Int))])
        (fun (x : Nat × Int × Int × Int) w => match x with | (k, b, c8, c9) => k ≤ q.parts.length ∧ Ext w0 w ∧ Blk w b3 26 [vv, .slice (some ⟨pb, po, none⟩) q.parts.length PC, .string q.order, .bool q.down, .bool q.distinct, .int .i64 q.limit] ∧ Own encInt 1 Z 3 w (.slice OA out.length OC) out ∧ Own encStr 1 Z 9 w kv kl ∧ Z ≤ w.heap.size ∧ Best (cmpP l q.parts kl) left k b ∧ (b ≠ -1 → c8 = (termsN kl (partAt q.parts b) : Int) ∧ c9 = ((ofL l (partAt q.parts b)).length : Int)) ∧ (b = -1 ∨ 0 ≤ b))
        (fun (x : Nat × Int × Int × Int) => match x with | (k, b, c8, c9) => q.parts.length - k) (0, -1, 0, 0) ⟨rfl, rfl, rfl, rfl, rfl, rfl, rfl, rfl, trivial⟩ ?_ ?_
    · exact ⟨Nat.zero_le _, E, k3, o5, o6, zz, Best.start _ _ (fun x hx => (hL.lb x hx).1), fun h => absurd rfl h, .inl rfl⟩
    rintro ⟨k, b, c8, c9⟩ w ⟨hk, E, k3, o5, o6, zz, hbest, hc, hb0⟩
    show St _ _ [(0, .slice VA l.length VC), (3, .pointer (some ⟨b3, 0, none⟩)), (5, .slice OA out.length OC), (6, kv), (7, .int .i64 b), (8, .int .i64 c8), (9, .int .i64 c9), (10, .int .i64 (k : Int))] _ _
    refine St.seq fun K11 hK11 => ?_
    refine St.seq fun K12 hK12 => ?_
    refine St.region ?_
    refine St.r (R.move rfl) rfl rfl ?_
    refine St.r (R.fieldA Tryz.underlying26 rfl Tryz.sizeOf24 rfl rfl rfl) rfl rfl ?_
    refine St.r (R.load1 Tryz.isAgg24 rfl (k3.cells.at 1 rfl)) rfl rfl ?_
    refine St.r (R.lenSl Tryz.underlying24 rfl) rfl rfl ?_
    refine St.r (R.lss rfl rfl) rfl rfl ?_
    refine St.nil ?_
    refine St.weak [(0, _), (3, _), (5, _), (6, _), (7, _), (8, _), (9, _), (10, _), (26, _)] ⟨rfl, rfl, rfl, rfl, rfl, rfl, rfl, rfl, rfl, trivial⟩ ?_
    refine St.then_n ?_
    refine St.go hK12 ?_
    clear hK12
    refine St.condD rfl (fun h26 => ?_) (fun h26 => ?_)
    ·
      obtain ⟨px, hxi⟩ := get_of_lt (xs := q.parts) (k := k) (by omega)
      have hpc := hpv.get hxi
      have hpk : partAt q.parts (k : Int) = px := partAt_get (by simpa using hxi)
      refine St.skip ?_
      refine St.then_n ?_
      refine St.go hK11 ?_
      clear hK11
      refine St.seq fun K13 hK13 => ?_
      refine St.block ?_
      refine St.seq fun K14 hK14 => ?_
      refine St.region ?_
      refine St.r (R.move rfl) rfl rfl ?_
      refine St.r (R.move rfl) rfl rfl ?_
      refine St.call rfl rfl ent15 (In_ret _ (o5.reads encInt_len)) rfl ?_
      rintro r31 w31 ⟨rfl, e31⟩
      replace E := Ext.trans E e31
      replace k3 := k3.ext e31
      replace o5 := o5.ext e31
      replace o6 := o6.ext e31
      replace zz := Nat.le_trans zz (Chg.size e31)
      refine St.r (R.assign rfl) rfl rfl ?_
      refine St.nil ?_
      refine St.weak [(0, _), (3, _), (5, _), (6, _), (7, _), (8, _), (9, _), (10, _), (11, _)] ⟨rfl, rfl, rfl, rfl, rfl, rfl, rfl, rfl, rfl, trivial⟩ ?_
      refine St.then_n ?_
      refine St.go hK14 ?_
      clear hK14
      refine St.seq fun K15 hK15 => ?_
      refine St.seq fun K16 hK16 => ?_
      refine St.region ?_
      refine St.r (R.move rfl) rfl rfl ?_
      refine St.nil ?_
      refine St.weak [(0, _), (3, _), (5, _), (6, _), (7, _), (8, _), (9, _), (10, _), (32, _)] ⟨rfl, rfl, rfl, rfl, rfl, rfl, rfl, rfl, rfl, trivial⟩ ?_
      refine St.then_n ?_
      refine St.go hK16 ?_
      clear hK16
      refine St.cond rfl (fun h32 => ?_) (fun h32 => ?_)
      ·
        have hm : ¬ (k : Int) ∈ left := fun h => (hL.mem k (by omega)).1 h (any_mem.1 h32)
        refine St.exit ?_
        refine St.then_x ?_
        refine St.in_x ?_
        refine St.then_n ?_
        refine St.go hK13 ?_
        clear hK13
        refine St.region ?_
        refine St.r (R.move rfl) rfl rfl ?_
        refine St.r (R.add rfl rfl (by omega) (by omega)) rfl rfl ?_
        refine St.r (R.assign rfl) rfl rfl ?_
        refine St.nil ?_
        refine St.weak [(0, _), (3, _), (5, _), (6, _), (7, _), (8, _), (9, _), (10, _)] ⟨rfl, rfl, rfl, rfl, rfl, rfl, rfl, rfl, trivial⟩ ?_
        refine St.then_n ?_
        refine St.round (k + 1, b, c8, c9) ⟨rfl, rfl, rfl, rfl, rfl, rfl, rfl, rfl, trivial⟩ ?_ ?_
        · try dsimp only
          refine ⟨by omega, E, k3, o5, o6, zz, ?_, hc, hb0⟩
          exact hbest.skip hL.asc hm
        · try dsimp only
          omega
      ·
        have hm : (k : Int) ∈ left := (hL.mem k (by omega)).2 (fun h => by rw [any_mem.2 h] at h32; cases h32)
        refine St.skip ?_
        refine St.then_n ?_
        refine St.go hK15 ?_
        clear hK15
        refine St.seq fun K17 hK17 => ?_
        refine St.region ?_
        refine St.r (R.fieldA Tryz.underlying26 rfl Tryz.sizeOf24 rfl rfl rfl) rfl rfl ?_
        refine St.r (R.load1 Tryz.isAgg24 rfl (k3.cells.at 1 rfl)) rfl rfl ?_
        refine St.r (R.move rfl) rfl rfl ?_
        refine St.r (R.indexS k Tryz.underlying24 Tryz.sizeOf48 rfl rfl rfl (by omega)) rfl rfl ?_
        refine St.r (R.loadA Tryz.isAgg48 Tryz.sizeOf48 rfl (E.cells hpc) rfl) rfl rfl ?_
        refine St.r (R.move rfl) rfl rfl ?_
        refine St.call rfl rfl ent52 (tterms_ret _ (o6.reads encStr_len)) rfl ?_
        rintro r39 w39 ⟨rfl, e39⟩
        replace E := Ext.trans E e39
        replace k3 := k3.ext e39
        replace o5 := o5.ext e39
        replace o6 := o6.ext e39
        replace zz := Nat.le_trans zz (Chg.size e39)
        rw [← hpk]
        refine St.r (R.assign rfl) rfl rfl ?_
        refine St.nil ?_
        refine St.weak [(0, _), (3, _), (5, _), (6, _), (7, _), (8, _), (9, _), (10, _), (12, _)] ⟨rfl, rfl, rfl, rfl, rfl, rfl, rfl, rfl, rfl, trivial⟩ ?_
        refine St.then_n ?_
        refine St.go hK17 ?_
        clear hK17
        refine St.seq fun K18 hK18 => ?_
        refine St.region ?_
        refine St.r (R.move rfl) rfl rfl ?_
        refine St.r (R.fieldA Tryz.underlying26 rfl Tryz.sizeOf24 rfl rfl rfl) rfl rfl ?_
        refine St.r (R.load1 Tryz.isAgg24 rfl (k3.cells.at 1 rfl)) rfl rfl ?_
        refine St.r (R.move rfl) rfl rfl ?_
        refine St.r (R.indexS k Tryz.underlying24 Tryz.sizeOf48 rfl rfl rfl (by omega)) rfl rfl ?_
        refine St.r (R.loadA Tryz.isAgg48 Tryz.sizeOf48 rfl (E.cells hpc) rfl) rfl rfl ?_
        refine St.call rfl rfl ent53 (rMatch_ret _ (hv.ext (REnc.firm _) E) (by omega)) rfl ?_
        rintro r46 w46 ⟨o46, e46⟩
        replace E := Ext.trans E e46
        replace k3 := k3.ext e46
        replace o5 := o5.ext e46
        replace o6 := o6.ext e46
        replace zz := Nat.le_trans zz (Chg.size e46)
        rw [← hpk] at o46
        obtain ⟨A46, C46, rfl, -, -⟩ := o46.form
        refine St.r (R.lenSl Tryz.underlying22 rfl) rfl rfl ?_
        refine St.r (R.assign rfl) rfl rfl ?_
        refine St.nil ?_
        refine St.weak [(0, _), (3, _), (5, _), (6, _), (7, _), (8, _), (9, _), (10, _), (12, _), (13, _)] ⟨rfl, rfl, rfl, rfl, rfl, rfl, rfl, rfl, rfl, rfl, trivial⟩ ?_
        refine St.then_n ?_
        refine St.go hK18 ?_
        clear hK18
        refine St.seq fun K19 hK19 => ?_
        by_cases h49 : b < 0
        ·
          refine St.region ?_
          refine St.r (R.move rfl) rfl rfl ?_
          refine St.r (Runs.lit (c := true) (R.lss rfl rfl) (decide_eq_true h49)) rfl rfl ?_
          refine St.r (R.move rfl) rfl rfl ?_
          refine St.pass (dg := 50) rfl rfl rfl rfl rfl ?_
          refine St.pass (dg := 50) rfl rfl rfl rfl rfl ?_
          refine St.pass (dg := 50) rfl rfl rfl rfl rfl ?_
          refine St.r (R.pickT rfl rfl) rfl rfl ?_
          refine St.r (R.move rfl) rfl rfl ?_
          refine St.pass (dg := 55) rfl rfl rfl rfl rfl ?_
          refine St.pass (dg := 55) rfl rfl rfl rfl rfl ?_
          refine St.pass (dg := 55) rfl rfl rfl rfl rfl ?_
          refine St.pass (dg := 55) rfl rfl rfl rfl rfl ?_
          refine St.passU (dg := 59) rfl rfl rfl rfl ?_
          refine St.passU (dg := 59) rfl rfl rfl rfl ?_
          refine St.passU (dg := 59) rfl rfl rfl rfl ?_
          refine St.pass (dg := 55) rfl rfl rfl rfl rfl ?_
          refine St.r (R.pickT rfl rfl) rfl rfl ?_
          refine St.nil ?_
          refine St.weak [(0, _), (3, _), (5, _), (6, _), (7, _), (8, _), (9, _), (10, _), (12, _), (13, _), (64, _)] ⟨rfl, rfl, rfl, rfl, rfl, rfl, rfl, rfl, rfl, rfl, rfl, trivial⟩ ?_
          refine St.then_n ?_
          refine St.go hK19 ?_
          clear hK19
          refine St.condT rfl ?_
          refine St.seq fun K20 hK20 => ?_
          refine St.region ?_
          refine St.r (R.move rfl) rfl rfl ?_
          refine St.r (R.assign rfl) rfl rfl ?_
          refine St.nil ?_
          refine St.weak [(0, _), (3, _), (5, _), (6, _), (7, _), (10, _), (12, _), (13, _)] ⟨rfl, rfl, rfl, rfl, rfl, rfl, rfl, rfl, trivial⟩ ?_
          refine St.then_n ?_
          refine St.go hK20 ?_
          clear hK20
          refine St.seq fun K21 hK21 => ?_
          refine St.region ?_
          refine St.r (R.move rfl) rfl rfl ?_
          refine St.r (R.assign rfl) rfl rfl ?_
          refine St.nil ?_
          refine St.weak [(0, _), (3, _), (5, _), (6, _), (7, _), (8, _), (10, _), (13, _)] ⟨rfl, rfl, rfl, rfl, rfl, rfl, rfl, rfl, trivial⟩ ?_
          refine St.then_n ?_
          refine St.go hK21 ?_
          clear hK21
          refine St.region ?_
          refine St.r (R.move rfl) rfl rfl ?_
          refine St.r (R.assign rfl) rfl rfl ?_
          refine St.nil ?_
          refine St.weak [(0, _), (3, _), (5, _), (6, _), (7, _), (8, _), (9, _), (10, _)] ⟨rfl, rfl, rfl, rfl, rfl, rfl, rfl, rfl, trivial⟩ ?_
          refine St.in_n ?_
          refine St.then_n ?_
          refine St.go hK13 ?_
          clear hK13
          refine St.region ?_
          refine St.r (R.move rfl) rfl rfl ?_
          refine St.r (R.add rfl rfl (by omega) (by omega)) rfl rfl ?_
          refine St.r (R.assign rfl) rfl rfl ?_
          refine St.nil ?_
          refine St.weak [(0, _), (3, _), (5, _), (6, _), (7, _), (8, _), (9, _), (10, _)] ⟨rfl, rfl, rfl, rfl, rfl, rfl, rfl, rfl, trivial⟩ ?_
          refine St.then_n ?_
          refine St.round (k + 1, (k : Int), (termsN kl (partAt q.parts (k : Int)) : Int), ((ofL l (partAt q.parts (k : Int))).length : Int)) ⟨rfl, rfl, rfl, rfl, rfl, rfl, rfl, rfl, trivial⟩ ?_ ?_
          · try dsimp only
            refine ⟨by omega, E, k3, o5, o6, zz, ?_, fun _ => ⟨rfl, rfl⟩, .inr (by omega)⟩
            obtain rfl : b = -1 := by omega
            exact hbest.first hL.asc hm
          · try dsimp only
            omega
        ·
          have hcc := hc (by omega)
          by_cases h53 : (termsN kl (partAt q.parts (k : Int)) : Int) > c8
          ·
            refine St.region ?_
            refine St.r (R.move rfl) rfl rfl ?_
            refine St.r (Runs.lit (c := false) (R.lss rfl rfl) (decide_eq_false h49)) rfl rfl ?_
            refine St.r (R.move rfl) rfl rfl ?_
            refine St.take (dg := 50) rfl rfl ?_ rfl
            refine St.r (R.move rfl) rfl rfl ?_
            refine St.take (dg := 50) rfl rfl ?_ rfl
            refine St.r (R.move rfl) rfl rfl ?_
            refine St.take (dg := 50) rfl rfl ?_ rfl
            refine St.r (Runs.lit (c := true) (R.gtr rfl rfl) (decide_eq_true h53)) rfl rfl ?_
            refine St.r (R.pickF rfl rfl) rfl rfl ?_
            refine St.r (R.move rfl) rfl rfl ?_
            refine St.pass (dg := 55) rfl rfl rfl rfl rfl ?_
            refine St.pass (dg := 55) rfl rfl rfl rfl rfl ?_
            refine St.pass (dg := 55) rfl rfl rfl rfl rfl ?_
            refine St.pass (dg := 55) rfl rfl rfl rfl rfl ?_
            refine St.passU (dg := 59) rfl rfl rfl rfl ?_
            refine St.passU (dg := 59) rfl rfl rfl rfl ?_
            refine St.passU (dg := 59) rfl rfl rfl rfl ?_
            refine St.pass (dg := 55) rfl rfl rfl rfl rfl ?_
            refine St.r (R.pickT rfl rfl) rfl rfl ?_
            refine St.nil ?_
            refine St.weak [(0, _), (3, _), (5, _), (6, _), (7, _), (8, _), (9, _), (10, _), (12, _), (13, _), (64, _)] ⟨rfl, rfl, rfl, rfl, rfl, rfl, rfl, rfl, rfl, rfl, rfl, trivial⟩ ?_
            refine St.then_n ?_
            refine St.go hK19 ?_
            clear hK19
            refine St.condT rfl ?_
            refine St.seq fun K22 hK22 => ?_
            refine St.region ?_
            refine St.r (R.move rfl) rfl rfl ?_
            refine St.r (R.assign rfl) rfl rfl ?_
            refine St.nil ?_
            refine St.weak [(0, _), (3, _), (5, _), (6, _), (7, _), (10, _), (12, _), (13, _)] ⟨rfl, rfl, rfl, rfl, rfl, rfl, rfl, rfl, trivial⟩ ?_
            refine St.then_n ?_
            refine St.go hK22 ?_
            clear hK22
            refine St.seq fun K23 hK23 => ?_
            refine St.region ?_
            refine St.r (R.move rfl) rfl rfl ?_
            refine St.r (R.assign rfl) rfl rfl ?_
            refine St.nil ?_
            refine St.weak [(0, _), (3, _), (5, _), (6, _), (7, _), (8, _), (10, _), (13, _)] ⟨rfl, rfl, rfl, rfl, rfl, rfl, rfl, rfl, trivial⟩ ?_
            refine St.then_n ?_
            refine St.go hK23 ?_
            clear hK23
            refine St.region ?_
            refine St.r (R.move rfl) rfl rfl ?_
            refine St.r (R.assign rfl) rfl rfl ?_
            refine St.nil ?_
            refine St.weak [(0, _), (3, _), (5, _), (6, _), (7, _), (8, _), (9, _), (10, _)] ⟨rfl, rfl, rfl, rfl, rfl, rfl, rfl, rfl, trivial⟩ ?_
            refine St.in_n ?_
            refine St.then_n ?_
            refine St.go hK13 ?_
            clear hK13
            refine St.region ?_
            refine St.r (R.move rfl) rfl rfl ?_
            refine St.r (R.add rfl rfl (by omega) (by omega)) rfl rfl ?_
            refine St.r (R.assign rfl) rfl rfl ?_
            refine St.nil ?_
            refine St.weak [(0, _), (3, _), (5, _), (6, _), (7, _), (8, _), (9, _), (10, _)] ⟨rfl, rfl, rfl, rfl, rfl, rfl, rfl, rfl, trivial⟩ ?_
            refine St.then_n ?_
            refine St.round (k + 1, (k : Int), (termsN kl (partAt q.parts (k : Int)) : Int), ((ofL l (partAt q.parts (k : Int))).length : Int)) ⟨rfl, rfl, rfl, rfl, rfl, rfl, rfl, rfl, trivial⟩ ?_ ?_
            · try dsimp only
              refine ⟨by omega, E, k3, o5, o6, zz, ?_, fun _ => ⟨rfl, rfl⟩, .inr (by omega)⟩
              have hlt : cmpP l q.parts kl (k : Int) b < 0 := cmpP_lt.2 (.inl (by omega))
              have h := hbest.next (by omega) hL.asc hm
              rw [if_pos hlt] at h
              exact h
            · try dsimp only
              omega
          ·
            by_cases h58 : (termsN kl (partAt q.parts (k : Int)) : Int) = c8
            ·
              refine St.region ?_
              refine St.r (R.move rfl) rfl rfl ?_
              refine St.r (Runs.lit (c := false) (R.lss rfl rfl) (decide_eq_false h49)) rfl rfl ?_
              refine St.r (R.move rfl) rfl rfl ?_
              refine St.take (dg := 50) rfl rfl ?_ rfl
              refine St.r (R.move rfl) rfl rfl ?_
              refine St.take (dg := 50) rfl rfl ?_ rfl
              refine St.r (R.move rfl) rfl rfl ?_
              refine St.take (dg := 50) rfl rfl ?_ rfl
              refine St.r (Runs.lit (c := false) (R.gtr rfl rfl) (decide_eq_false h53)) rfl rfl ?_
              refine St.r (R.pickF rfl rfl) rfl rfl ?_
              refine St.r (R.move rfl) rfl rfl ?_
              refine St.take (dg := 55) rfl rfl ?_ rfl
              refine St.r (R.move rfl) rfl rfl ?_
              refine St.take (dg := 55) rfl rfl ?_ rfl
              refine St.r (R.move rfl) rfl rfl ?_
              refine St.take (dg := 55) rfl rfl ?_ rfl
              refine St.r (Runs.lit (c := true) (R.eql rfl rfl) (decide_eq_true h58)) rfl rfl ?_
              refine St.take (dg := 55) rfl rfl ?_ rfl
              refine St.r (R.move rfl) rfl rfl ?_
              refine St.take (dg := 59) rfl rfl ?_ rfl
              refine St.r (R.move rfl) rfl rfl ?_
              refine St.take (dg := 59) rfl rfl ?_ rfl
              refine St.r (R.move rfl) rfl rfl ?_
              refine St.take (dg := 59) rfl rfl ?_ rfl
              refine St.r (R.lss rfl rfl) rfl rfl ?_
              refine St.take (dg := 55) rfl rfl ?_ rfl
              refine St.r (R.pickT rfl rfl) rfl rfl ?_
              refine St.r (R.pickF rfl rfl) rfl rfl ?_
              refine St.nil ?_
              refine St.weak [(0, _), (3, _), (5, _), (6, _), (7, _), (8, _), (9, _), (10, _), (12, _), (13, _), (64, _)] ⟨rfl, rfl, rfl, rfl, rfl, rfl, rfl, rfl, rfl, rfl, rfl, trivial⟩ ?_
              refine St.then_n ?_
              refine St.go hK19 ?_
              clear hK19
              refine St.condD rfl (fun h64 => ?_) (fun h64 => ?_)
              ·
                refine St.seq fun K24 hK24 => ?_
                refine St.region ?_
                refine St.r (R.move rfl) rfl rfl ?_
                refine St.r (R.assign rfl) rfl rfl ?_
                refine St.nil ?_
                refine St.weak [(0, _), (3, _), (5, _), (6, _), (7, _), (10, _), (12, _), (13, _)] ⟨rfl, rfl, rfl, rfl, rfl, rfl, rfl, rfl, trivial⟩ ?_
                refine St.then_n ?_
                refine St.go hK24 ?_
                clear hK24
                refine St.seq fun K25 hK25 => ?_
                refine St.region ?_
                refine St.r (R.move rfl) rfl rfl ?_
                refine St.r (R.assign rfl) rfl rfl ?_
                refine St.nil ?_
                refine St.weak [(0, _), (3, _), (5, _), (6, _), (7, _), (8, _), (10, _), (13, _)] ⟨rfl, rfl, rfl, rfl, rfl, rfl, rfl, rfl, trivial⟩ ?_
                refine St.then_n ?_
                refine St.go hK25 ?_
                clear hK25
                refine St.region ?_
                refine St.r (R.move rfl) rfl rfl ?_
                refine St.r (R.assign rfl) rfl rfl ?_
                refine St.nil ?_
                refine St.weak [(0, _), (3, _), (5, _), (6, _), (7, _), (8, _), (9, _), (10, _)] ⟨rfl, rfl, rfl, rfl, rfl, rfl, rfl, rfl, trivial⟩ ?_
                refine St.in_n ?_
                refine St.then_n ?_
                refine St.go hK13 ?_
                clear hK13
                refine St.region ?_
                refine St.r (R.move rfl) rfl rfl ?_
                refine St.r (R.add rfl rfl (by omega) (by omega)) rfl rfl ?_
                refine St.r (R.assign rfl) rfl rfl ?_
                refine St.nil ?_
                refine St.weak [(0, _), (3, _), (5, _), (6, _), (7, _), (8, _), (9, _), (10, _)] ⟨rfl, rfl, rfl, rfl, rfl, rfl, rfl, rfl, trivial⟩ ?_
                refine St.then_n ?_
                refine St.round (k + 1, (k : Int), (termsN kl (partAt q.parts (k : Int)) : Int), ((ofL l (partAt q.parts (k : Int))).length : Int)) ⟨rfl, rfl, rfl, rfl, rfl, rfl, rfl, rfl, trivial⟩ ?_ ?_
                · try dsimp only
                  refine ⟨by omega, E, k3, o5, o6, zz, ?_, fun _ => ⟨rfl, rfl⟩, .inr (by omega)⟩
                  have hlt : cmpP l q.parts kl (k : Int) b < 0 := cmpP_lt.2 (.inr (by omega))
                  have h := hbest.next (by omega) hL.asc hm
                  rw [if_pos hlt] at h
                  exact h
                · try dsimp only
                  omega
              ·
                refine St.skip ?_
                refine St.in_n ?_
                refine St.then_n ?_
                refine St.go hK13 ?_
                clear hK13
                refine St.region ?_
                refine St.r (R.move rfl) rfl rfl ?_
                refine St.r (R.add rfl rfl (by omega) (by omega)) rfl rfl ?_
                refine St.r (R.assign rfl) rfl rfl ?_
                refine St.nil ?_
                refine St.weak [(0, _), (3, _), (5, _), (6, _), (7, _), (8, _), (9, _), (10, _)] ⟨rfl, rfl, rfl, rfl, rfl, rfl, rfl, rfl, trivial⟩ ?_
                refine St.then_n ?_
                refine St.round (k + 1, b, c8, c9) ⟨rfl, rfl, rfl, rfl, rfl, rfl, rfl, rfl, trivial⟩ ?_ ?_
                · try dsimp only
                  refine ⟨by omega, E, k3, o5, o6, zz, ?_, hc, hb0⟩
                  have hge : ¬ cmpP l q.parts kl (k : Int) b < 0 := fun h => by have := cmpP_lt.1 h; omega
                  have h := hbest.next (by omega) hL.asc hm
                  rw [if_neg hge] at h
                  exact h
                · try dsimp only
                  omega
            ·
              refine St.region ?_
              refine St.r (R.move rfl) rfl rfl ?_
              refine St.r (Runs.lit (c := false) (R.lss rfl rfl) (decide_eq_false h49)) rfl rfl ?_
              refine St.r (R.move rfl) rfl rfl ?_
              refine St.take (dg := 50) rfl rfl ?_ rfl
              refine St.r (R.move rfl) rfl rfl ?_
              refine St.take (dg := 50) rfl rfl ?_ rfl
              refine St.r (R.move rfl) rfl rfl ?_
              refine St.take (dg := 50) rfl rfl ?_ rfl
              refine St.r (Runs.lit (c := false) (R.gtr rfl rfl) (decide_eq_false h53)) rfl rfl ?_
              refine St.r (R.pickF rfl rfl) rfl rfl ?_
              refine St.r (R.move rfl) rfl rfl ?_
              refine St.take (dg := 55) rfl rfl ?_ rfl
              refine St.r (R.move rfl) rfl rfl ?_
              refine St.take (dg := 55) rfl rfl ?_ rfl
              refine St.r (R.move rfl) rfl rfl ?_
              refine St.take (dg := 55) rfl rfl ?_ rfl
              refine St.r (Runs.lit (c := false) (R.eql rfl rfl) (decide_eq_false h58)) rfl rfl ?_
              refine St.take (dg := 55) rfl rfl ?_ rfl
              refine St.r (R.move rfl) rfl rfl ?_
              refine St.pass (dg := 59) rfl rfl rfl rfl rfl ?_
              refine St.pass (dg := 59) rfl rfl rfl rfl rfl ?_
              refine St.pass (dg := 59) rfl rfl rfl rfl rfl ?_
              refine St.take (dg := 55) rfl rfl ?_ rfl
              refine St.r (R.pickF rfl rfl) rfl rfl ?_
              refine St.r (R.pickF rfl rfl) rfl rfl ?_
              refine St.nil ?_
              refine St.weak [(0, _), (3, _), (5, _), (6, _), (7, _), (8, _), (9, _), (10, _), (12, _), (13, _), (64, _)] ⟨rfl, rfl, rfl, rfl, rfl, rfl, rfl, rfl, rfl, rfl, rfl, trivial⟩ ?_
              refine St.then_n ?_
              refine St.go hK19 ?_
              clear hK19
              refine St.condF rfl ?_
              refine St.skip ?_
              refine St.in_n ?_
              refine St.then_n ?_
              refine St.go hK13 ?_
              clear hK13
              refine St.region ?_
              refine St.r (R.move rfl) rfl rfl ?_
              refine St.r (R.add rfl rfl (by omega) (by omega)) rfl rfl ?_
              refine St.r (R.assign rfl) rfl rfl ?_
              refine St.nil ?_
              refine St.weak [(0, _), (3, _), (5, _), (6, _), (7, _), (8, _), (9, _), (10, _)] ⟨rfl, rfl, rfl, rfl, rfl, rfl, rfl, rfl, trivial⟩ ?_
              refine St.then_n ?_
              refine St.round (k + 1, b, c8, c9) ⟨rfl, rfl, rfl, rfl, rfl, rfl, rfl, rfl, trivial⟩ ?_ ?_
              · try dsimp only
                refine ⟨by omega, E, k3, o5, o6, zz, ?_, hc, hb0⟩
                have hge : ¬ cmpP l q.parts kl (k : Int) b < 0 := fun h => by have := cmpP_lt.1 h; omega
                have h := hbest.next (by omega) hL.asc hm
                rw [if_neg hge] at h
                exact h
              · try dsimp only
                omega
    ·
      obtain rfl : k = q.parts.length := by omega
      obtain ⟨hbn, hbm⟩ := hbest.end (fun x hx => (hL.lb x hx).2) (by omega)
      have hbl : b ∈ left := by rw [hbm]; exact minL_mem _ (by omega)
      have hbr := hL.lb b hbl
      have hfl := filter_ne_len hL.nodup hbl
      obtain ⟨px, hxi⟩ := get_of_lt (xs := q.parts) (k := b.toNat) (by omega)
      have hpc := hpv.get hxi
      have hzz := zz
      have hpvl : (partVars px).length ≤ 3 := by unfold partVars; rw [List.length_map]; exact Nat.le_trans (List.length_filter_le _ _) (by simp [slotsOf])
      refine St.exit ?_
      refine St.then_x ?_
      refine St.then_x ?_
      refine St.in_x ?_
      refine St.then_n ?_
      refine St.go hK9 ?_
      clear hK9
      refine St.seq fun K26 hK26 => ?_
      refine St.region ?_
      refine St.r (R.move rfl) rfl rfl ?_
      refine St.r (R.move rfl) rfl rfl ?_
      refine St.buildSl Tryz.underlying27 Tryz.sizeOf3 Tryz.zeroValue3 rfl rfl rfl rfl (by intro u hu; simp only [List.mem_cons, List.not_mem_nil, or_false] at hu; first | (subst hu; rfl) | (rcases hu with rfl | rfl <;> rfl) | (rcases hu with rfl | rfl | rfl <;> rfl) | (rcases hu with rfl | rfl | rfl | rfl <;> rfl)) rfl ?_
      intro w70 b70 hb70 hs70 e70 k70
      have qE70 := E.size
      replace E := Ext.trans E e70
      replace k3 := k3.ext e70
      replace o5 := o5.ext e70
      replace o6 := o6.ext e70
      replace zz := Nat.le_trans zz (Chg.size e70)
      refine St.append (enc := encInt) (fun _ => rfl) one_int Tryz.underlying27 info3 rfl rfl rfl rfl o5 (RSl.mk (enc := encInt) (xs := [b]) encInt_len k70.cells (fun i u hu => hu) (by simp) (by simp)) (by simp; omega) (by simp; omega) (by omega) rfl ?_
      intro v71 w71 a71 g71 at71
      replace E := Ext.then E g71 (by intro j hj hk; have := (o5.base hk).1; omega)
      replace k3 := k3.chg g71 (by intro hk; have := (o5.base hk).1; omega)
      replace o6 := o6.chg g71 (fun k hk e => Own.apart o6 o5 (by decide) hk e)
      replace zz := Nat.le_trans zz (Chg.size g71)
      clear o5; have o5 := a71; clear a71
      refine St.r (R.assign rfl) rfl rfl ?_
      refine St.nil ?_
      refine St.weak [(0, _), (3, _), (5, _), (6, _), (7, _)] ⟨rfl, rfl, rfl, rfl, rfl, trivial⟩ ?_
      refine St.then_n ?_
      refine St.go hK26 ?_
      clear hK26
      refine St.seq fun K27 hK27 => ?_
      refine St.region ?_
      refine St.r (R.fieldA Tryz.underlying26 rfl Tryz.sizeOf24 rfl rfl rfl) rfl rfl ?_
      refine St.r (R.load1 Tryz.isAgg24 rfl (k3.cells.at 1 rfl)) rfl rfl ?_
      refine St.r (R.move rfl) rfl rfl ?_
      refine St.r (R.indexS b.toNat Tryz.underlying24 Tryz.sizeOf48 rfl rfl (by omega) (by omega)) rfl rfl ?_
      refine St.r (R.loadA Tryz.isAgg48 Tryz.sizeOf48 rfl (E.cells hpc) rfl) rfl rfl ?_
      have hkv77 := fun k hk => (o6.base (k := k) hk).2
      refine St.call rfl rfl ent54 (rSlots_ret _) rfl ?_
      rintro r77 w77 ⟨b14, rfl, r14, hb14, e77⟩
      replace E := Ext.trans E e77
      replace k3 := k3.ext e77
      replace o5 := o5.ext e77
      replace o6 := o6.ext e77
      replace zz := Nat.le_trans zz (Chg.size e77)
      refine St.r (R.assign rfl) rfl rfl ?_
      refine St.nil ?_
      refine St.weak [(0, _), (3, _), (5, _), (6, _), (14, _)] ⟨rfl, rfl, rfl, rfl, rfl, trivial⟩ ?_
      refine St.then_n ?_
      refine St.go hK27 ?_
      clear hK27
      refine St.seq fun K28 hK28 => ?_
      refine St.region ?_
      refine St.r (R.assign rfl) rfl rfl ?_
      refine St.nil ?_
      refine St.weak [(0, _), (3, _), (5, _), (6, _), (14, _), (15, _)] ⟨rfl, rfl, rfl, rfl, rfl, rfl, trivial⟩ ?_
      refine St.then_n ?_
      refine St.go hK28 ?_
      clear hK28
      refine St.block ?_
      have hne14 : ∀ k, kv.ownBlock = some k → k ≠ b14 := fun k hk e => by have := hkv77 k hk; omega
      have hb14l : b14 < w77.heap.size := r14.lt (fun x => by rw [encSlot_len]; omega) (by simp [slotsOf]) (k := b14) rfl
      refine St.loop (fun (x : Nat × Value × Value) => match x with | (k, ov2, kv2) => [(0, .slice VA l.length VC), (3, .pointer (some ⟨b3, 0, none⟩)), (5, ov2), (6, kv2), (14, .slice (some ⟨b14, 0, none⟩) 3 3), (15, .int .i64 (k : Int))])
          (fun (x : Nat × Value × Value) w => match x with | (k, ov2, kv2) => k ≤ 3 ∧ Ext w0 w ∧ Blk w b3 26 [vv, .slice (some ⟨pb, po, none⟩) q.parts.length PC, .string q.order, .bool q.down, .bool q.distinct, .int .i64 q.limit] ∧ Own encInt 1 Z 3 w ov2 (out ++ [b]) ∧ Own encStr 1 Z 9 w kv2 (kl ++ (((slotsOf px).take k).filter fun s => decide (s.var ≠ ⟨#[]⟩)).map (·.var)) ∧ Z ≤ w.heap.size ∧ RSl (REnc encSlot) 4 w (.slice (some ⟨b14, 0, none⟩) 3 3) (slotsOf px) ∧ (∀ k, kv2.ownBlock = some k → k ≠ b14) ∧ b14 < w.heap.size)
          (fun (x : Nat × Value × Value) => match x with | (k, ov2, kv2) => 3 - k) (0, _, kv) ⟨rfl, rfl, rfl, rfl, rfl, rfl, trivial⟩ ?_ ?_
      · exact ⟨Nat.zero_le _, E, k3, o5, by simpa using o6, zz, r14, hne14, hb14l⟩
      rintro ⟨k, ov2, kv2⟩ w ⟨hk, E, k3, o5, o6, zz, r14, hne, hb14l⟩
      show St _ _ [(0, .slice VA l.length VC), (3, .pointer (some ⟨b3, 0, none⟩)), (5, ov2), (6, kv2), (14, .slice (some ⟨b14, 0, none⟩) 3 3), (15, .int .i64 (k : Int))] _ _
      refine St.seq fun K29 hK29 => ?_
      refine St.seq fun K30 hK30 => ?_
      refine St.region ?_
      refine St.r (R.move rfl) rfl rfl ?_
      refine St.r (R.lss rfl rfl) rfl rfl ?_
      refine St.nil ?_
      refine St.weak [(0, _), (3, _), (5, _), (6, _), (14, _), (15, _), (79, _)] ⟨rfl, rfl, rfl, rfl, rfl, rfl, rfl, trivial⟩ ?_
      refine St.then_n ?_
      refine St.go hK30 ?_
      clear hK30
      refine St.condD rfl (fun h79 => ?_) (fun h79 => ?_)
      ·
        obtain ⟨s, hs⟩ := slots_get (p := px) (i := k) (by omega)
        have hzz2 := zz
        have hvl : ((((slotsOf px).take k).filter fun s => decide (s.var ≠ ⟨#[]⟩)).map (·.var)).length ≤ 3 := by rw [List.length_map]; exact Nat.le_trans (List.length_filter_le _ _) (by rw [List.length_take]; omega)
        refine St.skip ?_
        refine St.then_n ?_
        refine St.go hK29 ?_
        clear hK29
        refine St.seq fun K31 hK31 => ?_
        refine St.block ?_
        refine St.seq fun K32 hK32 => ?_
        refine St.region ?_
        refine St.r (R.move rfl) rfl rfl ?_
        refine St.r (R.move rfl) rfl rfl ?_
        refine St.r (R.indexS k Tryz.underlying106 Tryz.sizeOf46 rfl rfl rfl (by omega)) rfl rfl ?_
        refine St.r (R.fieldA Tryz.underlying46 rfl Tryz.sizeOf9 rfl rfl rfl) rfl rfl ?_
        refine St.r (R.load1 Tryz.isAgg9 rfl (((r14.get hs).cut 0 1 rfl).at 0 rfl)) rfl rfl ?_
        refine St.r (R.neS rfl rfl) rfl rfl ?_
        refine St.nil ?_
        refine St.weak [(0, _), (3, _), (5, _), (6, _), (14, _), (15, _), (87, _)] ⟨rfl, rfl, rfl, rfl, rfl, rfl, rfl, trivial⟩ ?_
        refine St.then_n ?_
        refine St.go hK32 ?_
        clear hK32
        refine St.condD rfl (fun h87 => ?_) (fun h87 => ?_)
        ·
          refine St.region ?_
          refine St.r (R.move rfl) rfl rfl ?_
          refine St.r (R.move rfl) rfl rfl ?_
          refine St.r (R.move rfl) rfl rfl ?_
          refine St.r (R.indexS k Tryz.underlying106 Tryz.sizeOf46 rfl rfl rfl (by omega)) rfl rfl ?_
          refine St.r (R.fieldA Tryz.underlying46 rfl Tryz.sizeOf9 rfl rfl rfl) rfl rfl ?_
          refine St.r (R.load1 Tryz.isAgg9 rfl (((r14.get hs).cut 0 1 rfl).at 0 rfl)) rfl rfl ?_
          refine St.buildSl Tryz.underlying23 Tryz.sizeOf9 Tryz.zeroValue9 rfl rfl rfl rfl (by intro u hu; simp only [List.mem_cons, List.not_mem_nil, or_false] at hu; first | (subst hu; rfl) | (rcases hu with rfl | rfl <;> rfl) | (rcases hu with rfl | rfl | rfl <;> rfl) | (rcases hu with rfl | rfl | rfl | rfl <;> rfl)) rfl ?_
          intro w94 b94 hb94 hs94 e94 k94
          have qE94 := E.size
          replace E := Ext.trans E e94
          replace k3 := k3.ext e94
          replace o5 := o5.ext e94
          replace o6 := o6.ext e94
          replace zz := Nat.le_trans zz (Chg.size e94)
          replace r14 := r14.ext (REnc.firm _) e94
          refine St.append (enc := encStr) (fun _ => rfl) one_str Tryz.underlying23 info9 rfl rfl rfl rfl o6 (RSl.mk (enc := encStr) (xs := [s.var]) encStr_len k94.cells (fun i u hu => hu) (by simp) (by simp)) (by simp only [List.length_append, List.length_singleton]; omega) (by simp only [List.length_append, List.length_singleton]; omega) (by omega) rfl ?_
          intro v95 w95 a95 g95 at95
          replace E := Ext.then E g95 (by intro j hj hk; have := (o6.base hk).1; omega)
          replace k3 := k3.chg g95 (by intro hk; have := (o6.base hk).1; omega)
          replace o5 := o5.chg g95 (fun k hk e => Own.apart o5 o6 (by decide) hk e)
          replace zz := Nat.le_trans zz (Chg.size g95)
          replace r14 := r14.chg g95 (fun _ k hk e => by injection hk with hk; exact hne k e hk.symm)
          clear o6; have o6 := a95; clear a95
          refine St.r (R.assign rfl) rfl rfl ?_
          refine St.nil ?_
          refine St.weak [(0, _), (3, _), (5, _), (6, _), (14, _), (15, _)] ⟨rfl, rfl, rfl, rfl, rfl, rfl, trivial⟩ ?_
          refine St.in_n ?_
          refine St.then_n ?_
          refine St.go hK31 ?_
          clear hK31
          refine St.region ?_
          refine St.r (R.move rfl) rfl rfl ?_
          refine St.r (R.add rfl rfl (by omega) (by omega)) rfl rfl ?_
          refine St.r (R.assign rfl) rfl rfl ?_
          refine St.nil ?_
          refine St.weak [(0, _), (3, _), (5, _), (6, _), (14, _), (15, _)] ⟨rfl, rfl, rfl, rfl, rfl, rfl, trivial⟩ ?_
          refine St.then_n ?_
          refine St.round (k + 1, ov2, v95) ⟨rfl, rfl, rfl, rfl, rfl, rfl, trivial⟩ ?_ ?_
          · try dsimp only
            refine ⟨by omega, E, k3, o5, ?_, zz, r14, fun k hk => ?_, by have := g95.size; omega⟩
            · rw [take_snoc hs, List.filter_append, List.map_append, ← List.append_assoc]; simpa [h87] using o6
            · rcases at95 with e | e
              · exact hne k (e ▸ hk)
              · rw [e] at hk; injection hk with hk; omega
          · try dsimp only
            omega
        ·
          refine St.skip ?_
          refine St.in_n ?_
          refine St.then_n ?_
          refine St.go hK31 ?_
          clear hK31
          refine St.region ?_
          refine St.r (R.move rfl) rfl rfl ?_
          refine St.r (R.add rfl rfl (by omega) (by omega)) rfl rfl ?_
          refine St.r (R.assign rfl) rfl rfl ?_
          refine St.nil ?_
          refine St.weak [(0, _), (3, _), (5, _), (6, _), (14, _), (15, _)] ⟨rfl, rfl, rfl, rfl, rfl, rfl, trivial⟩ ?_
          refine St.then_n ?_
          refine St.round (k + 1, ov2, kv2) ⟨rfl, rfl, rfl, rfl, rfl, rfl, trivial⟩ ?_ ?_
          · try dsimp only
            refine ⟨by omega, E, k3, o5, ?_, zz, r14, hne, hb14l⟩
            rw [take_snoc hs, List.filter_append, List.map_append, ← List.append_assoc]; simpa [Decidable.not_not.1 h87] using o6
          · try dsimp only
            omega
      ·
        obtain rfl : k = 3 := by omega
        replace o6 : Own encStr 1 Z 9 w kv2 (kl ++ partVars px) := o6
        refine St.exit ?_
        refine St.then_x ?_
        refine St.then_x ?_
        refine St.in_x ?_
        refine St.in_n ?_
        refine St.then_n ?_
        refine St.round (left.filter (fun x => !decide (x = b)), out ++ [b], kl ++ partVars px, ov2, kv2) ⟨rfl, rfl, rfl, rfl, trivial⟩ ?_ ?_
        · try dsimp only
          refine ⟨hL.step hbl, ?_, by rw [List.length_append, List.length_append]; simp only [List.length_singleton]; omega, E, k3, o5, o6, zz⟩
          rw [hord, List.append_assoc, ← hfl, ordL, ← hbm, partAt_get hxi]; rfl
        · try dsimp only
          try simp only
          omega
  ·
    refine St.exit ?_
    refine St.then_x ?_
    refine St.then_x ?_
    refine St.in_x ?_
    refine St.then_n ?_
    refine St.go hK3 ?_
    clear hK3
    refine St.seq fun K33 hK33 => ?_
    refine St.region ?_
    refine St.r (R.move rfl) rfl rfl ?_
    refine St.r (R.assign rfl) rfl rfl ?_
    refine St.nil ?_
    refine St.weak [(4, _)] ⟨rfl, trivial⟩ ?_
    refine St.then_n ?_
    refine St.go hK33 ?_
    clear hK33
    refine St.ret ?_
    refine St.ret1 Tryz.results9 rfl ?_
    have hl0 : left = [] := List.eq_nil_of_length_eq_zero (by omega)
    subst hl0
    exact ⟨_, rfl, by rw [hord]; simpa [ordL] using o5.reads encInt_len, E⟩

theorem bound_ret {vs : List ByteArray} {r : List Term} {name : ByteArray} {v u : Value} (w0 : World) (hv : RStrs w0 v vs) (hr : RTerms w0 u r) : Ret Tryz.prog 109 [v, u, .string name] w0 fun x w' => x = .tuple #[.agg (encTerm ((boundA vs r name).getD noTerm)).toArray, .bool (boundA vs r name).isSome] ∧ Ext w0 w' := by
  obtain ⟨A, c, rfl, hc1, hc2⟩ := hv.form
  obtain ⟨A2, c2, rfl, hd1, hd2⟩ := hr.form
  have E : Ext w0 w0 := Ext.refl w0
  refine St.enter (N := 36) Tryz.func109 rfl Tryz.ntmps109 rfl ?_
  refine St.seq fun K0 hK0 => ?_
  refine St.region ?_
  refine St.alloc Tryz.zeroValue44 rfl ?_
  intro w6 b6 hb6 hs6 e6 k6
  have qE6 := E.size
  replace E := Ext.trans E e6
  refine St.r (R.assign rfl) rfl rfl ?_
  refine St.nil ?_
  refine St.weak [(0, _), (1, _), (2, _), (6, _)] ⟨rfl, rfl, rfl, rfl, trivial⟩ ?_
  refine St.then_n ?_
  refine St.go hK0 ?_
  clear hK0
  refine St.seq fun K1 hK1 => ?_
  refine St.seq fun K2 hK2 => ?_
  refine St.region ?_
  refine St.r (R.assign rfl) rfl rfl ?_
  refine St.nil ?_
  refine St.weak [(0, _), (1, _), (2, _), (6, _), (8, _)] ⟨rfl, rfl, rfl, rfl, rfl, trivial⟩ ?_
  refine St.then_n ?_
  refine St.go hK2 ?_
  clear hK2
  refine St.block ?_
  replace k6 : Blk _ b6 44 [.int .i64 0, .string ⟨#[]⟩, .string ⟨#[]⟩] := k6
  refine St.loop (fun (k : Nat) => [(0, .slice A vs.length c), (1, .slice A2 r.length c2), (2, .string name), (6, .pointer (some ⟨b6, 0, none⟩)), (8, .int .i64 (k : Int))])
      (fun (k : Nat) w => k ≤ vs.length ∧ k ≤ r.length ∧ Ext w0 w ∧ Blk w b6 44 [.int .i64 0, .string ⟨#[]⟩, .string ⟨#[]⟩] ∧ (∀ j y, j < k → vs[j]? = some y → ¬ (y = name ∧ name ≠ ⟨#[]⟩)) ∧ w0.heap.size ≤ b6)
      (fun (k : Nat) => vs.length - k) 0 ⟨rfl, rfl, rfl, rfl, rfl, trivial⟩ ?_ ?_
  · exact ⟨Nat.zero_le _, Nat.zero_le _, E, k6, fun j y h => by omega, by omega⟩
  rintro k w ⟨hk, hk2, E, k6, hall, hb60⟩
  show St _ _ [(0, .slice A vs.length c), (1, .slice A2 r.length c2), (2, .string name), (6, .pointer (some ⟨b6, 0, none⟩)), (8, .int .i64 (k : Int))] _ _
  refine St.seq fun K3 hK3 => ?_
  refine St.seq fun K4 hK4 => ?_
  by_cases h12 : (k : Int) < (vs.length : Int)
  ·
    refine St.region ?_
    refine St.r (R.move rfl) rfl rfl ?_
    refine St.r (R.move rfl) rfl rfl ?_
    refine St.r (R.lenSl Tryz.underlying23 rfl) rfl rfl ?_
    refine St.r (Runs.lit (c := true) (R.lss rfl rfl) (decide_eq_true h12)) rfl rfl ?_
    refine St.r (R.move rfl) rfl rfl ?_
    refine St.take (dg := 13) rfl rfl ?_ rfl
    refine St.r (R.move rfl) rfl rfl ?_
    refine St.take (dg := 13) rfl rfl ?_ rfl
    refine St.r (R.move rfl) rfl rfl ?_
    refine St.take (dg := 13) rfl rfl ?_ rfl
    refine St.r (R.lenSl Tryz.underlying85 rfl) rfl rfl ?_
    refine St.take (dg := 13) rfl rfl ?_ rfl
    refine St.r (R.lss rfl rfl) rfl rfl ?_
    refine St.r (R.pickT rfl rfl) rfl rfl ?_
    refine St.nil ?_
    refine St.weak [(0, _), (1, _), (2, _), (6, _), (8, _), (18, _)] ⟨rfl, rfl, rfl, rfl, rfl, rfl, trivial⟩ ?_
    refine St.then_n ?_
    refine St.go hK4 ?_
    clear hK4
    refine St.condD rfl (fun h18 => ?_) (fun h18 => ?_)
    ·
      obtain ⟨x, hx⟩ := get_of_lt (xs := vs) (k := k) (by omega)
      obtain ⟨b, o, rfl, hxc⟩ := hv.get' hx
      obtain ⟨t, ht⟩ := get_of_lt (xs := r) (k := k) (by omega)
      obtain ⟨b2, o2, rfl, htc⟩ := hr.get' ht
      refine St.skip ?_
      refine St.then_n ?_
      refine St.go hK3 ?_
      clear hK3
      refine St.seq fun K5 hK5 => ?_
      refine St.block ?_
      refine St.seq fun K6 hK6 => ?_
      by_cases h26 : x = name
      ·
        refine St.region ?_
        refine St.r (R.move rfl) rfl rfl ?_
        refine St.r (R.move rfl) rfl rfl ?_
        refine St.r (R.indexS k Tryz.underlying23 Tryz.sizeOf9 rfl rfl rfl (by omega)) rfl rfl ?_
        refine St.r (R.load1 Tryz.isAgg9 rfl ((E.cells hxc).at 0 rfl)) rfl rfl ?_
        refine St.r (R.move rfl) rfl rfl ?_
        refine St.r (Runs.lit (c := true) (R.eqS rfl rfl) (decide_eq_true h26)) rfl rfl ?_
        refine St.r (R.move rfl) rfl rfl ?_
        refine St.take (dg := 27) rfl rfl ?_ rfl
        refine St.r (R.move rfl) rfl rfl ?_
        refine St.take (dg := 27) rfl rfl ?_ rfl
        refine St.r (R.neS rfl rfl) rfl rfl ?_
        refine St.r (R.pickT rfl rfl) rfl rfl ?_
        refine St.nil ?_
        refine St.weak [(0, _), (1, _), (2, _), (6, _), (8, _), (30, _)] ⟨rfl, rfl, rfl, rfl, rfl, rfl, trivial⟩ ?_
        refine St.then_n ?_
        refine St.go hK6 ?_
        clear hK6
        refine St.condD rfl (fun h30 => ?_) (fun h30 => ?_)
        ·
          refine St.seq fun K7 hK7 => ?_
          refine St.region ?_
          refine St.r (R.move rfl) rfl rfl ?_
          refine St.r (R.move rfl) rfl rfl ?_
          refine St.r (R.indexS k Tryz.underlying85 Tryz.sizeOf44 rfl rfl rfl (by omega)) rfl rfl ?_
          refine St.r (R.loadA Tryz.isAgg44 Tryz.sizeOf44 rfl (E.cells htc) rfl) rfl rfl ?_
          refine St.store Tryz.sizeOf44 rfl rfl k6 rfl (by simp [Value.cells, encTerm]) (one_term t) ?_
          intro ws0 ks0 gs0 zs0
          replace E := Ext.then E gs0 (by intro j hj; omega)
          clear k6; have k6 := ks0; clear ks0
          replace k6 : Blk ws0 b6 44 (encTerm t) := k6
          refine St.r (R.assign rfl) rfl rfl ?_
          refine St.nil ?_
          refine St.weak [(6, _), (7, _)] ⟨rfl, rfl, trivial⟩ ?_
          refine St.then_n ?_
          refine St.go hK7 ?_
          clear hK7
          refine St.ret ?_
          refine St.in_r ?_
          refine St.then_r ?_
          refine St.then_r ?_
          refine St.in_r ?_
          refine St.then_r ?_
          refine St.retAE Tryz.results109 Tryz.isAgg44 Tryz.sizeOf44 rfl rfl k6.cells rfl ?_
          subst h26
          exact ⟨_, rfl, by rw [boundA_some hx ht h30 hall]; rfl, E⟩
        ·
          refine St.skip ?_
          refine St.in_n ?_
          refine St.then_n ?_
          refine St.go hK5 ?_
          clear hK5
          refine St.region ?_
          refine St.r (R.move rfl) rfl rfl ?_
          refine St.r (R.add rfl rfl (by omega) (by omega)) rfl rfl ?_
          refine St.r (R.assign rfl) rfl rfl ?_
          refine St.nil ?_
          refine St.weak [(0, _), (1, _), (2, _), (6, _), (8, _)] ⟨rfl, rfl, rfl, rfl, rfl, trivial⟩ ?_
          refine St.then_n ?_
          refine St.round (k + 1) ⟨rfl, rfl, rfl, rfl, rfl, trivial⟩ ?_ ?_
          · refine ⟨by omega, by omega, E, k6, fun j y hj hy => ?_, hb60⟩
            rcases Nat.lt_or_ge j k with h | h
            · exact hall j y h hy
            · obtain rfl : j = k := by omega
              rw [hx] at hy; injection hy with hy; subst hy
              exact fun e => h30 e.2
          · omega
      ·
        refine St.region ?_
        refine St.r (R.move rfl) rfl rfl ?_
        refine St.r (R.move rfl) rfl rfl ?_
        refine St.r (R.indexS k Tryz.underlying23 Tryz.sizeOf9 rfl rfl rfl (by omega)) rfl rfl ?_
        refine St.r (R.load1 Tryz.isAgg9 rfl ((E.cells hxc).at 0 rfl)) rfl rfl ?_
        refine St.r (R.move rfl) rfl rfl ?_
        refine St.r (Runs.lit (c := false) (R.eqS rfl rfl) (decide_eq_false h26)) rfl rfl ?_
        refine St.r (R.move rfl) rfl rfl ?_
        refine St.pass (dg := 27) rfl rfl rfl rfl rfl ?_
        refine St.pass (dg := 27) rfl rfl rfl rfl rfl ?_
        refine St.r (R.pickF rfl rfl) rfl rfl ?_
        refine St.nil ?_
        refine St.weak [(0, _), (1, _), (2, _), (6, _), (8, _), (30, _)] ⟨rfl, rfl, rfl, rfl, rfl, rfl, trivial⟩ ?_
        refine St.then_n ?_
        refine St.go hK6 ?_
        clear hK6
        refine St.condF rfl ?_
        refine St.skip ?_
        refine St.in_n ?_
        refine St.then_n ?_
        refine St.go hK5 ?_
        clear hK5
        refine St.region ?_
        refine St.r (R.move rfl) rfl rfl ?_
        refine St.r (R.add rfl rfl (by omega) (by omega)) rfl rfl ?_
        refine St.r (R.assign rfl) rfl rfl ?_
        refine St.nil ?_
        refine St.weak [(0, _), (1, _), (2, _), (6, _), (8, _)] ⟨rfl, rfl, rfl, rfl, rfl, trivial⟩ ?_
        refine St.then_n ?_
        refine St.round (k + 1) ⟨rfl, rfl, rfl, rfl, rfl, trivial⟩ ?_ ?_
        · refine ⟨by omega, by omega, E, k6, fun j y hj hy => ?_, hb60⟩
          rcases Nat.lt_or_ge j k with h | h
          · exact hall j y h hy
          · obtain rfl : j = k := by omega
            rw [hx] at hy; injection hy with hy; subst hy
            exact fun e => h26 e.1
        · omega
    ·
      refine St.exit ?_
      refine St.then_x ?_
      refine St.then_x ?_
      refine St.in_x ?_
      refine St.then_n ?_
      refine St.go hK1 ?_
      clear hK1
      refine St.seq fun K8 hK8 => ?_
      refine St.region ?_
      refine St.r (R.build Tryz.underlying44 (places44 _ Tryz.underlying44) Tryz.zeroValue44 rfl rfl rfl) rfl rfl ?_
      refine St.store Tryz.sizeOf44 rfl rfl k6 rfl (by simp [Value.cells]) (one_term noTerm) ?_
      intro ws1 ks1 gs1 zs1
      replace E := Ext.then E gs1 (by intro j hj; omega)
      clear k6; have k6 := ks1; clear ks1
      replace k6 : Blk ws1 b6 44 (encTerm noTerm) := k6
      refine St.r (R.assign rfl) rfl rfl ?_
      refine St.nil ?_
      refine St.weak [(6, _), (7, _)] ⟨rfl, rfl, trivial⟩ ?_
      refine St.then_n ?_
      refine St.go hK8 ?_
      clear hK8
      refine St.ret ?_
      refine St.retAE Tryz.results109 Tryz.isAgg44 Tryz.sizeOf44 rfl rfl k6.cells rfl ?_
      exact ⟨_, rfl, by rw [boundA_none (fun j y hj hy => hall j y (by omega) hy)]; rfl, E⟩
  ·
    refine St.region ?_
    refine St.r (R.move rfl) rfl rfl ?_
    refine St.r (R.move rfl) rfl rfl ?_
    refine St.r (R.lenSl Tryz.underlying23 rfl) rfl rfl ?_
    refine St.r (Runs.lit (c := false) (R.lss rfl rfl) (decide_eq_false h12)) rfl rfl ?_
    refine St.r (R.move rfl) rfl rfl ?_
    refine St.pass (dg := 13) rfl rfl rfl rfl rfl ?_
    refine St.pass (dg := 13) rfl rfl rfl rfl rfl ?_
    refine St.pass (dg := 13) rfl rfl rfl rfl rfl ?_
    refine St.pass (dg := 13) rfl rfl rfl rfl rfl ?_
    refine St.r (R.pickF rfl rfl) rfl rfl ?_
    refine St.nil ?_
    refine St.weak [(0, _), (1, _), (2, _), (6, _), (8, _), (18, _)] ⟨rfl, rfl, rfl, rfl, rfl, rfl, trivial⟩ ?_
    refine St.then_n ?_
    refine St.go hK4 ?_
    clear hK4
    refine St.condF rfl ?_
    refine St.exit ?_
    refine St.then_x ?_
    refine St.then_x ?_
    refine St.in_x ?_
    refine St.then_n ?_
    refine St.go hK1 ?_
    clear hK1
    refine St.seq fun K9 hK9 => ?_
    refine St.region ?_
    refine St.r (R.build Tryz.underlying44 (places44 _ Tryz.underlying44) Tryz.zeroValue44 rfl rfl rfl) rfl rfl ?_
    refine St.store Tryz.sizeOf44 rfl rfl k6 rfl (by simp [Value.cells]) (one_term noTerm) ?_
    intro ws1 ks1 gs1 zs1
    replace E := Ext.then E gs1 (by intro j hj; omega)
    clear k6; have k6 := ks1; clear ks1
    replace k6 : Blk ws1 b6 44 (encTerm noTerm) := k6
    refine St.r (R.assign rfl) rfl rfl ?_
    refine St.nil ?_
    refine St.weak [(6, _), (7, _)] ⟨rfl, rfl, trivial⟩ ?_
    refine St.then_n ?_
    refine St.go hK9 ?_
    clear hK9
    refine St.ret ?_
    refine St.retAE Tryz.results109 Tryz.isAgg44 Tryz.sizeOf44 rfl rfl k6.cells rfl ?_
    exact ⟨_, rfl, by rw [boundA_none (fun j y hj hy => hall j y (by omega) hy)]; rfl, E⟩

set_option maxHeartbeats 1000000 in
theorem tBind_ret {p : Pat} {vs : List ByteArray} {r : List Term} {v u : Value} (w0 : World) (hv : RStrs w0 v vs) (hr : RTerms w0 u r) : Ret Tryz.prog 46 [.agg (encPat p).toArray, v, u] w0 fun x w' => x = .agg (encPat (patA (vs.zip r) p)).toArray ∧ Ext w0 w' := by
  have E : Ext w0 w0 := Ext.refl w0
  refine St.enter (N := 53) Tryz.func46 rfl Tryz.ntmps46 rfl ?_
  refine St.seq fun K0 hK0 => ?_
  refine St.region ?_
  refine St.box rfl rfl ?_
  intro w3 b3 hb3 hs3 e3 k3
  have qE3 := E.size
  replace E := Ext.trans E e3
  refine St.alloc Tryz.zeroValue48 rfl ?_
  intro w6 b6 hb6 hs6 e6 k6
  have qE6 := E.size
  replace E := Ext.trans E e6
  replace k3 := k3.ext e6
  refine St.nil ?_
  refine St.weak [(1, _), (2, _), (3, _), (6, _)] ⟨rfl, rfl, rfl, rfl, trivial⟩ ?_
  refine St.then_n ?_
  refine St.go hK0 ?_
  clear hK0
  refine St.seq fun K1 hK1 => ?_
  refine St.region ?_
  replace k6 : Blk _ b6 48 (encPat ⟨⟨⟨#[]⟩, noTerm⟩, ⟨⟨#[]⟩, noTerm⟩, ⟨⟨#[]⟩, noTerm⟩⟩) := k6
  obtain ⟨zc, hzc, hzl⟩ : ∃ zc, zc = encPat ⟨⟨⟨#[]⟩, noTerm⟩, ⟨⟨#[]⟩, noTerm⟩, ⟨⟨#[]⟩, noTerm⟩⟩ ∧ zc.length = 12 := ⟨_, rfl, rfl⟩
  rw [← hzc] at k6
  have y3 := k3.lt
  have y6 := k6.lt
  refine St.r (R.move rfl) rfl rfl ?_
  refine St.r (R.move rfl) rfl rfl ?_
  refine St.r (R.fieldA Tryz.underlying48 rfl Tryz.sizeOf46 rfl rfl rfl) rfl rfl ?_
  refine St.r (R.fieldA Tryz.underlying46 rfl Tryz.sizeOf9 rfl rfl rfl) rfl rfl ?_
  refine St.r (R.load1 Tryz.isAgg9 rfl (k3.cells.at 0 rfl)) rfl rfl ?_
  refine St.call rfl rfl ent109 (bound_ret _ (hv.ext (REnc.firm _) E) (hr.ext (REnc.firm _) E)) rfl ?_
  rintro r19 w19 ⟨rfl, e19⟩
  replace E := Ext.trans E e19
  replace k3 := k3.ext e19
  replace k6 := k6.ext e19
  refine St.r (R.move rfl) rfl rfl ?_
  refine St.r (R.extract rfl rfl) rfl rfl ?_
  refine St.r (R.extract rfl rfl) rfl rfl ?_
  have z3a := k3.lt
  have z6a := k6.lt
  refine St.alloc Tryz.zeroValue44 rfl ?_
  intro w7 b7 hb7 hs7 e7 k7
  have qE7 := E.size
  replace E := Ext.trans E e7
  replace k3 := k3.ext e7
  replace k6 := k6.ext e7
  refine St.store Tryz.sizeOf44 rfl rfl k7 rfl (by simp [Value.cells, encTerm]) (one_term ((boundA vs r p.s.var).getD noTerm)) ?_
  intro ws0 ks0 gs0 zs0
  replace E := Ext.then E gs0 (by intro j hj; omega)
  replace k3 := k3.chg gs0 (by omega)
  replace k6 := k6.chg gs0 (by omega)
  clear k7; have k7 := ks0; clear ks0
  replace k7 : Blk _ b7 44 (encTerm ((boundA vs r p.s.var).getD noTerm)) := k7
  refine St.r (R.assign rfl) rfl rfl ?_
  refine St.nil ?_
  refine St.weak [(1, _), (2, _), (3, _), (6, _), (7, _), (8, _)] ⟨rfl, rfl, rfl, rfl, rfl, rfl, trivial⟩ ?_
  refine St.then_n ?_
  refine St.go hK1 ?_
  clear hK1
  refine St.seq fun K2 hK2 => ?_
  refine St.region ?_
  refine St.r (R.move rfl) rfl rfl ?_
  refine St.r (R.move rfl) rfl rfl ?_
  refine St.r (R.fieldA Tryz.underlying48 rfl Tryz.sizeOf46 rfl rfl rfl) rfl rfl ?_
  refine St.r (R.fieldA Tryz.underlying46 rfl Tryz.sizeOf9 rfl rfl rfl) rfl rfl ?_
  refine St.r (R.load1 Tryz.isAgg9 rfl (k3.cells.at 4 rfl)) rfl rfl ?_
  refine St.call rfl rfl ent109 (bound_ret _ (hv.ext (REnc.firm _) E) (hr.ext (REnc.firm _) E)) rfl ?_
  rintro r28 w28 ⟨rfl, e28⟩
  replace E := Ext.trans E e28
  replace k3 := k3.ext e28
  replace k6 := k6.ext e28
  replace k7 := k7.ext e28
  refine St.r (R.move rfl) rfl rfl ?_
  refine St.r (R.extract rfl rfl) rfl rfl ?_
  refine St.r (R.extract rfl rfl) rfl rfl ?_
  have z3b := k3.lt
  have z6b := k6.lt
  have z7b := k7.lt
  refine St.alloc Tryz.zeroValue44 rfl ?_
  intro w9 b9 hb9 hs9 e9 k9
  have qE9 := E.size
  replace E := Ext.trans E e9
  replace k3 := k3.ext e9
  replace k6 := k6.ext e9
  replace k7 := k7.ext e9
  refine St.store Tryz.sizeOf44 rfl rfl k9 rfl (by simp [Value.cells, encTerm]) (one_term ((boundA vs r p.p.var).getD noTerm)) ?_
  intro ws1 ks1 gs1 zs1
  replace E := Ext.then E gs1 (by intro j hj; omega)
  replace k3 := k3.chg gs1 (by omega)
  replace k6 := k6.chg gs1 (by omega)
  replace k7 := k7.chg gs1 (by omega)
  clear k9; have k9 := ks1; clear ks1
  replace k9 : Blk _ b9 44 (encTerm ((boundA vs r p.p.var).getD noTerm)) := k9
  refine St.r (R.assign rfl) rfl rfl ?_
  refine St.nil ?_
  refine St.weak [(1, _), (2, _), (3, _), (6, _), (7, _), (8, _), (9, _), (10, _)] ⟨rfl, rfl, rfl, rfl, rfl, rfl, rfl, rfl, trivial⟩ ?_
  refine St.then_n ?_
  refine St.go hK2 ?_
  clear hK2
  refine St.seq fun K3 hK3 => ?_
  refine St.region ?_
  refine St.r (R.move rfl) rfl rfl ?_
  refine St.r (R.move rfl) rfl rfl ?_
  refine St.r (R.fieldA Tryz.underlying48 rfl Tryz.sizeOf46 rfl rfl rfl) rfl rfl ?_
  refine St.r (R.fieldA Tryz.underlying46 rfl Tryz.sizeOf9 rfl rfl rfl) rfl rfl ?_
  refine St.r (R.load1 Tryz.isAgg9 rfl (k3.cells.at 8 rfl)) rfl rfl ?_
  refine St.call rfl rfl ent109 (bound_ret _ (hv.ext (REnc.firm _) E) (hr.ext (REnc.firm _) E)) rfl ?_
  rintro r37 w37 ⟨rfl, e37⟩
  replace E := Ext.trans E e37
  replace k3 := k3.ext e37
  replace k6 := k6.ext e37
  replace k7 := k7.ext e37
  replace k9 := k9.ext e37
  refine St.r (R.move rfl) rfl rfl ?_
  refine St.r (R.extract rfl rfl) rfl rfl ?_
  refine St.r (R.extract rfl rfl) rfl rfl ?_
  have z3c := k3.lt
  have z6c := k6.lt
  have z7c := k7.lt
  have z9c := k9.lt
  refine St.alloc Tryz.zeroValue44 rfl ?_
  intro w11 b11 hb11 hs11 e11 k11
  have qE11 := E.size
  replace E := Ext.trans E e11
  replace k3 := k3.ext e11
  replace k6 := k6.ext e11
  replace k7 := k7.ext e11
  replace k9 := k9.ext e11
  refine St.store Tryz.sizeOf44 rfl rfl k11 rfl (by simp [Value.cells, encTerm]) (one_term ((boundA vs r p.o.var).getD noTerm)) ?_
  intro ws2 ks2 gs2 zs2
  replace E := Ext.then E gs2 (by intro j hj; omega)
  replace k3 := k3.chg gs2 (by omega)
  replace k6 := k6.chg gs2 (by omega)
  replace k7 := k7.chg gs2 (by omega)
  replace k9 := k9.chg gs2 (by omega)
  clear k11; have k11 := ks2; clear ks2
  replace k11 : Blk _ b11 44 (encTerm ((boundA vs r p.o.var).getD noTerm)) := k11
  refine St.r (R.assign rfl) rfl rfl ?_
  refine St.nil ?_
  refine St.weak [(3, _), (6, _), (7, _), (8, _), (9, _), (10, _), (11, _), (12, _)] ⟨rfl, rfl, rfl, rfl, rfl, rfl, rfl, rfl, trivial⟩ ?_
  refine St.then_n ?_
  refine St.go hK3 ?_
  clear hK3
  refine St.seqJ (fun (x : Unit) => match x with | () => [(3, .pointer (some ⟨b3, 0, none⟩)), (6, .pointer (some ⟨b6, 0, none⟩)), (9, .pointer (some ⟨b9, 0, none⟩)), (10, .bool (boundA vs r p.p.var).isSome), (11, .pointer (some ⟨b11, 0, none⟩)), (12, .bool (boundA vs r p.o.var).isSome)])
      (fun (x : Unit) w => match x with | () => Ext w0 w ∧ Blk w b3 48 (encPat ⟨slotA (vs.zip r) p.s, p.p, p.o⟩) ∧ Blk w b6 48 zc ∧ Blk w b9 44 (encTerm ((boundA vs r p.p.var).getD noTerm)) ∧ Blk w b11 44 (encTerm ((boundA vs r p.o.var).getD noTerm)) ∧ b3 ≠ b6 ∧ b3 ≠ b9 ∧ b3 ≠ b11 ∧ b6 ≠ b9 ∧ b6 ≠ b11 ∧ w0.heap.size ≤ b3 ∧ w0.heap.size ≤ b6) ?_ ?_
  · rintro _ w ⟨E, k3, k6, k9, k11, hap⟩
    show St _ _ [(3, .pointer (some ⟨b3, 0, none⟩)), (6, .pointer (some ⟨b6, 0, none⟩)), (9, .pointer (some ⟨b9, 0, none⟩)), (10, .bool (boundA vs r p.p.var).isSome), (11, .pointer (some ⟨b11, 0, none⟩)), (12, .bool (boundA vs r p.o.var).isSome)] _ _
    obtain ⟨n1, n2, n3, n4, n5, n6, n7⟩ := hap
    refine St.seqJ (fun (x : Unit) => match x with | () => [(3, .pointer (some ⟨b3, 0, none⟩)), (6, .pointer (some ⟨b6, 0, none⟩)), (11, .pointer (some ⟨b11, 0, none⟩)), (12, .bool (boundA vs r p.o.var).isSome)])
        (fun (x : Unit) w => match x with | () => Ext w0 w ∧ Blk w b3 48 (encPat ⟨slotA (vs.zip r) p.s, slotA (vs.zip r) p.p, p.o⟩) ∧ Blk w b6 48 zc ∧ Blk w b11 44 (encTerm ((boundA vs r p.o.var).getD noTerm)) ∧ b3 ≠ b6 ∧ b3 ≠ b9 ∧ b3 ≠ b11 ∧ b6 ≠ b9 ∧ b6 ≠ b11 ∧ w0.heap.size ≤ b3 ∧ w0.heap.size ≤ b6) ?_ ?_
    · rintro _ w ⟨E, k3, k6, k11, hap⟩
      show St _ _ [(3, .pointer (some ⟨b3, 0, none⟩)), (6, .pointer (some ⟨b6, 0, none⟩)), (11, .pointer (some ⟨b11, 0, none⟩)), (12, .bool (boundA vs r p.o.var).isSome)] _ _
      obtain ⟨n1, n2, n3, n4, n5, n6, n7⟩ := hap
      refine St.seqJ (fun (x : Unit) => match x with | () => [(3, .pointer (some ⟨b3, 0, none⟩)), (6, .pointer (some ⟨b6, 0, none⟩))])
          (fun (x : Unit) w => match x with | () => Ext w0 w ∧ Blk w b3 48 (encPat ⟨slotA (vs.zip r) p.s, slotA (vs.zip r) p.p, slotA (vs.zip r) p.o⟩) ∧ Blk w b6 48 zc ∧ b3 ≠ b6 ∧ b3 ≠ b9 ∧ b3 ≠ b11 ∧ b6 ≠ b9 ∧ b6 ≠ b11 ∧ w0.heap.size ≤ b3 ∧ w0.heap.size ≤ b6) ?_ ?_
      · rintro _ w ⟨E, k3, k6, hap⟩
        show St _ _ [(3, .pointer (some ⟨b3, 0, none⟩)), (6, .pointer (some ⟨b6, 0, none⟩))] _ _
        obtain ⟨n1, n2, n3, n4, n5, n6, n7⟩ := hap
        refine St.seq fun K7 hK7 => ?_
        refine St.region ?_
        refine St.r (R.loadA Tryz.isAgg48 Tryz.sizeOf48 rfl k3.cells rfl) rfl rfl ?_
        refine St.store Tryz.sizeOf48 rfl rfl k6 rfl (by rw [hzl]; simp [Value.cells, encPat, encSlot, encTerm]) (one_pat (patA (vs.zip r) p)) ?_
        intro ws6 ks6 gs6 zs6
        replace E := Ext.then E gs6 (by intro j hj; omega)
        replace k3 := k3.chg gs6 (by omega)
        clear k6; have k6 := ks6; clear ks6
        have e6 : splice zc 0 (Value.agg (encPat (patA (vs.zip r) p)).toArray).cells.toList = encPat (patA (vs.zip r) p) := by
          rw [splice_eq (by rw [hzl]; show 0 + 12 ≤ 12; omega), List.take_zero, List.drop_of_length_le (by rw [hzl]; show 12 ≤ 0 + 12; omega)]; simp [Value.cells]
        replace k6 : Blk ws6 b6 48 (encPat (patA (vs.zip r) p)) := by rw [← e6]; exact k6
        refine St.nil ?_
        refine St.weak [(6, _)] ⟨rfl, trivial⟩ ?_
        refine St.then_n ?_
        refine St.go hK7 ?_
        clear hK7
        refine St.ret ?_
        refine St.retA Tryz.results46 Tryz.isAgg48 Tryz.sizeOf48 rfl k6.cells rfl ?_
        exact ⟨_, rfl, rfl, E⟩
      intro K6 hK6
      refine St.seq fun K8 hK8 => ?_
      refine St.region ?_
      refine St.r (R.move rfl) rfl rfl ?_
      refine St.nil ?_
      refine St.weak [(3, _), (6, _), (11, _), (48, _)] ⟨rfl, rfl, rfl, rfl, trivial⟩ ?_
      refine St.then_n ?_
      refine St.go hK8 ?_
      clear hK8
      refine St.cond rfl (fun h48 => ?_) (fun h48 => ?_)
      ·
        refine St.region ?_
        refine St.r (R.loadA Tryz.isAgg44 Tryz.sizeOf44 rfl k11.cells rfl) rfl rfl ?_
        refine St.r (R.build Tryz.underlying46 (places46 _ Tryz.underlying46) Tryz.zeroValue46 rfl rfl rfl) rfl rfl ?_
        refine St.r (R.fieldA Tryz.underlying48 rfl Tryz.sizeOf46 rfl rfl rfl) rfl rfl ?_
        refine St.store Tryz.sizeOf46 rfl rfl k3 rfl (by simp [Value.cells, encPat, encSlot, encTerm]) (one_slot ⟨⟨#[]⟩, (boundA vs r p.o.var).getD noTerm⟩) ?_
        intro ws5 ks5 gs5 zs5
        replace E := Ext.then E gs5 (by intro j hj; omega)
        replace k6 := k6.chg gs5 (by omega)
        replace k11 := k11.chg gs5 (by omega)
        clear k3; have k3 := ks5; clear ks5
        replace k3 : Blk ws5 b3 48 (encPat ⟨slotA (vs.zip r) p.s, slotA (vs.zip r) p.p, slotA (vs.zip r) p.o⟩) := by rw [slotA_bound (s := p.o) h48]; exact k3
        refine St.nil ?_
        refine St.weak [(3, _), (6, _)] ⟨rfl, rfl, trivial⟩ ?_
        refine St.then_n ?_
        refine St.meet hK6 () ⟨rfl, rfl, trivial⟩ ?_
        · exact ⟨E, k3, k6, by omega⟩
      ·
        refine St.skip ?_
        refine St.then_n ?_
        refine St.meet hK6 () ⟨rfl, rfl, trivial⟩ ?_
        · exact ⟨E, by rw [slotA_free (s := p.o) h48]; exact k3, k6, by omega⟩
    intro K5 hK5
    refine St.seq fun K9 hK9 => ?_
    refine St.region ?_
    refine St.r (R.move rfl) rfl rfl ?_
    refine St.nil ?_
    refine St.weak [(3, _), (6, _), (9, _), (11, _), (12, _), (44, _)] ⟨rfl, rfl, rfl, rfl, rfl, rfl, trivial⟩ ?_
    refine St.then_n ?_
    refine St.go hK9 ?_
    clear hK9
    refine St.cond rfl (fun h44 => ?_) (fun h44 => ?_)
    ·
      refine St.region ?_
      refine St.r (R.loadA Tryz.isAgg44 Tryz.sizeOf44 rfl k9.cells rfl) rfl rfl ?_
      refine St.r (R.build Tryz.underlying46 (places46 _ Tryz.underlying46) Tryz.zeroValue46 rfl rfl rfl) rfl rfl ?_
      refine St.r (R.fieldA Tryz.underlying48 rfl Tryz.sizeOf46 rfl rfl rfl) rfl rfl ?_
      refine St.store Tryz.sizeOf46 rfl rfl k3 rfl (by simp [Value.cells, encPat, encSlot, encTerm]) (one_slot ⟨⟨#[]⟩, (boundA vs r p.p.var).getD noTerm⟩) ?_
      intro ws4 ks4 gs4 zs4
      replace E := Ext.then E gs4 (by intro j hj; omega)
      replace k6 := k6.chg gs4 (by omega)
      replace k9 := k9.chg gs4 (by omega)
      replace k11 := k11.chg gs4 (by omega)
      clear k3; have k3 := ks4; clear ks4
      replace k3 : Blk ws4 b3 48 (encPat ⟨slotA (vs.zip r) p.s, slotA (vs.zip r) p.p, p.o⟩) := by rw [slotA_bound (s := p.p) h44]; exact k3
      refine St.nil ?_
      refine St.weak [(3, _), (6, _), (11, _), (12, _)] ⟨rfl, rfl, rfl, rfl, trivial⟩ ?_
      refine St.then_n ?_
      refine St.meet hK5 () ⟨rfl, rfl, rfl, rfl, trivial⟩ ?_
      · exact ⟨E, k3, k6, k11, by omega⟩
    ·
      refine St.skip ?_
      refine St.then_n ?_
      refine St.meet hK5 () ⟨rfl, rfl, rfl, rfl, trivial⟩ ?_
      · exact ⟨E, by rw [slotA_free (s := p.p) h44]; exact k3, k6, k11, by omega⟩
  intro K4 hK4
  refine St.seq fun K10 hK10 => ?_
  refine St.region ?_
  refine St.r (R.move rfl) rfl rfl ?_
  refine St.nil ?_
  refine St.weak [(3, _), (6, _), (7, _), (9, _), (10, _), (11, _), (12, _), (40, _)] ⟨rfl, rfl, rfl, rfl, rfl, rfl, rfl, rfl, trivial⟩ ?_
  refine St.then_n ?_
  refine St.go hK10 ?_
  clear hK10
  refine St.cond rfl (fun h40 => ?_) (fun h40 => ?_)
  ·
    refine St.region ?_
    refine St.r (R.loadA Tryz.isAgg44 Tryz.sizeOf44 rfl k7.cells rfl) rfl rfl ?_
    refine St.r (R.build Tryz.underlying46 (places46 _ Tryz.underlying46) Tryz.zeroValue46 rfl rfl rfl) rfl rfl ?_
    refine St.r (R.fieldA Tryz.underlying48 rfl Tryz.sizeOf46 rfl rfl rfl) rfl rfl ?_
    refine St.store Tryz.sizeOf46 rfl rfl k3 rfl (by simp [Value.cells, encPat, encSlot, encTerm]) (one_slot ⟨⟨#[]⟩, (boundA vs r p.s.var).getD noTerm⟩) ?_
    intro ws3 ks3 gs3 zs3
    replace E := Ext.then E gs3 (by intro j hj; omega)
    replace k6 := k6.chg gs3 (by omega)
    replace k7 := k7.chg gs3 (by omega)
    replace k9 := k9.chg gs3 (by omega)
    replace k11 := k11.chg gs3 (by omega)
    clear k3; have k3 := ks3; clear ks3
    replace k3 : Blk ws3 b3 48 (encPat ⟨slotA (vs.zip r) p.s, p.p, p.o⟩) := by rw [slotA_bound (s := p.s) h40]; exact k3
    refine St.nil ?_
    refine St.weak [(3, _), (6, _), (9, _), (10, _), (11, _), (12, _)] ⟨rfl, rfl, rfl, rfl, rfl, rfl, trivial⟩ ?_
    refine St.then_n ?_
    refine St.meet hK4 () ⟨rfl, rfl, rfl, rfl, rfl, rfl, trivial⟩ ?_
    · exact ⟨E, k3, k6, k9, k11, by omega⟩
  ·
    refine St.skip ?_
    refine St.then_n ?_
    refine St.meet hK4 () ⟨rfl, rfl, rfl, rfl, rfl, rfl, trivial⟩ ?_
    · exact ⟨E, by rw [slotA_free (s := p.s) h40]; exact k3, k6, k9, k11, by omega⟩

end Go.Proofs.YtjgcmpondbocfaaGreatDoor

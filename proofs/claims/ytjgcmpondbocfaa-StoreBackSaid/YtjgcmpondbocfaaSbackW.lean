/- What the law StoreBack comes to: walked against plain Lean. Under the reading of its arguments. -/
import Derived.Test.YtjgcmpondbocfaaProg
import Derived.Test.YtjgcmpondbocfaaIdsW
namespace Go.Proofs.Ytjgcmpondbocfaa
open Go.RowKit 
theorem ent19 : Ent Try.prog 19 := Ent.of Try.func19 (by kernel_rfl) rfl
theorem ent20 : Ent Try.prog 20 := Ent.of Try.func20 (by kernel_rfl) rfl
theorem ent21 : Ent Try.prog 21 := Ent.of Try.func21 (by kernel_rfl) rfl
theorem ent22 : Ent Try.prog 22 := Ent.of Try.func22 (by kernel_rfl) rfl
theorem ent23 : Ent Try.prog 23 := Ent.of Try.func23 (by kernel_rfl) rfl
theorem ent24 : Ent Try.prog 24 := Ent.of Try.func24 (by kernel_rfl) rfl
theorem ent25 : Ent Try.prog 25 := Ent.of Try.func25 (by kernel_rfl) rfl

def sX : Sto := ⟨1, 1, [(⟨#[120]⟩, 1)], [(1, ⟨#[120]⟩)]⟩
theorem putX : putS Sto.empty ⟨#[120]⟩ = (1, none, sX) := rfl
theorem sX_ok : sX.Ok := by
  have h := putS_ok Sto.Ok.empty (by decide) ⟨#[120]⟩
  rw [putX] at h; exact h
theorem putAll_X {bs : List ByteArray} (h : bs.length ≤ 100) : (putAll sX bs).Ok ∧ (putAll sX bs).last ≤ 101 := by
  obtain ⟨h1, h2, h3⟩ := putAll_ok sX_ok bs (by show (1 : Int) + _ ≤ _; omega)
  exact ⟨h1, by have : sX.last = 1 := rfl; omega⟩
theorem PutX_ret {g bi ba : Nat} (w0 : World) (h : StoB 101 w0 g bi ba Sto.empty) :
    Ret Try.prog 20 [.pointer (some ⟨g, 0, none⟩), .string ⟨#[120]⟩] w0 fun r w' => r = .tuple #[.int .i64 1, .nilIface] ∧ StoB 101 w' g bi ba sX ∧ Chg (fun k => k = g ∨ k = bi ∨ k = ba) w0 w' := by
  have := Put_ret Sto.Ok.empty (b := ⟨#[120]⟩) (by decide) w0 h
  rw [putX] at this; exact this
theorem Put2_ret {s : Sto} {g bi ba : Nat} {b : ByteArray} (hok : s.Ok) (hl : s.last < 1000000) (hb : b.size ≤ 9223372036854000000) (w0 : World) (h : StoB 101 w0 g bi ba (putS s b).2.2) :
    Ret Try.prog 20 [.pointer (some ⟨g, 0, none⟩), .string b] w0 fun r w' => r = .tuple #[.int .i64 (putS s b).1, errV 91 (putS s b).2.1] ∧ StoB 101 w' g bi ba (putS s b).2.2 ∧ Chg (fun k => k = g ∨ k = bi ∨ k = ba) w0 w' := by
  have := Put_ret (putS_ok hok hl b) hb w0 h
  rw [putS_twice hok b] at this; exact this
/-- The numbers so far, noughts behind. -/
def idsL (objs : List ByteArray) (i : Nat) : List Int := numAll sX (objs.take i) ++ List.replicate (objs.length - i) 0
theorem idsL_length {objs : List ByteArray} {i : Nat} (h : i ≤ objs.length) : (idsL objs i).length = objs.length := by
  unfold idsL; rw [List.length_append, numAll_length, List.length_take, List.length_replicate]; omega
theorem idsL_zero (objs : List ByteArray) : (idsL objs 0).flatMap encInt = List.replicate objs.length (.int .i64 0) := by
  unfold idsL
  simp only [List.take_zero, numAll, List.nil_append, Nat.sub_zero]
  induction objs.length with
  | zero => rfl
  | succ n ih => rw [List.replicate_succ, List.flatMap_cons, ih]; rfl
theorem idsL_set {objs : List ByteArray} {i : Nat} {x : ByteArray} (hx : objs[i]? = some x) : (idsL objs i).set i (putS (putAll sX (objs.take i)) x).1 = idsL objs (i + 1) := by
  have hi := lt_of_get hx
  have hl : (numAll sX (objs.take i)).length = i := by rw [numAll_length, List.length_take]; omega
  unfold idsL
  rw [take_snoc hx, numAll_snoc, show objs.length - i = (objs.length - (i + 1)) + 1 by omega, List.replicate_succ, List.set_append_right _ _ (by omega), hl, Nat.sub_self, List.set_cons_zero, List.append_assoc]
  rfl
theorem ids_there {objs : List ByteArray} {i : Nat} {x : ByteArray} (hi : i < min objs.length 100) (hx : objs[i]? = some x) :
    ∃ n, (idsL objs (min objs.length 100))[i]? = some n ∧ (n = 0 ∨ (1 ≤ n ∧ getM (putAll sX (objs.take (min objs.length 100))).all n = some x)) := by
  have hl : (objs.take (min objs.length 100)).length = min objs.length 100 := by rw [List.length_take]; omega
  have hn : i < (numAll sX (objs.take (min objs.length 100))).length := by rw [numAll_length, hl]; exact hi
  obtain ⟨n, hn'⟩ := get_of_lt hn
  have h2 := (putAll_there sX_ok (objs.take (min objs.length 100)) (by rw [hl]; show (1 : Int) + _ ≤ _; omega)).2 i x n (by rw [List.getElem?_take, if_pos hi]; exact hx) hn'
  exact ⟨n, by unfold idsL; rw [List.getElem?_append_left hn]; exact hn', h2⟩
theorem keepS_last (s : Sto) (xs : List Int) : (keepS s xs).2.2.last = s.last := by unfold keepS; split <;> rfl
theorem all_low {s : Sto} (h : s.Ok) {ks : List Int} (hp : ks.Perm (s.all.map (·.1))) {y : Int} (hy : y ∈ sortI ks) : y ≤ s.last := by
  have h1 := hp.mem_iff.1 ((sortI_perm ks).mem_iff.1 hy)
  obtain ⟨p, hp1, rfl⟩ := List.mem_map.1 h1
  exact (h.nums p.1 p.2 (getM_mem h.allKeys hp1)).2

theorem StoreBack_ret {objs : List ByteArray} {kp : List Int} {v u : Value} (hs : SortC Try.prog 79 3) (w0 : World) (hv : RStrs w0 v objs) (hsz : ∀ b ∈ objs, b.size ≤ 9223372036854000000) (hlen : objs.length * 8 ≤ 140737488351232) (hu : RInts w0 u kp) :
    Ret Try.prog 5 [v, u] w0 fun r w' => r = .bool true ∧ Ext w0 w' := by
  obtain ⟨A, c, rfl, hc1, hc2⟩ := hv.form
  have E : Ext w0 w0 := Ext.refl w0
  refine St.enter (N := 216) Try.func5 rfl Try.ntmps5 rfl ?_
  refine St.seq fun K0 hK0 => ?_
  refine St.region ?_
  refine St.r (R.assign rfl) rfl rfl ?_
  refine St.nil ?_
  refine St.weak [(0, _), (1, _)] ⟨rfl, rfl, trivial⟩ ?_
  refine St.then_n ?_
  refine St.go hK0 ?_
  clear hK0
  refine St.seq fun K1 hK1 => ?_
  refine St.region ?_
  refine St.call rfl rfl ent19 (New_ret _) rfl ?_
  rintro r28 w28 ⟨g, bi, ba, rfl, hS, hg, hbi, hba, e28⟩
  replace E := Ext.trans E e28
  have z28 := E.size
  refine St.r (R.assign rfl) rfl rfl ?_
  refine St.nil ?_
  refine St.weak [(0, _), (1, _), (5, _)] ⟨rfl, rfl, rfl, trivial⟩ ?_
  refine St.then_n ?_
  refine St.go hK1 ?_
  clear hK1
  refine St.seq fun K2 hK2 => ?_
  refine St.region ?_
  refine St.r (R.move rfl) rfl rfl ?_
  refine St.call rfl rfl ent20 (PutX_ret _ hS) rfl ?_
  rintro r31 w31 ⟨rfl, hS31, C31⟩
  replace E := Ext.then E C31 (fun j hj h => by omega)
  clear hS; have hS := hS31; clear hS31
  refine St.r (R.move rfl) rfl rfl ?_
  refine St.r (R.extract rfl rfl) rfl rfl ?_
  refine St.r (R.extract rfl rfl) rfl rfl ?_
  refine St.r (R.assign rfl) rfl rfl ?_
  refine St.r (R.assign rfl) rfl rfl ?_
  refine St.nil ?_
  refine St.weak [(0, _), (1, _), (5, _), (6, _), (7, _)] ⟨rfl, rfl, rfl, rfl, rfl, trivial⟩ ?_
  refine St.then_n ?_
  refine St.go hK2 ?_
  clear hK2
  refine St.seq fun K3 hK3 => ?_
  refine St.seq fun K4 hK4 => ?_
  refine St.region ?_
  refine St.r (R.move rfl) rfl rfl ?_
  refine St.r (Runs.lit (c := false) (R.notNil (et := 91) (e := none) Try.underlying27 rfl) (rfl)) rfl rfl ?_
  refine St.r (R.move rfl) rfl rfl ?_
  refine St.take (dg := 36) rfl rfl ?_ rfl
  refine St.r (R.move rfl) rfl rfl ?_
  refine St.take (dg := 36) rfl rfl ?_ rfl
  refine St.r (Runs.lit (c := false) (R.neq rfl rfl) (decide_eq_false (fun h => h rfl))) rfl rfl ?_
  refine St.r (R.pickF rfl rfl) rfl rfl ?_
  refine St.nil ?_
  refine St.weak [(0, _), (1, _), (5, _), (39, _)] ⟨rfl, rfl, rfl, rfl, trivial⟩ ?_
  refine St.then_n ?_
  refine St.go hK4 ?_
  clear hK4
  refine St.condF rfl ?_
  refine St.skip ?_
  refine St.then_n ?_
  refine St.go hK3 ?_
  clear hK3
  refine St.seq fun K5 hK5 => ?_
  refine St.region ?_
  refine St.r (R.move rfl) rfl rfl ?_
  refine St.r (R.lenSl Try.underlying37 rfl) rfl rfl ?_
  have zg := hS.blk.lt
  have zbi := hS.ids.lt
  have zba := hS.all.lt
  refine St.makeSl (n := objs.length) Try.underlying23 info3 rfl rfl rfl rfl (by omega) (by omega) rfl ?_
  intro w42 b42 hb42 hs42 e42 k42
  have qE42 := E.size
  replace E := Ext.trans E e42
  replace hS := hS.ext e42
  have kI : Blk w42 b42 3 ((idsL objs 0).flatMap encInt ++ []) := by rw [idsL_zero, List.append_nil]; exact k42
  clear k42
  refine St.r (R.assign rfl) rfl rfl ?_
  refine St.nil ?_
  refine St.weak [(0, _), (1, _), (5, _), (8, _)] ⟨rfl, rfl, rfl, rfl, trivial⟩ ?_
  refine St.then_n ?_
  refine St.go hK5 ?_
  clear hK5
  refine St.seqJ (fun (x : Unit) => match x with | () => [(0, .slice A objs.length c), (1, u), (5, .pointer (some ⟨g, 0, none⟩)), (8, .slice (some ⟨b42, 0, none⟩) objs.length objs.length)])
      (fun (x : Unit) w => match x with | () => Ext w0 w ∧ StoB 101 w g bi ba (putAll sX (objs.take (min objs.length 100))) ∧ Blk w b42 3 ((idsL objs (min objs.length 100)).flatMap encInt ++ [])) ?_ ?_
  · rintro _ w ⟨E, hS, kI⟩
    show St _ _ [(0, .slice A objs.length c), (1, u), (5, .pointer (some ⟨g, 0, none⟩)), (8, .slice (some ⟨b42, 0, none⟩) objs.length objs.length)] _ _
    obtain ⟨hok, hlast⟩ := putAll_X (bs := objs.take (min objs.length 100)) (by rw [List.length_take]; omega)
    refine St.seqJ (fun (x : Unit) => match x with | () => [(0, .slice A objs.length c), (1, u), (5, .pointer (some ⟨g, 0, none⟩)), (8, .slice (some ⟨b42, 0, none⟩) objs.length objs.length)])
        (fun (x : Unit) w => match x with | () => Ext w0 w ∧ StoB 101 w g bi ba (putAll sX (objs.take (min objs.length 100))) ∧ Blk w b42 3 ((idsL objs (min objs.length 100)).flatMap encInt ++ [])) ?_ ?_
    · rintro _ w ⟨E, hS, kI⟩
      show St _ _ [(0, .slice A objs.length c), (1, u), (5, .pointer (some ⟨g, 0, none⟩)), (8, .slice (some ⟨b42, 0, none⟩) objs.length objs.length)] _ _
      refine St.seq fun K8 hK8 => ?_
      refine St.region ?_
      refine St.r (R.move rfl) rfl rfl ?_
      have zg := hS.blk.lt
      have zbi := hS.ids.lt
      have zba := hS.all.lt
      have zE := E.size
      refine St.call rfl rfl ent23 (Ids_ret hs hok _ hS) rfl ?_
      rintro r141 w141 ⟨ks, hks, o141, e141⟩
      replace E := Ext.trans E e141
      replace hS := hS.ext e141
      replace kI := kI.ext e141
      obtain ⟨A1, c1, rfl, hc11, hc12⟩ := o141.form
      have hl1 : (sortI ks).length = (putAll sX (objs.take (min objs.length 100))).all.length := by rw [(sortI_perm ks).length_eq, hks.length_eq, List.length_map]
      have hfew := hok.few
      refine St.r (R.assign rfl) rfl rfl ?_
      refine St.nil ?_
      refine St.weak [(0, _), (1, _), (5, _), (8, _), (19, _)] ⟨rfl, rfl, rfl, rfl, rfl, trivial⟩ ?_
      refine St.then_n ?_
      refine St.go hK8 ?_
      clear hK8
      refine St.seq fun K9 hK9 => ?_
      refine St.region ?_
      refine St.r (R.move rfl) rfl rfl ?_
      refine St.r (R.move rfl) rfl rfl ?_
      refine St.call rfl rfl ent24 (Keep_ret hok _ hS (hu.ext (REnc.firm _) E) (fun h0 k hk => by have := hu.lt (enc := encInt) (fun _ => Nat.one_pos) h0 hk; omega)) rfl ?_
      rintro r145 w145 ⟨rfl, hS145, C145⟩
      replace E := Ext.then E C145 (fun j hj h => by omega)
      replace kI := kI.chg C145 (by omega)
      clear hS; have hS := hS145; clear hS145
      replace o141 := o141.chg C145 (fun k hk h => by have := (o141.base hk).1; omega)
      refine St.r (R.move rfl) rfl rfl ?_
      refine St.r (R.extract rfl rfl) rfl rfl ?_
      refine St.r (R.extract rfl rfl) rfl rfl ?_
      refine St.r (R.assign rfl) rfl rfl ?_
      refine St.r (R.assign rfl) rfl rfl ?_
      refine St.nil ?_
      refine St.weak [(0, _), (5, _), (8, _), (19, _), (20, _), (21, _)] ⟨rfl, rfl, rfl, rfl, rfl, rfl, trivial⟩ ?_
      refine St.then_n ?_
      refine St.go hK9 ?_
      clear hK9
      refine St.seq fun K10 hK10 => ?_
      refine St.seq fun K11 hK11 => ?_
      refine St.region ?_
      refine St.r (R.move rfl) rfl rfl ?_
      refine St.r (R.notNil (et := 91) (e := _) Try.underlying27 rfl) rfl rfl ?_
      refine St.nil ?_
      refine St.weak [(0, _), (5, _), (8, _), (19, _), (20, _), (149, _)] ⟨rfl, rfl, rfl, rfl, rfl, rfl, trivial⟩ ?_
      refine St.then_n ?_
      refine St.go hK11 ?_
      clear hK11
      refine St.cond rfl (fun h149 => ?_) (fun h149 => ?_)
      ·
        have hke : (keepS (putAll sX (objs.take (min objs.length 100))) kp).2.2 = putAll sX (objs.take (min objs.length 100)) := keepS_err (fun h => by rw [h] at h149; cases h149)
        rw [hke] at hS
        refine St.seq fun K12 hK12 => ?_
        refine St.region ?_
        refine St.r (R.move rfl) rfl rfl ?_
        refine St.call rfl rfl ent23 (Ids_ret hs hok _ hS) rfl ?_
        rintro r151 w151 ⟨ks2, hks2, o151, e151⟩
        replace E := Ext.trans E e151
        replace hS := hS.ext e151
        replace kI := kI.ext e151
        replace o141 := o141.ext e151
        obtain ⟨A2, c2, rfl, hc21, hc22⟩ := o151.form
        have hl2 : (sortI ks2).length = (putAll sX (objs.take (min objs.length 100))).all.length := by rw [(sortI_perm ks2).length_eq, hks2.length_eq, List.length_map]
        refine St.r (R.lenSl Try.underlying23 rfl) rfl rfl ?_
        refine St.r (R.move rfl) rfl rfl ?_
        refine St.r (R.lenSl Try.underlying23 rfl) rfl rfl ?_
        refine St.r (Runs.lit (c := true) (R.eql rfl rfl) (decide_eq_true (by rw [hl1, hl2]))) rfl rfl ?_
        refine St.r (R.assign rfl) rfl rfl ?_
        refine St.nil ?_
        refine St.weak [(4, _)] ⟨rfl, trivial⟩ ?_
        refine St.then_n ?_
        refine St.go hK12 ?_
        clear hK12
        refine St.ret ?_
        refine St.then_r ?_
        refine St.ret1 Try.results5 rfl ?_
        exact ⟨_, rfl, rfl, E⟩
      ·
        have hk1 := keepS_fst (isSome_false h149)
        have hk2 := (keepS_ok hok kp).few
        refine St.skip ?_
        refine St.then_n ?_
        refine St.go hK10 ?_
        clear hK10
        refine St.seq fun K13 hK13 => ?_
        refine St.seq fun K14 hK14 => ?_
        refine St.region ?_
        refine St.r (R.move rfl) rfl rfl ?_
        refine St.call rfl rfl ent25 (Len_ret _ hS) rfl ?_
        rintro r157 w157 ⟨rfl, rfl⟩
        refine St.r (R.move rfl) rfl rfl ?_
        refine St.r (R.lenSl Try.underlying23 rfl) rfl rfl ?_
        refine St.r (R.move rfl) rfl rfl ?_
        refine St.r (R.sub rfl rfl (by omega) (by omega)) rfl rfl ?_
        refine St.r (Runs.lit (c := false) (R.neq rfl rfl) (decide_eq_false (by omega))) rfl rfl ?_
        refine St.nil ?_
        refine St.weak [(0, _), (5, _), (8, _), (19, _), (162, _)] ⟨rfl, rfl, rfl, rfl, rfl, trivial⟩ ?_
        refine St.then_n ?_
        refine St.go hK14 ?_
        clear hK14
        refine St.condF rfl ?_
        refine St.skip ?_
        refine St.then_n ?_
        refine St.go hK13 ?_
        clear hK13
        refine St.seq fun K15 hK15 => ?_
        refine St.seq fun K16 hK16 => ?_
        refine St.region ?_
        refine St.r (R.assign rfl) rfl rfl ?_
        refine St.nil ?_
        refine St.weak [(0, _), (5, _), (8, _), (19, _), (22, _)] ⟨rfl, rfl, rfl, rfl, rfl, trivial⟩ ?_
        refine St.then_n ?_
        refine St.go hK16 ?_
        clear hK16
        refine St.block ?_
        refine St.loop (fun (x : Nat × Sto) => match x with | (i, s) => [(0, .slice A objs.length c), (5, .pointer (some ⟨g, 0, none⟩)), (8, .slice (some ⟨b42, 0, none⟩) objs.length objs.length), (19, .slice A1 (sortI ks).length c1), (22, .int .i64 (i : Int))])
            (fun (x : Nat × Sto) w => match x with | (i, s) => i ≤ objs.length ∧ i ≤ 100 ∧ Ext w0 w ∧ StoB 101 w g bi ba s ∧ Kept (putAll sX (objs.take (min objs.length 100))) s ∧ s.last ≤ 101 + i ∧ Blk w b42 3 ((idsL objs (min objs.length 100)).flatMap encInt ++ []) ∧ Own encInt 1 w0.heap.size 3 w (.slice A1 (sortI ks).length c1) (sortI ks) ∧ (∀ k, (Value.slice A1 (sortI ks).length c1).ownBlock = some k → ¬ (k = g ∨ k = bi ∨ k = ba)))
            (fun (x : Nat × Sto) => match x with | (i, s) => objs.length - i) (0, (keepS (putAll sX (objs.take (min objs.length 100))) kp).2.2) ⟨rfl, rfl, rfl, rfl, rfl, trivial⟩ ?_ ?_
        · exact ⟨Nat.zero_le _, by omega, E, hS, Kept.start hok kp, by rw [keepS_last]; omega, kI, o141.lower (by omega), fun k hk h => by have := (o141.base hk).1; omega⟩
        rintro ⟨i, s⟩ w ⟨hi, hi1, E, hS, hkept, hsl, kI, o141, hap⟩
        show St _ _ [(0, .slice A objs.length c), (5, .pointer (some ⟨g, 0, none⟩)), (8, .slice (some ⟨b42, 0, none⟩) objs.length objs.length), (19, .slice A1 (sortI ks).length c1), (22, .int .i64 (i : Int))] _ _
        refine St.seq fun K17 hK17 => ?_
        refine St.seq fun K18 hK18 => ?_
        by_cases h166 : (i : Int) < (objs.length : Int)
        ·
          refine St.region ?_
          refine St.r (R.move rfl) rfl rfl ?_
          refine St.r (R.move rfl) rfl rfl ?_
          refine St.r (R.lenSl Try.underlying37 rfl) rfl rfl ?_
          refine St.r (Runs.lit (c := true) (R.lss rfl rfl) (decide_eq_true h166)) rfl rfl ?_
          refine St.r (R.move rfl) rfl rfl ?_
          refine St.take (dg := 167) rfl rfl ?_ rfl
          refine St.r (R.move rfl) rfl rfl ?_
          refine St.take (dg := 167) rfl rfl ?_ rfl
          refine St.r (R.lss rfl rfl) rfl rfl ?_
          refine St.r (R.pickT rfl rfl) rfl rfl ?_
          refine St.nil ?_
          refine St.weak [(0, _), (5, _), (8, _), (19, _), (22, _), (170, _)] ⟨rfl, rfl, rfl, rfl, rfl, rfl, trivial⟩ ?_
          refine St.then_n ?_
          refine St.go hK18 ?_
          clear hK18
          refine St.condD rfl (fun h170 => ?_) (fun h170 => ?_)
          ·
            obtain ⟨x, hx⟩ := get_of_lt (xs := objs) (k := i) (by omega)
            obtain ⟨xb, xo, rfl, hxc⟩ := hv.get' hx
            obtain ⟨n, hni, hn0⟩ := ids_there (i := i) (by omega) hx
            have hb := hsz x (List.mem_of_getElem? hx)
            refine St.skip ?_
            refine St.then_n ?_
            refine St.go hK17 ?_
            clear hK17
            refine St.seq fun K19 hK19 => ?_
            refine St.block ?_
            refine St.seq fun K20 hK20 => ?_
            refine St.region ?_
            refine St.r (R.move rfl) rfl rfl ?_
            refine St.r (R.move rfl) rfl rfl ?_
            refine St.r (R.move rfl) rfl rfl ?_
            refine St.r (R.indexS i Try.underlying23 Try.sizeOf3 rfl rfl rfl (by omega)) rfl rfl ?_
            refine St.r (R.load1 Try.isAgg3 rfl ((kI.elem encInt_len hni).at 0 rfl)) rfl rfl ?_
            refine St.call rfl rfl ent21 (Get_ret _ hS) rfl ?_
            rintro r179 w179 ⟨rfl, rfl⟩
            refine St.r (R.move rfl) rfl rfl ?_
            refine St.r (R.extract rfl rfl) rfl rfl ?_
            refine St.r (R.extract rfl rfl) rfl rfl ?_
            refine St.r (R.assign rfl) rfl rfl ?_
            refine St.r (R.assign rfl) rfl rfl ?_
            refine St.nil ?_
            refine St.weak [(0, _), (5, _), (8, _), (19, _), (22, _), (24, _)] ⟨rfl, rfl, rfl, rfl, rfl, rfl, trivial⟩ ?_
            refine St.then_n ?_
            refine St.go hK20 ?_
            clear hK20
            refine St.seq fun K21 hK21 => ?_
            by_cases h186 : (0 : Int) < n
            ·
              refine St.region ?_
              refine St.r (R.move rfl) rfl rfl ?_
              refine St.r (R.move rfl) rfl rfl ?_
              refine St.r (R.indexS i Try.underlying23 Try.sizeOf3 rfl rfl rfl (by omega)) rfl rfl ?_
              refine St.r (R.load1 Try.isAgg3 rfl ((kI.elem encInt_len hni).at 0 rfl)) rfl rfl ?_
              refine St.r (Runs.lit (c := true) (R.gtr rfl rfl) (decide_eq_true h186)) rfl rfl ?_
              refine St.r (R.move rfl) rfl rfl ?_
              refine St.take (dg := 187) rfl rfl ?_ rfl
              refine St.r (R.move rfl) rfl rfl ?_
              refine St.take (dg := 187) rfl rfl ?_ rfl
              refine St.r (R.notNil (et := 91) (e := _) Try.underlying27 rfl) rfl rfl ?_
              refine St.r (R.pickT rfl rfl) rfl rfl ?_
              refine St.nil ?_
              refine St.weak [(0, _), (5, _), (8, _), (19, _), (22, _), (190, _)] ⟨rfl, rfl, rfl, rfl, rfl, rfl, trivial⟩ ?_
              refine St.then_n ?_
              refine St.go hK21 ?_
              clear hK21
              refine St.cond rfl (fun h190 => ?_) (fun h190 => ?_)
              ·
                have hgn : getM s.all n = none := by cases hc : getM s.all n <;> simp [hc] at h190 ⊢
                have hn := hn0.resolve_left (by omega)
                refine St.seq fun K22 hK22 => ?_
                refine St.region ?_
                refine St.r (R.move rfl) rfl rfl ?_
                refine St.r (R.move rfl) rfl rfl ?_
                refine St.r (R.move rfl) rfl rfl ?_
                refine St.r (R.indexS i Try.underlying37 Try.sizeOf9 rfl rfl rfl (by omega)) rfl rfl ?_
                refine St.r (R.load1 Try.isAgg9 rfl ((E.cells hxc).at 0 rfl)) rfl rfl ?_
                refine St.call rfl rfl ent20 (Put_ret hkept.ok hb _ hS) rfl ?_
                rintro r197 w197 ⟨rfl, hS197, C197⟩
                replace E := Ext.then E C197 (fun j hj h => by omega)
                replace kI := kI.chg C197 (by omega)
                clear hS; have hS := hS197; clear hS197
                replace o141 := o141.chg C197 hap
                refine St.r (R.move rfl) rfl rfl ?_
                refine St.r (R.extract rfl rfl) rfl rfl ?_
                refine St.r (R.extract rfl rfl) rfl rfl ?_
                refine St.r (R.assign rfl) rfl rfl ?_
                refine St.r (R.assign rfl) rfl rfl ?_
                refine St.nil ?_
                refine St.weak [(0, _), (5, _), (8, _), (19, _), (22, _), (25, _), (26, _)] ⟨rfl, rfl, rfl, rfl, rfl, rfl, rfl, trivial⟩ ?_
                refine St.then_n ?_
                refine St.go hK22 ?_
                clear hK22
                refine St.seq fun K23 hK23 => ?_
                refine St.region ?_
                refine St.r (R.assign rfl) rfl rfl ?_
                refine St.nil ?_
                refine St.weak [(0, _), (5, _), (8, _), (19, _), (22, _), (25, _), (26, _), (27, _)] ⟨rfl, rfl, rfl, rfl, rfl, rfl, rfl, rfl, trivial⟩ ?_
                refine St.then_n ?_
                refine St.go hK23 ?_
                clear hK23
                refine St.block ?_
                refine St.loop (fun (j : Nat) => [(0, .slice (some ⟨xb, xo, none⟩) objs.length c), (5, .pointer (some ⟨g, 0, none⟩)), (8, .slice (some ⟨b42, 0, none⟩) objs.length objs.length), (19, .slice A1 (sortI ks).length c1), (22, .int .i64 (i : Int)), (25, .int .i64 (putS s x).1), (26, errV 91 (putS s x).2.1), (27, .int .i64 (j : Int))])
                    (fun (j : Nat) w => j ≤ (sortI ks).length ∧ Ext w0 w ∧ StoB 101 w g bi ba (putS s x).2.2 ∧ Blk w b42 3 ((idsL objs (min objs.length 100)).flatMap encInt ++ []) ∧ Own encInt 1 w0.heap.size 3 w (.slice A1 (sortI ks).length c1) (sortI ks))
                    (fun (j : Nat) => (sortI ks).length - j) 0 ⟨rfl, rfl, rfl, rfl, rfl, rfl, rfl, rfl, trivial⟩ ?_ ?_
                · exact ⟨Nat.zero_le _, E, hS, kI, o141⟩
                rintro j w ⟨hj, E, hS, kI, o141⟩
                show St _ _ [(0, .slice (some ⟨xb, xo, none⟩) objs.length c), (5, .pointer (some ⟨g, 0, none⟩)), (8, .slice (some ⟨b42, 0, none⟩) objs.length objs.length), (19, .slice A1 (sortI ks).length c1), (22, .int .i64 (i : Int)), (25, .int .i64 (putS s x).1), (26, errV 91 (putS s x).2.1), (27, .int .i64 (j : Int))] _ _
                refine St.seq fun K24 hK24 => ?_
                refine St.seq fun K25 hK25 => ?_
                refine St.region ?_
                refine St.r (R.move rfl) rfl rfl ?_
                refine St.r (R.move rfl) rfl rfl ?_
                refine St.r (R.lenSl Try.underlying23 rfl) rfl rfl ?_
                refine St.r (R.lss rfl rfl) rfl rfl ?_
                refine St.nil ?_
                refine St.weak [(0, _), (5, _), (8, _), (19, _), (22, _), (25, _), (26, _), (27, _), (203, _)] ⟨rfl, rfl, rfl, rfl, rfl, rfl, rfl, rfl, rfl, trivial⟩ ?_
                refine St.then_n ?_
                refine St.go hK25 ?_
                clear hK25
                refine St.condD rfl (fun h203 => ?_) (fun h203 => ?_)
                ·
                  obtain ⟨y, hy⟩ := get_of_lt (xs := sortI ks) (k := j) (by omega)
                  obtain ⟨yb, yo, rfl, hyc⟩ := (o141.reads encInt_len).get' hy
                  refine St.skip ?_
                  refine St.then_n ?_
                  refine St.go hK24 ?_
                  clear hK24
                  refine St.seq fun K26 hK26 => ?_
                  refine St.block ?_
                  refine St.seq fun K27 hK27 => ?_
                  by_cases h207 : ((putS s x).2.1).isNone = true
                  ·
                    have hne : ¬ (putS s x).1 = y := fun h => by
                      have h1 := hkept.anew hok hn.2 hgn (Option.isNone_iff_eq_none.1 h207)
                      have h2 := all_low hok hks (List.mem_of_getElem? hy)
                      omega
                    refine St.region ?_
                    refine St.r (R.move rfl) rfl rfl ?_
                    refine St.r (Runs.lit (c := true) (R.isNil (et := 91) (e := _) Try.underlying27 rfl) (h207)) rfl rfl ?_
                    refine St.r (R.move rfl) rfl rfl ?_
                    refine St.take (dg := 208) rfl rfl ?_ rfl
                    refine St.r (R.move rfl) rfl rfl ?_
                    refine St.take (dg := 208) rfl rfl ?_ rfl
                    refine St.r (R.move rfl) rfl rfl ?_
                    refine St.take (dg := 208) rfl rfl ?_ rfl
                    refine St.r (R.move rfl) rfl rfl ?_
                    refine St.take (dg := 208) rfl rfl ?_ rfl
                    refine St.r (R.indexS j Try.underlying23 Try.sizeOf3 rfl rfl rfl (by omega)) rfl rfl ?_
                    refine St.take (dg := 208) rfl rfl ?_ rfl
                    refine St.r (R.load1 Try.isAgg3 rfl (hyc.at 0 rfl)) rfl rfl ?_
                    refine St.take (dg := 208) rfl rfl ?_ rfl
                    refine St.r (Runs.lit (c := false) (R.eql rfl rfl) (decide_eq_false hne)) rfl rfl ?_
                    refine St.r (R.pickT rfl rfl) rfl rfl ?_
                    refine St.nil ?_
                    refine St.weak [(0, _), (5, _), (8, _), (19, _), (22, _), (25, _), (26, _), (27, _), (215, _)] ⟨rfl, rfl, rfl, rfl, rfl, rfl, rfl, rfl, rfl, trivial⟩ ?_
                    refine St.then_n ?_
                    refine St.go hK27 ?_
                    clear hK27
                    refine St.condF rfl ?_
                    refine St.skip ?_
                    refine St.in_n ?_
                    refine St.then_n ?_
                    refine St.go hK26 ?_
                    clear hK26
                    refine St.region ?_
                    refine St.r (R.move rfl) rfl rfl ?_
                    refine St.r (R.add rfl rfl (by omega) (by omega)) rfl rfl ?_
                    refine St.r (R.assign rfl) rfl rfl ?_
                    refine St.nil ?_
                    refine St.weak [(0, _), (5, _), (8, _), (19, _), (22, _), (25, _), (26, _), (27, _)] ⟨rfl, rfl, rfl, rfl, rfl, rfl, rfl, rfl, trivial⟩ ?_
                    refine St.then_n ?_
                    refine St.round (j + 1) ⟨rfl, rfl, rfl, rfl, rfl, rfl, rfl, rfl, trivial⟩ ?_ ?_
                    · exact ⟨by omega, E, hS, kI, o141⟩
                    · omega
                  ·
                    refine St.region ?_
                    refine St.r (R.move rfl) rfl rfl ?_
                    refine St.r (Runs.lit (c := false) (R.isNil (et := 91) (e := _) Try.underlying27 rfl) (Bool.eq_false_iff.2 h207)) rfl rfl ?_
                    refine St.r (R.move rfl) rfl rfl ?_
                    refine St.pass (dg := 208) rfl rfl rfl rfl rfl ?_
                    refine St.pass (dg := 208) rfl rfl rfl rfl rfl ?_
                    refine St.pass (dg := 208) rfl rfl rfl rfl rfl ?_
                    refine St.pass (dg := 208) rfl rfl rfl rfl rfl ?_
                    refine St.pass (dg := 208) rfl rfl rfl rfl rfl ?_
                    refine St.pass (dg := 208) rfl rfl rfl rfl rfl ?_
                    refine St.r (R.pickF rfl rfl) rfl rfl ?_
                    refine St.nil ?_
                    refine St.weak [(0, _), (5, _), (8, _), (19, _), (22, _), (25, _), (26, _), (27, _), (215, _)] ⟨rfl, rfl, rfl, rfl, rfl, rfl, rfl, rfl, rfl, trivial⟩ ?_
                    refine St.then_n ?_
                    refine St.go hK27 ?_
                    clear hK27
                    refine St.condF rfl ?_
                    refine St.skip ?_
                    refine St.in_n ?_
                    refine St.then_n ?_
                    refine St.go hK26 ?_
                    clear hK26
                    refine St.region ?_
                    refine St.r (R.move rfl) rfl rfl ?_
                    refine St.r (R.add rfl rfl (by omega) (by omega)) rfl rfl ?_
                    refine St.r (R.assign rfl) rfl rfl ?_
                    refine St.nil ?_
                    refine St.weak [(0, _), (5, _), (8, _), (19, _), (22, _), (25, _), (26, _), (27, _)] ⟨rfl, rfl, rfl, rfl, rfl, rfl, rfl, rfl, trivial⟩ ?_
                    refine St.then_n ?_
                    refine St.round (j + 1) ⟨rfl, rfl, rfl, rfl, rfl, rfl, rfl, rfl, trivial⟩ ?_ ?_
                    · exact ⟨by omega, E, hS, kI, o141⟩
                    · omega
                ·
                  refine St.exit ?_
                  refine St.then_x ?_
                  refine St.then_x ?_
                  refine St.in_x ?_
                  refine St.in_n ?_
                  refine St.then_n ?_
                  refine St.go hK19 ?_
                  clear hK19
                  refine St.region ?_
                  refine St.r (R.move rfl) rfl rfl ?_
                  refine St.r (R.add rfl rfl (by omega) (by omega)) rfl rfl ?_
                  refine St.r (R.assign rfl) rfl rfl ?_
                  refine St.nil ?_
                  refine St.weak [(0, _), (5, _), (8, _), (19, _), (22, _)] ⟨rfl, rfl, rfl, rfl, rfl, trivial⟩ ?_
                  refine St.then_n ?_
                  refine St.round (i + 1, (putS s x).2.2) ⟨rfl, rfl, rfl, rfl, rfl, trivial⟩ ?_ ?_
                  · try dsimp only
                    exact ⟨by omega, by omega, E, hS, hkept.put (by omega) x, by have := putS_last s x; omega, kI, o141, hap⟩
                  · try dsimp only
                    omega
              ·
                refine St.skip ?_
                refine St.in_n ?_
                refine St.then_n ?_
                refine St.go hK19 ?_
                clear hK19
                refine St.region ?_
                refine St.r (R.move rfl) rfl rfl ?_
                refine St.r (R.add rfl rfl (by omega) (by omega)) rfl rfl ?_
                refine St.r (R.assign rfl) rfl rfl ?_
                refine St.nil ?_
                refine St.weak [(0, _), (5, _), (8, _), (19, _), (22, _)] ⟨rfl, rfl, rfl, rfl, rfl, trivial⟩ ?_
                refine St.then_n ?_
                refine St.round (i + 1, s) ⟨rfl, rfl, rfl, rfl, rfl, trivial⟩ ?_ ?_
                · try dsimp only
                  exact ⟨by omega, by omega, E, hS, hkept, by omega, kI, o141, hap⟩
                · try dsimp only
                  omega
            ·
              refine St.region ?_
              refine St.r (R.move rfl) rfl rfl ?_
              refine St.r (R.move rfl) rfl rfl ?_
              refine St.r (R.indexS i Try.underlying23 Try.sizeOf3 rfl rfl rfl (by omega)) rfl rfl ?_
              refine St.r (R.load1 Try.isAgg3 rfl ((kI.elem encInt_len hni).at 0 rfl)) rfl rfl ?_
              refine St.r (Runs.lit (c := false) (R.gtr rfl rfl) (decide_eq_false h186)) rfl rfl ?_
              refine St.r (R.move rfl) rfl rfl ?_
              refine St.pass (dg := 187) rfl rfl rfl rfl rfl ?_
              refine St.pass (dg := 187) rfl rfl rfl rfl rfl ?_
              refine St.r (R.pickF rfl rfl) rfl rfl ?_
              refine St.nil ?_
              refine St.weak [(0, _), (5, _), (8, _), (19, _), (22, _), (190, _)] ⟨rfl, rfl, rfl, rfl, rfl, rfl, trivial⟩ ?_
              refine St.then_n ?_
              refine St.go hK21 ?_
              clear hK21
              refine St.condF rfl ?_
              refine St.skip ?_
              refine St.in_n ?_
              refine St.then_n ?_
              refine St.go hK19 ?_
              clear hK19
              refine St.region ?_
              refine St.r (R.move rfl) rfl rfl ?_
              refine St.r (R.add rfl rfl (by omega) (by omega)) rfl rfl ?_
              refine St.r (R.assign rfl) rfl rfl ?_
              refine St.nil ?_
              refine St.weak [(0, _), (5, _), (8, _), (19, _), (22, _)] ⟨rfl, rfl, rfl, rfl, rfl, trivial⟩ ?_
              refine St.then_n ?_
              refine St.round (i + 1, s) ⟨rfl, rfl, rfl, rfl, rfl, trivial⟩ ?_ ?_
              · try dsimp only
                exact ⟨by omega, by omega, E, hS, hkept, by omega, kI, o141, hap⟩
              · try dsimp only
                omega
          ·
            refine St.exit ?_
            refine St.then_x ?_
            refine St.then_x ?_
            refine St.in_x ?_
            refine St.then_n ?_
            refine St.go hK15 ?_
            clear hK15
            refine St.seq fun K28 hK28 => ?_
            refine St.region ?_
            refine St.r (R.assign rfl) rfl rfl ?_
            refine St.nil ?_
            refine St.weak [(4, _)] ⟨rfl, trivial⟩ ?_
            refine St.then_n ?_
            refine St.go hK28 ?_
            clear hK28
            refine St.ret ?_
            refine St.ret1 Try.results5 rfl ?_
            exact ⟨_, rfl, rfl, E⟩
        ·
          refine St.region ?_
          refine St.r (R.move rfl) rfl rfl ?_
          refine St.r (R.move rfl) rfl rfl ?_
          refine St.r (R.lenSl Try.underlying37 rfl) rfl rfl ?_
          refine St.r (Runs.lit (c := false) (R.lss rfl rfl) (decide_eq_false h166)) rfl rfl ?_
          refine St.r (R.move rfl) rfl rfl ?_
          refine St.pass (dg := 167) rfl rfl rfl rfl rfl ?_
          refine St.pass (dg := 167) rfl rfl rfl rfl rfl ?_
          refine St.r (R.pickF rfl rfl) rfl rfl ?_
          refine St.nil ?_
          refine St.weak [(0, _), (5, _), (8, _), (19, _), (22, _), (170, _)] ⟨rfl, rfl, rfl, rfl, rfl, rfl, trivial⟩ ?_
          refine St.then_n ?_
          refine St.go hK18 ?_
          clear hK18
          refine St.condF rfl ?_
          refine St.exit ?_
          refine St.then_x ?_
          refine St.then_x ?_
          refine St.in_x ?_
          refine St.then_n ?_
          refine St.go hK15 ?_
          clear hK15
          refine St.seq fun K29 hK29 => ?_
          refine St.region ?_
          refine St.r (R.assign rfl) rfl rfl ?_
          refine St.nil ?_
          refine St.weak [(4, _)] ⟨rfl, trivial⟩ ?_
          refine St.then_n ?_
          refine St.go hK29 ?_
          clear hK29
          refine St.ret ?_
          refine St.ret1 Try.results5 rfl ?_
          exact ⟨_, rfl, rfl, E⟩
    intro K7 hK7
    refine St.seq fun K30 hK30 => ?_
    refine St.region ?_
    refine St.r (R.assign rfl) rfl rfl ?_
    refine St.nil ?_
    refine St.weak [(0, _), (1, _), (5, _), (8, _), (14, _)] ⟨rfl, rfl, rfl, rfl, rfl, trivial⟩ ?_
    refine St.then_n ?_
    refine St.go hK30 ?_
    clear hK30
    refine St.block ?_
    refine St.loop (fun (i : Nat) => [(0, .slice A objs.length c), (1, u), (5, .pointer (some ⟨g, 0, none⟩)), (8, .slice (some ⟨b42, 0, none⟩) objs.length objs.length), (14, .int .i64 (i : Int))])
        (fun (i : Nat) w => i ≤ objs.length ∧ i ≤ 100 ∧ Ext w0 w ∧ StoB 101 w g bi ba (putAll sX (objs.take (min objs.length 100))) ∧ Blk w b42 3 ((idsL objs (min objs.length 100)).flatMap encInt ++ []))
        (fun (i : Nat) => objs.length - i) 0 ⟨rfl, rfl, rfl, rfl, rfl, trivial⟩ ?_ ?_
    · exact ⟨Nat.zero_le _, by omega, E, hS, kI⟩
    rintro i w ⟨hi, hi1, E, hS, kI⟩
    show St _ _ [(0, .slice A objs.length c), (1, u), (5, .pointer (some ⟨g, 0, none⟩)), (8, .slice (some ⟨b42, 0, none⟩) objs.length objs.length), (14, .int .i64 (i : Int))] _ _
    refine St.seq fun K31 hK31 => ?_
    refine St.seq fun K32 hK32 => ?_
    by_cases h88 : (i : Int) < (objs.length : Int)
    ·
      refine St.region ?_
      refine St.r (R.move rfl) rfl rfl ?_
      refine St.r (R.move rfl) rfl rfl ?_
      refine St.r (R.lenSl Try.underlying37 rfl) rfl rfl ?_
      refine St.r (Runs.lit (c := true) (R.lss rfl rfl) (decide_eq_true h88)) rfl rfl ?_
      refine St.r (R.move rfl) rfl rfl ?_
      refine St.take (dg := 89) rfl rfl ?_ rfl
      refine St.r (R.move rfl) rfl rfl ?_
      refine St.take (dg := 89) rfl rfl ?_ rfl
      refine St.r (R.lss rfl rfl) rfl rfl ?_
      refine St.r (R.pickT rfl rfl) rfl rfl ?_
      refine St.nil ?_
      refine St.weak [(0, _), (1, _), (5, _), (8, _), (14, _), (92, _)] ⟨rfl, rfl, rfl, rfl, rfl, rfl, trivial⟩ ?_
      refine St.then_n ?_
      refine St.go hK32 ?_
      clear hK32
      refine St.condD rfl (fun h92 => ?_) (fun h92 => ?_)
      ·
        obtain ⟨x, hx⟩ := get_of_lt (xs := objs) (k := i) (by omega)
        obtain ⟨xb, xo, rfl, hxc⟩ := hv.get' hx
        obtain ⟨n, hni, hn0⟩ := ids_there (i := i) (by omega) hx
        refine St.skip ?_
        refine St.then_n ?_
        refine St.go hK31 ?_
        clear hK31
        refine St.seq fun K33 hK33 => ?_
        refine St.block ?_
        refine St.seq fun K34 hK34 => ?_
        refine St.seq fun K35 hK35 => ?_
        refine St.region ?_
        refine St.r (R.move rfl) rfl rfl ?_
        refine St.r (R.move rfl) rfl rfl ?_
        refine St.r (R.indexS i Try.underlying23 Try.sizeOf3 rfl rfl rfl (by omega)) rfl rfl ?_
        refine St.r (R.load1 Try.isAgg3 rfl ((kI.elem encInt_len hni).at 0 rfl)) rfl rfl ?_
        refine St.r (R.eql rfl rfl) rfl rfl ?_
        refine St.nil ?_
        refine St.weak [(0, _), (1, _), (5, _), (8, _), (14, _), (99, _)] ⟨rfl, rfl, rfl, rfl, rfl, rfl, trivial⟩ ?_
        refine St.then_n ?_
        refine St.go hK35 ?_
        clear hK35
        refine St.condD rfl (fun h99 => ?_) (fun h99 => ?_)
        ·
          refine St.exit ?_
          refine St.then_x ?_
          refine St.in_x ?_
          refine St.then_n ?_
          refine St.go hK33 ?_
          clear hK33
          refine St.region ?_
          refine St.r (R.move rfl) rfl rfl ?_
          refine St.r (R.add rfl rfl (by omega) (by omega)) rfl rfl ?_
          refine St.r (R.assign rfl) rfl rfl ?_
          refine St.nil ?_
          refine St.weak [(0, _), (1, _), (5, _), (8, _), (14, _)] ⟨rfl, rfl, rfl, rfl, rfl, trivial⟩ ?_
          refine St.then_n ?_
          refine St.round (i + 1) ⟨rfl, rfl, rfl, rfl, rfl, trivial⟩ ?_ ?_
          · exact ⟨by omega, by omega, E, hS, kI⟩
          · omega
        ·
          have hn := hn0.resolve_left h99
          have hids := (hok.there x n).2 hn.2
          refine St.skip ?_
          refine St.then_n ?_
          refine St.go hK34 ?_
          clear hK34
          refine St.seq fun K36 hK36 => ?_
          refine St.region ?_
          refine St.r (R.move rfl) rfl rfl ?_
          refine St.r (R.move rfl) rfl rfl ?_
          refine St.r (R.move rfl) rfl rfl ?_
          refine St.r (R.indexS i Try.underlying23 Try.sizeOf3 rfl rfl rfl (by omega)) rfl rfl ?_
          refine St.r (R.load1 Try.isAgg3 rfl ((kI.elem encInt_len hni).at 0 rfl)) rfl rfl ?_
          refine St.call rfl rfl ent21 (Get_ret _ hS) rfl ?_
          rintro r106 w106 ⟨hr106, rfl⟩
          obtain rfl : r106 = .tuple #[.string x, .nilIface] := by rw [hr106, hn.2]; rfl
          clear hr106
          refine St.r (R.move rfl) rfl rfl ?_
          refine St.r (R.extract rfl rfl) rfl rfl ?_
          refine St.r (R.extract rfl rfl) rfl rfl ?_
          refine St.r (R.assign rfl) rfl rfl ?_
          refine St.r (R.assign rfl) rfl rfl ?_
          refine St.nil ?_
          refine St.weak [(0, _), (1, _), (5, _), (8, _), (14, _), (15, _), (16, _)] ⟨rfl, rfl, rfl, rfl, rfl, rfl, rfl, trivial⟩ ?_
          refine St.then_n ?_
          refine St.go hK36 ?_
          clear hK36
          refine St.seq fun K37 hK37 => ?_
          refine St.region ?_
          refine St.r (R.move rfl) rfl rfl ?_
          refine St.r (R.move rfl) rfl rfl ?_
          refine St.r (R.move rfl) rfl rfl ?_
          refine St.r (R.indexS i Try.underlying37 Try.sizeOf9 rfl rfl rfl (by omega)) rfl rfl ?_
          refine St.r (R.load1 Try.isAgg9 rfl ((E.cells hxc).at 0 rfl)) rfl rfl ?_
          refine St.call rfl rfl ent22 (Find_ret _ hS) rfl ?_
          rintro r115 w115 ⟨hr115, rfl⟩
          obtain rfl : r115 = .tuple #[.int .i64 n, .nilIface] := by rw [hr115, hids, Option.getD_some, if_neg (by omega)]; rfl
          clear hr115
          refine St.r (R.move rfl) rfl rfl ?_
          refine St.r (R.extract rfl rfl) rfl rfl ?_
          refine St.r (R.extract rfl rfl) rfl rfl ?_
          refine St.r (R.assign rfl) rfl rfl ?_
          refine St.r (R.assign rfl) rfl rfl ?_
          refine St.nil ?_
          refine St.weak [(0, _), (1, _), (5, _), (8, _), (14, _), (15, _), (16, _), (17, _), (18, _)] ⟨rfl, rfl, rfl, rfl, rfl, rfl, rfl, rfl, rfl, trivial⟩ ?_
          refine St.then_n ?_
          refine St.go hK37 ?_
          clear hK37
          refine St.seq fun K38 hK38 => ?_
          refine St.region ?_
          refine St.r (R.move rfl) rfl rfl ?_
          refine St.r (Runs.lit (c := false) (R.notNil (et := 91) (e := none) Try.underlying27 rfl) (rfl)) rfl rfl ?_
          refine St.r (R.move rfl) rfl rfl ?_
          refine St.take (dg := 120) rfl rfl ?_ rfl
          refine St.r (R.move rfl) rfl rfl ?_
          refine St.take (dg := 120) rfl rfl ?_ rfl
          refine St.r (Runs.lit (c := false) (R.notNil (et := 91) (e := none) Try.underlying27 rfl) (rfl)) rfl rfl ?_
          refine St.r (R.pickF rfl rfl) rfl rfl ?_
          refine St.r (R.move rfl) rfl rfl ?_
          refine St.take (dg := 124) rfl rfl ?_ rfl
          refine St.r (R.move rfl) rfl rfl ?_
          refine St.take (dg := 124) rfl rfl ?_ rfl
          refine St.r (R.move rfl) rfl rfl ?_
          refine St.take (dg := 124) rfl rfl ?_ rfl
          refine St.r (R.move rfl) rfl rfl ?_
          refine St.take (dg := 124) rfl rfl ?_ rfl
          refine St.r (R.indexS i Try.underlying37 Try.sizeOf9 rfl rfl rfl (by omega)) rfl rfl ?_
          refine St.take (dg := 124) rfl rfl ?_ rfl
          refine St.r (R.load1 Try.isAgg9 rfl ((E.cells hxc).at 0 rfl)) rfl rfl ?_
          refine St.take (dg := 124) rfl rfl ?_ rfl
          refine St.r (Runs.lit (c := false) (R.neS rfl rfl) (by simp)) rfl rfl ?_
          refine St.r (R.pickF rfl rfl) rfl rfl ?_
          refine St.r (R.move rfl) rfl rfl ?_
          refine St.take (dg := 132) rfl rfl ?_ rfl
          refine St.r (R.move rfl) rfl rfl ?_
          refine St.take (dg := 132) rfl rfl ?_ rfl
          refine St.r (R.move rfl) rfl rfl ?_
          refine St.take (dg := 132) rfl rfl ?_ rfl
          refine St.r (R.move rfl) rfl rfl ?_
          refine St.take (dg := 132) rfl rfl ?_ rfl
          refine St.r (R.indexS i Try.underlying23 Try.sizeOf3 rfl rfl rfl (by omega)) rfl rfl ?_
          refine St.take (dg := 132) rfl rfl ?_ rfl
          refine St.r (R.load1 Try.isAgg3 rfl ((kI.elem encInt_len hni).at 0 rfl)) rfl rfl ?_
          refine St.take (dg := 132) rfl rfl ?_ rfl
          refine St.r (Runs.lit (c := false) (R.neq rfl rfl) (decide_eq_false (fun h => h rfl))) rfl rfl ?_
          refine St.r (R.pickF rfl rfl) rfl rfl ?_
          refine St.nil ?_
          refine St.weak [(0, _), (1, _), (5, _), (8, _), (14, _), (139, _)] ⟨rfl, rfl, rfl, rfl, rfl, rfl, trivial⟩ ?_
          refine St.then_n ?_
          refine St.go hK38 ?_
          clear hK38
          refine St.condF rfl ?_
          refine St.skip ?_
          refine St.in_n ?_
          refine St.then_n ?_
          refine St.go hK33 ?_
          clear hK33
          refine St.region ?_
          refine St.r (R.move rfl) rfl rfl ?_
          refine St.r (R.add rfl rfl (by omega) (by omega)) rfl rfl ?_
          refine St.r (R.assign rfl) rfl rfl ?_
          refine St.nil ?_
          refine St.weak [(0, _), (1, _), (5, _), (8, _), (14, _)] ⟨rfl, rfl, rfl, rfl, rfl, trivial⟩ ?_
          refine St.then_n ?_
          refine St.round (i + 1) ⟨rfl, rfl, rfl, rfl, rfl, trivial⟩ ?_ ?_
          · exact ⟨by omega, by omega, E, hS, kI⟩
          · omega
      ·
        refine St.exit ?_
        refine St.then_x ?_
        refine St.then_x ?_
        refine St.in_x ?_
        refine St.then_n ?_
        refine St.meet hK7 () ⟨rfl, rfl, rfl, rfl, trivial⟩ ?_
        · exact ⟨E, hS, kI⟩
    ·
      refine St.region ?_
      refine St.r (R.move rfl) rfl rfl ?_
      refine St.r (R.move rfl) rfl rfl ?_
      refine St.r (R.lenSl Try.underlying37 rfl) rfl rfl ?_
      refine St.r (Runs.lit (c := false) (R.lss rfl rfl) (decide_eq_false h88)) rfl rfl ?_
      refine St.r (R.move rfl) rfl rfl ?_
      refine St.pass (dg := 89) rfl rfl rfl rfl rfl ?_
      refine St.pass (dg := 89) rfl rfl rfl rfl rfl ?_
      refine St.r (R.pickF rfl rfl) rfl rfl ?_
      refine St.nil ?_
      refine St.weak [(0, _), (1, _), (5, _), (8, _), (14, _), (92, _)] ⟨rfl, rfl, rfl, rfl, rfl, rfl, trivial⟩ ?_
      refine St.then_n ?_
      refine St.go hK32 ?_
      clear hK32
      refine St.condF rfl ?_
      refine St.exit ?_
      refine St.then_x ?_
      refine St.then_x ?_
      refine St.in_x ?_
      refine St.then_n ?_
      refine St.meet hK7 () ⟨rfl, rfl, rfl, rfl, trivial⟩ ?_
      · exact ⟨E, hS, kI⟩
  intro K6 hK6
  refine St.seq fun K39 hK39 => ?_
  refine St.region ?_
  refine St.r (R.assign rfl) rfl rfl ?_
  refine St.nil ?_
  refine St.weak [(0, _), (1, _), (5, _), (8, _), (9, _)] ⟨rfl, rfl, rfl, rfl, rfl, trivial⟩ ?_
  refine St.then_n ?_
  refine St.go hK39 ?_
  clear hK39
  refine St.block ?_
  refine St.loop (fun (i : Nat) => [(0, .slice A objs.length c), (1, u), (5, .pointer (some ⟨g, 0, none⟩)), (8, .slice (some ⟨b42, 0, none⟩) objs.length objs.length), (9, .int .i64 (i : Int))])
      (fun (i : Nat) w => i ≤ objs.length ∧ i ≤ 100 ∧ Ext w0 w ∧ StoB 101 w g bi ba (putAll sX (objs.take i)) ∧ Blk w b42 3 ((idsL objs i).flatMap encInt ++ []))
      (fun (i : Nat) => objs.length - i) 0 ⟨rfl, rfl, rfl, rfl, rfl, trivial⟩ ?_ ?_
  · exact ⟨Nat.zero_le _, by omega, E, hS, kI⟩
  rintro i w ⟨hi, hi1, E, hS, kI⟩
  show St _ _ [(0, .slice A objs.length c), (1, u), (5, .pointer (some ⟨g, 0, none⟩)), (8, .slice (some ⟨b42, 0, none⟩) objs.length objs.length), (9, .int .i64 (i : Int))] _ _
  refine St.seq fun K40 hK40 => ?_
  refine St.seq fun K41 hK41 => ?_
  by_cases h46 : (i : Int) < (objs.length : Int)
  ·
    refine St.region ?_
    refine St.r (R.move rfl) rfl rfl ?_
    refine St.r (R.move rfl) rfl rfl ?_
    refine St.r (R.lenSl Try.underlying37 rfl) rfl rfl ?_
    refine St.r (Runs.lit (c := true) (R.lss rfl rfl) (decide_eq_true h46)) rfl rfl ?_
    refine St.r (R.move rfl) rfl rfl ?_
    refine St.take (dg := 47) rfl rfl ?_ rfl
    refine St.r (R.move rfl) rfl rfl ?_
    refine St.take (dg := 47) rfl rfl ?_ rfl
    refine St.r (R.lss rfl rfl) rfl rfl ?_
    refine St.r (R.pickT rfl rfl) rfl rfl ?_
    refine St.nil ?_
    refine St.weak [(0, _), (1, _), (5, _), (8, _), (9, _), (50, _)] ⟨rfl, rfl, rfl, rfl, rfl, rfl, trivial⟩ ?_
    refine St.then_n ?_
    refine St.go hK41 ?_
    clear hK41
    refine St.condD rfl (fun h50 => ?_) (fun h50 => ?_)
    ·
      obtain ⟨x, hx⟩ := get_of_lt (xs := objs) (k := i) (by omega)
      obtain ⟨xb, xo, rfl, hxc⟩ := hv.get' hx
      obtain ⟨hok, hlast⟩ := putAll_X (bs := objs.take i) (by rw [List.length_take]; omega)
      have hb := hsz x (List.mem_of_getElem? hx)
      refine St.skip ?_
      refine St.then_n ?_
      refine St.go hK40 ?_
      clear hK40
      refine St.seq fun K42 hK42 => ?_
      refine St.block ?_
      refine St.seq fun K43 hK43 => ?_
      refine St.region ?_
      refine St.r (R.move rfl) rfl rfl ?_
      refine St.r (R.move rfl) rfl rfl ?_
      refine St.r (R.move rfl) rfl rfl ?_
      refine St.r (R.indexS i Try.underlying37 Try.sizeOf9 rfl rfl rfl (by omega)) rfl rfl ?_
      refine St.r (R.load1 Try.isAgg9 rfl ((E.cells hxc).at 0 rfl)) rfl rfl ?_
      refine St.call rfl rfl ent20 (Put_ret hok hb _ hS) rfl ?_
      rintro r59 w59 ⟨rfl, hS59, C59⟩
      replace E := Ext.then E C59 (fun j hj h => by omega)
      replace kI := kI.chg C59 (by omega)
      clear hS; have hS := hS59; clear hS59
      refine St.r (R.move rfl) rfl rfl ?_
      refine St.r (R.extract rfl rfl) rfl rfl ?_
      refine St.r (R.extract rfl rfl) rfl rfl ?_
      refine St.r (R.assign rfl) rfl rfl ?_
      refine St.r (R.assign rfl) rfl rfl ?_
      refine St.nil ?_
      refine St.weak [(0, _), (1, _), (5, _), (8, _), (9, _), (10, _), (11, _)] ⟨rfl, rfl, rfl, rfl, rfl, rfl, rfl, trivial⟩ ?_
      refine St.then_n ?_
      refine St.go hK43 ?_
      clear hK43
      refine St.seq fun K44 hK44 => ?_
      refine St.region ?_
      refine St.r (R.move rfl) rfl rfl ?_
      refine St.r (R.move rfl) rfl rfl ?_
      refine St.r (R.move rfl) rfl rfl ?_
      refine St.r (R.indexS i Try.underlying37 Try.sizeOf9 rfl rfl rfl (by omega)) rfl rfl ?_
      refine St.r (R.load1 Try.isAgg9 rfl ((E.cells hxc).at 0 rfl)) rfl rfl ?_
      refine St.call rfl rfl ent20 (Put2_ret hok (by omega) hb _ hS) rfl ?_
      rintro r68 w68 ⟨rfl, hS68, C68⟩
      replace E := Ext.then E C68 (fun j hj h => by omega)
      replace kI := kI.chg C68 (by omega)
      clear hS; have hS := hS68; clear hS68
      refine St.r (R.move rfl) rfl rfl ?_
      refine St.r (R.extract rfl rfl) rfl rfl ?_
      refine St.r (R.extract rfl rfl) rfl rfl ?_
      refine St.r (R.assign rfl) rfl rfl ?_
      refine St.r (R.assign rfl) rfl rfl ?_
      refine St.nil ?_
      refine St.weak [(0, _), (1, _), (5, _), (8, _), (9, _), (10, _), (11, _), (12, _), (13, _)] ⟨rfl, rfl, rfl, rfl, rfl, rfl, rfl, rfl, rfl, trivial⟩ ?_
      refine St.then_n ?_
      refine St.go hK44 ?_
      clear hK44
      refine St.seq fun K45 hK45 => ?_
      refine St.seq fun K46 hK46 => ?_
      refine St.weak [(0, _), (1, _), (5, _), (8, _), (9, _), (10, _), (11, _), (12, _), (13, _)] ⟨rfl, rfl, rfl, rfl, rfl, rfl, rfl, rfl, rfl, trivial⟩ ?_
      refine St.draw mixed rfl rfl rfl rfl ?_
      replace E := Ext.trans E (Ext.drew _)
      replace hS := hS.ext (Ext.drew _)
      replace kI := kI.ext (Ext.drew _)
      refine ⟨_, OpOk.r (R.move rfl) rfl, ?_⟩
      refine ⟨_, OpOk.r (R.move rfl) rfl, ?_⟩
      refine ⟨_, OpOk.r (Runs.lit (c := false) (R.neq rfl rfl) (decide_eq_false (fun h => h rfl))) rfl, ?_⟩
      refine ⟨_, OpOk.r (R.move rfl) rfl, ?_⟩
      refine ⟨_, OpOk.take (dg := 74) (R.move rfl) rfl rfl rfl rfl, ?_⟩
      refine ⟨_, OpOk.take (dg := 74) (R.isNil (et := 91) (e := _) Try.underlying27 rfl) rfl rfl rfl rfl, ?_⟩
      refine ⟨_, OpOk.take (dg := 74) (R.move rfl) rfl rfl rfl rfl, ?_⟩
      refine ⟨_, OpOk.take (dg := 74) (R.isNil (et := 91) (e := _) Try.underlying27 rfl) rfl rfl rfl rfl, ?_⟩
      refine ⟨_, OpOk.take (dg := 74) (Runs.lit (c := false) (R.neB Try.underlying4 rfl rfl) (by simp)) rfl rfl rfl rfl, ?_⟩
      refine ⟨_, OpOk.r (R.pickF rfl rfl) rfl, ?_⟩
      show St _ _ _ _ _
      refine St.weak [(0, _), (1, _), (5, _), (8, _), (9, _), (10, _), (80, _)] ⟨rfl, rfl, rfl, rfl, rfl, rfl, rfl, trivial⟩ ?_
      refine St.then_n ?_
      refine St.go hK46 ?_
      clear hK46
      refine St.condF rfl ?_
      refine St.skip ?_
      refine St.then_n ?_
      refine St.go hK45 ?_
      clear hK45
      refine St.region ?_
      refine St.r (R.move rfl) rfl rfl ?_
      refine St.r (R.move rfl) rfl rfl ?_
      refine St.r (R.move rfl) rfl rfl ?_
      refine St.r (R.indexS i Try.underlying23 Try.sizeOf3 rfl rfl rfl (by omega)) rfl rfl ?_
      refine St.store Try.sizeOf3 rfl rfl kI rfl (by simp only [List.length_append, flat_length encInt_len, idsL_length hi]; simp [Value.cells]; omega) (by simp [Value.cells, Value.oneCell']) ?_
      intro ws0 ks0 gs0 zs0
      replace E := Ext.then E gs0 (by intro j hj; omega)
      replace hS := hS.chg gs0 (by omega) (by omega) (by omega)
      clear kI; have kI := ks0; clear ks0
      refine St.nil ?_
      refine St.weak [(0, _), (1, _), (5, _), (8, _), (9, _)] ⟨rfl, rfl, rfl, rfl, rfl, trivial⟩ ?_
      refine St.in_n ?_
      refine St.then_n ?_
      refine St.go hK42 ?_
      clear hK42
      refine St.region ?_
      refine St.r (R.move rfl) rfl rfl ?_
      refine St.r (R.add rfl rfl (by omega) (by omega)) rfl rfl ?_
      refine St.r (R.assign rfl) rfl rfl ?_
      refine St.nil ?_
      refine St.weak [(0, _), (1, _), (5, _), (8, _), (9, _)] ⟨rfl, rfl, rfl, rfl, rfl, trivial⟩ ?_
      refine St.then_n ?_
      refine St.round (i + 1) ⟨rfl, rfl, rfl, rfl, rfl, trivial⟩ ?_ ?_
      · refine ⟨by omega, by omega, E, ?_, ?_⟩
        · rw [take_snoc hx, putAll_snoc]; exact hS
        · have h := kI
          rw [Nat.zero_add] at h
          rw [← idsL_set hx, ← splice_flat encInt_len (by rw [idsL_length hi]; omega)]
          exact h
      · omega
    ·
      refine St.exit ?_
      refine St.then_x ?_
      refine St.then_x ?_
      refine St.in_x ?_
      refine St.then_n ?_
      refine St.meet hK6 () ⟨rfl, rfl, rfl, rfl, trivial⟩ ?_
      · obtain rfl : i = min objs.length 100 := by omega
        exact ⟨E, hS, kI⟩
  ·
    refine St.region ?_
    refine St.r (R.move rfl) rfl rfl ?_
    refine St.r (R.move rfl) rfl rfl ?_
    refine St.r (R.lenSl Try.underlying37 rfl) rfl rfl ?_
    refine St.r (Runs.lit (c := false) (R.lss rfl rfl) (decide_eq_false h46)) rfl rfl ?_
    refine St.r (R.move rfl) rfl rfl ?_
    refine St.pass (dg := 47) rfl rfl rfl rfl rfl ?_
    refine St.pass (dg := 47) rfl rfl rfl rfl rfl ?_
    refine St.r (R.pickF rfl rfl) rfl rfl ?_
    refine St.nil ?_
    refine St.weak [(0, _), (1, _), (5, _), (8, _), (9, _), (50, _)] ⟨rfl, rfl, rfl, rfl, rfl, rfl, trivial⟩ ?_
    refine St.then_n ?_
    refine St.go hK41 ?_
    clear hK41
    refine St.condF rfl ?_
    refine St.exit ?_
    refine St.then_x ?_
    refine St.then_x ?_
    refine St.in_x ?_
    refine St.then_n ?_
    refine St.meet hK6 () ⟨rfl, rfl, rfl, rfl, trivial⟩ ?_
    · obtain rfl : i = min objs.length 100 := by omega
      exact ⟨E, hS, kI⟩

end Go.Proofs.Ytjgcmpondbocfaa

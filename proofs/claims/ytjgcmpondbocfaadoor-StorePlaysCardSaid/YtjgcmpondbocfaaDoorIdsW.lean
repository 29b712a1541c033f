/- Numbers of a store, in order. Under the reading of the arguments. -/
import Derived.Test.YtjgcmpondbocfaaDoorProg
import Derived.Test.YtjgcmpondbocfaaDoorStoreW
import Derived.Test.YtjgcmpondbocfaaDoorSeq
namespace Go.Proofs.YtjgcmpondbocfaaDoor
open Go.RowKit 
theorem ent46 : Ent Tryd.prog 46 := Ent.of Tryd.func46 (by kernel_rfl) rfl
theorem ent47 : Ent Tryd.prog 47 := Ent.of Tryd.func47 (by kernel_rfl) rfl
theorem ent62 : Ent Tryd.prog 62 := Ent.of Tryd.func62 (by kernel_rfl) rfl
theorem ent63 : Ent Tryd.prog 63 := Ent.of Tryd.func63 (by kernel_rfl) rfl
theorem ent64 : Ent Tryd.prog 64 := Ent.of Tryd.func64 (by kernel_rfl) rfl
theorem ent82 : Ent Tryd.prog 82 := Ent.of Tryd.func82 (by kernel_rfl) rfl
theorem ms_Keys1 {ms : List (Int × ByteArray)} {b Bm : Nat} (w : World) (hB : w.cell? ⟨Bm, 0, none⟩ = some (.map (some b))) (h : MapB encN encS w b ms) :
    SeqC Tryd.prog 64 [.pointer (some ⟨Bm, 0, none⟩)] encN (fun ks : List Int => ks.Perm (ms.map (·.1))) ms.length w := by
  intro W lp J eW hl1 hl2 hJ hY h0
  have hbl := h.lt
  have hzW := eW.size
  show Ret _ _ [_, _] _ _
  refine St.enter (N := 14) Tryd.func64 rfl Tryd.ntmps64 rfl ?_
  refine St.seq fun K0 hK0 => ?_
  refine St.region ?_
  refine St.r (R.load1 Tryd.isAgg90 rfl (eW.cell hB)) rfl rfl ?_
  refine St.turn (Eff.range Tryd.underlying90 (h.ext eW) rfl) rfl rfl ?_
  rintro _ w5 ⟨b5, rfl, hb5, hs5, e5, i5⟩
  refine St.nil ?_
  refine St.weak [(0, _), (5, _)] ⟨rfl, rfl, trivial⟩ ?_
  refine St.then_n ?_
  refine St.go hK0 ?_
  clear hK0
  refine St.block ?_
  refine St.loop (fun (x : List Int × List (Int × ByteArray)) => match x with | (pre, left) => [(0, .func (.yield lp) #[] #[]), (5, .pointer (some ⟨b5, 0, none⟩))])
      (fun (x : List Int × List (Int × ByteArray)) w => match x with | (pre, left) => J pre w ∧ IterB encN encS w b5 b ms left ∧ (pre ++ left.map (·.1)).Perm (ms.map (·.1)) ∧ KeysM left ∧ W.heap.size < w.heap.size)
      (fun (x : List Int × List (Int × ByteArray)) => match x with | (pre, left) => left.length) ([], ms) ⟨rfl, rfl, trivial⟩ ?_ ?_
  · exact ⟨hJ _ _ _ h0 (Nat.le_refl _) (Chg.mono e5 fun _ _ h => h.elim), i5, List.Perm.refl _, h.keys, by omega⟩
  rintro ⟨pre, left⟩ w ⟨hj, i0, hp, hn, hz⟩
  show St _ _ [(0, .func (.yield lp) #[] #[]), (5, .pointer (some ⟨b5, 0, none⟩))] _ _
  refine St.seq fun K1 hK1 => ?_
  refine St.region ?_
  refine St.turn (Eff.next i0 rfl) rfl rfl ?_
  rintro _ w6 (⟨hl6, rfl, rfl⟩ | ⟨p6, hp6, rfl, i6, gn6, zn6⟩)
  ·
    subst hl6
    rw [List.map_nil, List.append_nil] at hp
    refine St.r (R.extract rfl rfl) rfl rfl ?_
    refine St.nil ?_
    refine St.weak [(0, _), (5, _), (7, _)] ⟨rfl, rfl, rfl, trivial⟩ ?_
    refine St.then_n ?_
    refine St.go hK1 ?_
    clear hK1
    refine St.seq fun K2 hK2 => ?_
    refine St.condF rfl ?_
    refine St.exit ?_
    refine St.then_x ?_
    refine St.then_x ?_
    refine St.in_x ?_
    refine St.end0 Tryd.results64 ?_
    exact ⟨_, rfl, pre, hp, hj⟩
  ·
    clear i0
    have hst := keys_step hp hn hp6
    replace hj := hJ _ _ _ hj (Nat.le_of_lt hz) (Chg.mono gn6 fun _ _ h => h.trans hb5)
    refine St.r (R.extract rfl rfl) rfl rfl ?_
    refine St.nil ?_
    refine St.weak [(0, _), (5, _), (7, _)] ⟨rfl, rfl, rfl, trivial⟩ ?_
    refine St.then_n ?_
    refine St.go hK1 ?_
    clear hK1
    refine St.seq fun K3 hK3 => ?_
    refine St.condT rfl ?_
    refine St.skip ?_
    refine St.then_n ?_
    refine St.go hK3 ?_
    clear hK3
    refine St.block ?_
    refine St.seq fun K4 hK4 => ?_
    refine St.region ?_
    refine St.r (R.entry i6 rfl) rfl rfl ?_
    refine St.r (R.extract rfl rfl) rfl rfl ?_
    refine St.r (R.assign rfl) rfl rfl ?_
    refine St.nil ?_
    refine St.weak [(0, _), (3, _), (5, _)] ⟨rfl, rfl, rfl, trivial⟩ ?_
    refine St.then_n ?_
    refine St.go hK4 ?_
    clear hK4
    refine St.seq fun K5 hK5 => ?_
    refine St.region ?_
    refine St.r (R.move rfl) rfl rfl ?_
    refine St.r (R.move rfl) rfl rfl ?_
    refine St.yield rfl rfl (hY pre _ p6.1 hj hst.2 (by omega)) rfl ?_
    rintro b12 w12 ⟨rfl, hj, c12⟩
    have z12 := c12.size
    replace i6 := i6.chg c12 (by omega) (by omega)
    refine St.r (Runs.lit (c := false) (R.not rfl) (rfl)) rfl rfl ?_
    refine St.nil ?_
    refine St.weak [(0, _), (5, _), (13, _)] ⟨rfl, rfl, rfl, trivial⟩ ?_
    refine St.then_n ?_
    refine St.go hK5 ?_
    clear hK5
    refine St.condF rfl ?_
    refine St.skip ?_
    refine St.in_n ?_
    refine St.then_n ?_
    refine St.round (pre ++ [p6.1], delM left p6.1) ⟨rfl, rfl, trivial⟩ ?_ ?_
    · try dsimp only
      exact ⟨hj, i6.forget, hst.1, hn.del _, by omega⟩
    · try dsimp only
      exact delM_lt hp6

theorem ms_Keys (w0 : World) (mb : Option Nat) : Ret Tryd.prog 47 [.map mb] w0 fun r w' => ∃ g, r = .func (.func 64) #[] #[.pointer (some ⟨g, 0, none⟩)] ∧ w'.cell? ⟨g, 0, none⟩ = some (.map mb) ∧ Ext w0 w' := by
  have E : Ext w0 w0 := Ext.refl w0
  refine St.enter (N := 4) Tryd.func47 rfl Tryd.ntmps47 rfl ?_
  refine St.seq fun K0 hK0 => ?_
  refine St.region ?_
  refine St.box rfl rfl ?_
  intro w1 b1 hb1 hs1 e1 k1
  have qE1 := E.size
  replace E := Ext.trans E e1
  refine St.r (R.assign rfl) rfl rfl ?_
  refine St.nil ?_
  refine St.weak [(1, _)] ⟨rfl, trivial⟩ ?_
  refine St.then_n ?_
  refine St.go hK0 ?_
  clear hK0
  refine St.seq fun K1 hK1 => ?_
  refine St.region ?_
  refine St.r (R.fn rfl rfl) rfl rfl ?_
  refine St.r (R.assign rfl) rfl rfl ?_
  refine St.nil ?_
  refine St.weak [(2, _)] ⟨rfl, trivial⟩ ?_
  refine St.then_n ?_
  refine St.go hK1 ?_
  clear hK1
  refine St.ret ?_
  refine St.ret1 Tryd.results47 rfl ?_
  exact ⟨_, rfl, _, rfl, k1.cell 0 rfl, E⟩

theorem int_AppendSeq {g : FuncId} {caps : List Value} {S : List Int → Prop} {n : Nat} (hn : n * 8 ≤ 140737488351232) (w0 : World) (he : Ent Tryd.prog g) (hS : SeqC Tryd.prog g caps encN S n w0) :
    Ret Tryd.prog 82 [.slice none 0 0, .func (.func g) #[] caps.toArray] w0 fun r w' => ∃ ks, S ks ∧ ks.length ≤ n ∧ Own encInt 1 w0.heap.size 3 w' r ks ∧ Ext w0 w' := by
  have E : Ext w0 w0 := Ext.refl w0
  refine St.enterM (N := 13) Tryd.func82 rfl Tryd.ntmps82 rfl ?_
  refine St.seq fun K0 hK0 => ?_
  refine St.region ?_
  refine St.box rfl rfl ?_
  intro w2 b2 hb2 hs2 e2 k2
  have qE2 := E.size
  replace E := Ext.trans E e2
  refine St.r (R.assign rfl) rfl rfl ?_
  refine St.nil ?_
  refine St.weak [(1, _), (2, _)] ⟨rfl, rfl, trivial⟩ ?_
  refine St.then_n ?_
  refine St.go hK0 ?_
  clear hK0
  refine St.seq fun K1 hK1 => ?_
  refine St.seq fun K2 hK2 => ?_
  refine St.region ?_
  refine St.r (R.move rfl) rfl rfl ?_
  refine St.nil ?_
  refine St.weak [(2, _), (6, _)] ⟨rfl, rfl, trivial⟩ ?_
  refine St.then_n ?_
  refine St.go hK2 ?_
  clear hK2
  refine St.block ?_
  refine St.rangeF rfl he ?_
  intro fn T w1 lp rr hT hs hrr e1 hlp hz1 kD kL
  have qER := E.size
  replace E := Ext.trans E e1
  replace k2 := k2.ext e1
  have zE := E.size
  refine Ret.mono (hS w1 lp (fun pre W => LoopB W lp (rr .ready none) ∧ DefB W w2.heap.size ∧ Ext w0 W ∧ pre.length ≤ n ∧ ∃ v, Blk W b2 30 [v] ∧ Own encInt 1 (w1.heap.size + 1) 3 W v pre) E (by omega) (by omega) ?_ ?_ ?_) ?_
  · rintro pre W1 W2 ⟨i1, i2, i3, i4, v, i5, i6⟩ hz c
    have zz := i1.lt
    exact ⟨i1.chg c (by omega), i2.chg c (by omega), Ext.then i3 c (by intro j hj h; omega), i4, v, i5.chg c (by omega), i6.chg c (by intro k hk h; have := (i6.base hk).1; omega)⟩
  · rintro pre W1 x ⟨kL, kD, E, hlen, v, kB, o0⟩ hpl hzW
    have EW := Chg.refl (fun k => (w0.heap.size ≤ k ∧ k < w1.heap.size) ∨ w1.heap.size < k) W1
    have zE1 := E.size
    have zL := kL.lt
    show Yields _ _ [_] _ _
    refine Yields.of1 hrr kL hs hT rfl ?_
    refine St.weak [(2, _), (7, _)] ⟨rfl, rfl, trivial⟩ ?_
    refine St.region ?_
    refine St.r (R.assign rfl) rfl rfl ?_
    refine St.nil ?_
    refine St.weak [(2, _), (5, _)] ⟨rfl, rfl, trivial⟩ ?_
    refine St.then_n ?_
    refine St.begin kL ?_
    intro wb hwb
    obtain ⟨cb, zb, kb_⟩ := putObj_facts hwb kL
    replace E := Ext.then E cb (by intro j hj; omega)
    replace kD := kD.chg cb (by omega)
    replace kB := kB.chg cb (by omega)
    replace o0 := o0.chg cb (by intro k hk h; have := (o0.base hk).1; omega)
    clear kL; have kL := kb_; clear kb_
    replace EW := EW.then cb (fun k _ h => .inl (by omega))
    refine St.block ?_
    refine St.region ?_
    refine St.r (R.load1 Tryd.isAgg30 rfl (kB.cell 0 rfl)) rfl rfl ?_
    refine St.r (R.move rfl) rfl rfl ?_
    refine St.buildSl Tryd.underlying30 Tryd.sizeOf3 Tryd.zeroValue3 rfl rfl rfl rfl (by intro u hu; simp only [List.mem_cons, List.not_mem_nil, or_false] at hu; first | (subst hu; rfl) | (rcases hu with rfl | rfl <;> rfl) | (rcases hu with rfl | rfl | rfl <;> rfl) | (rcases hu with rfl | rfl | rfl | rfl <;> rfl)) rfl ?_
    intro w10 b10 hb10 hs10 e10 k10
    have qE10 := E.size
    replace E := Ext.trans E e10
    replace kL := kL.ext e10
    replace kD := kD.ext e10
    replace kB := kB.ext e10
    replace o0 := o0.ext e10
    replace EW := EW.then e10 (fun _ _ h => h.elim)
    have hoX := fun k hk => (o0.base (k := k) hk).1
    refine St.append (enc := encInt) (fun _ => rfl) one_int Tryd.underlying30 info3 rfl rfl rfl rfl o0 (RSl.mk (enc := encInt) (xs := [x]) encInt_len k10.cells (fun i u hu => hu) (by simp) (by simp)) (by simp; omega) (by simp; omega) (by omega) rfl ?_
    intro v11 w11 a11 g11 at11
    replace E := Ext.then E g11 (by intro j hj hk; have := (o0.base hk).1; omega)
    replace kL := kL.chg g11 (by intro hk; have := (o0.base hk).1; omega)
    replace kD := kD.chg g11 (by intro hk; have := (o0.base hk).1; omega)
    replace kB := kB.chg g11 (by intro hk; have := (o0.base hk).1; omega)
    clear o0; have o0 := a11; clear a11
    replace EW := EW.then g11 (fun k _ h => .inr (by have := (hoX k h); omega))
    obtain ⟨A11, c11, rfl, -, -⟩ := o0.form
    refine St.store Tryd.sizeOf30 rfl rfl kB rfl (by simp [Value.cells]) (by intro u hu; simp [Value.cells] at hu; subst hu; rfl) ?_
    intro ws0 ks0 gs0 zs0
    replace E := Ext.then E gs0 (by intro j hj; omega)
    replace kL := kL.chg gs0 (by omega)
    replace kD := kD.chg gs0 (by omega)
    replace o0 := o0.chg gs0 (by intro k hk h; have := (o0.base hk).1; omega)
    clear kB; have kB := ks0; clear ks0
    replace EW := EW.then gs0 (fun k _ h => .inl (by omega))
    refine St.nil ?_
    refine St.weak [] trivial ?_
    refine St.in_n ?_
    refine fun _ _ _ => ⟨kL, rfl, ⟨kL.put _, kD.chg (Chg.putObj _ _ _) (by omega), Ext.then E (Chg.putObj _ _ _) (by intro j hj h; omega), by simp; omega, _, kB.chg (Chg.putObj _ _ _) (by omega), o0.chg (Chg.putObj _ _ _) (by intro k hk h; have := (o0.base hk).1; omega)⟩, EW.then (Chg.putObj _ _ _) (fun k _ h => .inl (by omega))⟩
  · exact ⟨kL, kD, E, Nat.zero_le _, _, k2, Own.nil _ _ _ _ _⟩
  · rintro _ W2 ⟨ks, hks, kL, kD, E, hlen, v, kB, o0⟩
    refine ⟨.ready, none, by simp, kL, ?_⟩
    have zE2 := E.size
    replace E := Ext.then E (Chg.putObj _ lp (.loop (rr .exhausted none))) (by intro j hj h; omega)
    replace kD := kD.chg (Chg.putObj _ lp (.loop (rr .exhausted none))) (by omega)
    replace kB := kB.chg (Chg.putObj _ lp (.loop (rr .exhausted none))) (by omega)
    replace o0 := o0.chg (Chg.putObj _ lp (.loop (rr .exhausted none))) (by intro k hk h; have := (o0.base hk).1; omega)
    clear kL
    refine St.jump0 hT hs ?_
    refine St.weak [(2, _)] ⟨rfl, trivial⟩ ?_
    refine St.in_n ?_
    refine St.then_n ?_
    refine St.go hK1 ?_
    clear hK1
    refine St.seq fun K3 hK3 => ?_
    refine St.region ?_
    refine St.r (R.load1 Tryd.isAgg30 rfl (kB.cell 0 rfl)) rfl rfl ?_
    refine St.r (R.assign rfl) rfl rfl ?_
    refine St.nil ?_
    refine St.weak [(4, _)] ⟨rfl, trivial⟩ ?_
    refine St.then_n ?_
    refine St.go hK3 ?_
    clear hK3
    refine St.ret ?_
    refine St.marked (.inl rfl) kD ?_
    have cm := kD.shut
    replace E := Ext.then E cm (by intro j hj; omega)
    replace kB := kB.chg cm (by omega)
    replace o0 := o0.chg cm (by intro k hk h; have := (o0.base hk).1; omega)
    refine St.ret1 Tryd.results82 rfl ?_
    exact ⟨_, rfl, ks, hks, hlen, (o0.lower (by omega)), E⟩

theorem int_Collect {g : FuncId} {caps : List Value} {S : List Int → Prop} {n : Nat} (hn : n * 8 ≤ 140737488351232) (w0 : World) (he : Ent Tryd.prog g) (hS : SeqC Tryd.prog g caps encN S n w0) :
    Ret Tryd.prog 62 [.func (.func g) #[] caps.toArray] w0 fun r w' => ∃ ks, S ks ∧ ks.length ≤ n ∧ Own encInt 1 w0.heap.size 3 w' r ks ∧ Ext w0 w' := by
  have E : Ext w0 w0 := Ext.refl w0
  refine St.enter (N := 5) Tryd.func62 rfl Tryd.ntmps62 rfl ?_
  refine St.seq fun K0 hK0 => ?_
  refine St.region ?_
  refine St.r (R.assign rfl) rfl rfl ?_
  refine St.nil ?_
  refine St.weak [(0, _)] ⟨rfl, trivial⟩ ?_
  refine St.then_n ?_
  refine St.go hK0 ?_
  clear hK0
  refine St.seq fun K1 hK1 => ?_
  refine St.region ?_
  refine St.r (R.move rfl) rfl rfl ?_
  refine St.call rfl rfl ent82 (int_AppendSeq hn _ he hS) rfl ?_
  rintro r4 w4 ⟨ks, hks, hlen, o4, e4⟩
  replace E := Ext.trans E e4
  refine St.r (R.assign rfl) rfl rfl ?_
  refine St.nil ?_
  refine St.weak [(2, _)] ⟨rfl, trivial⟩ ?_
  refine St.then_n ?_
  refine St.go hK1 ?_
  clear hK1
  refine St.ret ?_
  refine St.ret1 Tryd.results62 rfl ?_
  exact ⟨_, rfl, ks, hks, hlen, o4, E⟩

theorem int_Sorted (hs : SortC Tryd.prog 63 3) {g : FuncId} {caps : List Value} {S : List Int → Prop} {n : Nat} (hn : n * 8 ≤ 140737488351232) (w0 : World) (he : Ent Tryd.prog g) (hS : SeqC Tryd.prog g caps encN S n w0) :
    Ret Tryd.prog 46 [.func (.func g) #[] caps.toArray] w0 fun r w' => ∃ ks, S ks ∧ ks.length ≤ n ∧ Own encInt 1 w0.heap.size 3 w' r (sortI ks) ∧ Ext w0 w' := by
  have E : Ext w0 w0 := Ext.refl w0
  refine St.enter (N := 9) Tryd.func46 rfl Tryd.ntmps46 rfl ?_
  refine St.seq fun K0 hK0 => ?_
  refine St.region ?_
  refine St.r (R.assign rfl) rfl rfl ?_
  refine St.nil ?_
  refine St.weak [(0, _)] ⟨rfl, trivial⟩ ?_
  refine St.then_n ?_
  refine St.go hK0 ?_
  clear hK0
  refine St.seq fun K1 hK1 => ?_
  refine St.region ?_
  refine St.r (R.move rfl) rfl rfl ?_
  refine St.call rfl rfl ent62 (int_Collect hn _ he hS) rfl ?_
  rintro r5 w5 ⟨ks, hks, hlen, o5, e5⟩
  replace E := Ext.trans E e5
  have hB := fun k hk => (o5.base (k := k) hk).1
  refine St.r (R.assign rfl) rfl rfl ?_
  refine St.nil ?_
  refine St.weak [(3, _)] ⟨rfl, trivial⟩ ?_
  refine St.then_n ?_
  refine St.go hK1 ?_
  clear hK1
  refine St.seq fun K2 hK2 => ?_
  refine St.region ?_
  refine St.r (R.move rfl) rfl rfl ?_
  refine St.call rfl rfl ent63 (hs ks _ _ _ (by omega) o5) rfl ?_
  rintro r7 w7 ⟨rfl, o7, c7⟩
  replace E := Ext.then E c7 (fun j hj h => by have := hB j h; omega)
  refine St.nil ?_
  refine St.weak [(3, _)] ⟨rfl, trivial⟩ ?_
  refine St.then_n ?_
  refine St.go hK2 ?_
  clear hK2
  refine St.seq fun K3 hK3 => ?_
  refine St.region ?_
  refine St.r (R.move rfl) rfl rfl ?_
  refine St.r (R.assign rfl) rfl rfl ?_
  refine St.nil ?_
  refine St.weak [(2, _)] ⟨rfl, trivial⟩ ?_
  refine St.then_n ?_
  refine St.go hK3 ?_
  clear hK3
  refine St.ret ?_
  refine St.ret1 Tryd.results46 rfl ?_
  exact ⟨_, rfl, ks, hks, hlen, o7, E⟩

theorem Ids_ret {s : Sto} {g bi ba : Nat} (hs : SortC Tryd.prog 63 3) (hok : s.Ok) (w0 : World) (h : StoB 92 w0 g bi ba s) :
    Ret Tryd.prog 26 [.pointer (some ⟨g, 0, none⟩)] w0 fun r w' => ∃ ks : List Int, ks.Perm (s.all.map (·.1)) ∧ Own encInt 1 w0.heap.size 3 w' r (sortI ks) ∧ Ext w0 w' := by
  have E : Ext w0 w0 := Ext.refl w0
  refine St.enter (N := 9) Tryd.func26 rfl Tryd.ntmps26 rfl ?_
  refine St.seq fun K0 hK0 => ?_
  refine St.region ?_
  refine St.r (R.assign rfl) rfl rfl ?_
  refine St.nil ?_
  refine St.weak [(0, _)] ⟨rfl, trivial⟩ ?_
  refine St.then_n ?_
  refine St.go hK0 ?_
  clear hK0
  refine St.seq fun K1 hK1 => ?_
  refine St.region ?_
  refine St.r (R.move rfl) rfl rfl ?_
  refine St.r (R.nilOk rfl) rfl rfl ?_
  refine St.r (R.fieldA Tryd.underlying92 rfl Tryd.sizeOf90 rfl rfl rfl) rfl rfl ?_
  refine St.r (R.load1 Tryd.isAgg90 rfl (h.blk.cells.at 3 rfl)) rfl rfl ?_
  refine St.call rfl rfl ent47 (ms_Keys _ (some ba)) rfl ?_
  rintro r7 w7 ⟨g7, rfl, hc7, e7⟩
  replace E := Ext.trans E e7
  have hf := hok.few
  have zE := E.size
  refine St.call rfl rfl ent46 (int_Sorted hs (n := s.all.length) (by omega) _ ent64 (ms_Keys1 _ hc7 (h.all.ext E))) rfl ?_
  rintro r8 w8 ⟨ks, hks, hlen, o8, e8⟩
  replace E := Ext.trans E e8
  refine St.r (R.assign rfl) rfl rfl ?_
  refine St.nil ?_
  refine St.weak [(2, _)] ⟨rfl, trivial⟩ ?_
  refine St.then_n ?_
  refine St.go hK1 ?_
  clear hK1
  refine St.ret ?_
  refine St.ret1 Tryd.results26 rfl ?_
  exact ⟨_, rfl, ks, hks, o8.lower (by omega), E⟩

end Go.Proofs.YtjgcmpondbocfaaDoor

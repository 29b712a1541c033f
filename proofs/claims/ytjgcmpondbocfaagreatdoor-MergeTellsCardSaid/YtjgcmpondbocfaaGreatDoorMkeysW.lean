/- Pairs of a map, in order; the pairs of some sides. Under the reading of the arguments. -/
import Derived.Test.YtjgcmpondbocfaaGreatDoorProg
import Derived.Test.YtjgcmpondbocfaaGreatDoorMergeW
import Derived.Test.YtjgcmpondbocfaaGreatDoorSeq
import Derived.Test.YtjgcmpondbocfaaGreatDoorSortCmp
import Derived.Ground.SlsfProg
namespace Go.Proofs.YtjgcmpondbocfaaGreatDoor
open Go.RowKit Go.Shelf Go.Sort
theorem ent163 : Ent Tryz.prog 163 := Ent.of Tryz.func163 (by kernel_rfl) rfl
theorem ent164 : Ent Tryz.prog 164 := Ent.of Tryz.func164 (by kernel_rfl) rfl
theorem ent165 : Ent Tryz.prog 165 := Ent.of Tryz.func165 (by kernel_rfl) rfl
theorem ent212 : Ent Tryz.prog 212 := Ent.of Tryz.func212 (by kernel_rfl) rfl
theorem ent213 : Ent Tryz.prog 213 := Ent.of Tryz.func213 (by kernel_rfl) rfl
theorem ent214 : Ent Tryz.prog 214 := Ent.of Tryz.func214 (by kernel_rfl) rfl
theorem ent253 : Ent Tryz.prog 253 := Ent.of Tryz.func253 (by kernel_rfl) rfl
theorem info176 : (Tryz.prog.info? 176).map (fun i => (i.zero, i.size, i.bytes)) = some (some (.agg #[.int .i64 0, .string ⟨#[]⟩, .string ⟨#[]⟩, .int .i64 0, .string ⟨#[]⟩, .string ⟨#[]⟩]), 6, 80) := by kernel_rfl
theorem mc_Keys1 {ms : List (Clash × Bool)} {b Bm : Nat} (w : World) (hB : w.cell? ⟨Bm, 0, none⟩ = some (.map (some b))) (h : MapB vf176 (fun b : Bool => Value.bool b) w b ms) :
    SeqC Tryz.prog 214 [.pointer (some ⟨Bm, 0, none⟩)] vf176 (fun ks : List Clash => ks.Perm (ms.map (·.1))) ms.length w := by
  intro W lp J eW hl1 hl2 hJ hY h0
  have hbl := h.lt
  have hzW := eW.size
  show Ret _ _ [_, _] _ _
  refine St.enter (N := 14) Tryz.func214 rfl Tryz.ntmps214 rfl ?_
  refine St.seq fun K0 hK0 => ?_
  refine St.region ?_
  refine St.r (R.load1 Tryz.isAgg244 rfl (eW.cell hB)) rfl rfl ?_
  refine St.turn (Eff.range Tryz.underlying244 (h.ext eW) rfl) rfl rfl ?_
  rintro _ w5 ⟨b5, rfl, hb5, hs5, e5, i5⟩
  refine St.nil ?_
  refine St.weak [(0, _), (5, _)] ⟨rfl, rfl, trivial⟩ ?_
  refine St.then_n ?_
  refine St.go hK0 ?_
  clear hK0
  refine St.block ?_
  refine St.loop (fun (x : List Clash × List (Clash × Bool)) => match x with | (pre, left) => [(0, .func (.yield lp) #[] #[]), (5, .pointer (some ⟨b5, 0, none⟩))])
      (fun (x : List Clash × List (Clash × Bool)) w => match x with | (pre, left) => J pre w ∧ IterB vf176 (fun b : Bool => Value.bool b) w b5 b ms left ∧ (pre ++ left.map (·.1)).Perm (ms.map (·.1)) ∧ KeysM left ∧ W.heap.size < w.heap.size)
      (fun (x : List Clash × List (Clash × Bool)) => match x with | (pre, left) => left.length) ([], ms) ⟨rfl, rfl, trivial⟩ ?_ ?_
  · exact ⟨hJ _ _ _ h0 (Nat.le_refl _) (Chg.mono e5 fun _ _ h => h.elim), i5, List.Perm.refl _, h.keys, by omega⟩
  rintro ⟨pre, left⟩ w ⟨hj, i0, hp, hn, hz⟩
  show St _ _ [(0, .func (.yield lp) #[] #[]), (5, .pointer (some ⟨b5, 0, none⟩))] _ _
  refine St.seq fun K1 hK1 => ?_
  refine St.region ?_
  refine St.turn (Eff.next i0 rfl) rfl rfl ?_
  rintro _ w6 (⟨hl6, rfl, rfl⟩ | ⟨p6, hp6, rfl, i6, gn6, zn6⟩)
  ·
    subst hl6
    rw [List.map_nil, List.append_nil] at hp
    refine St.r (R.extract rfl rfl) rfl rfl ?_
    refine St.nil ?_
    refine St.weak [(0, _), (5, _), (7, _)] ⟨rfl, rfl, rfl, trivial⟩ ?_
    refine St.then_n ?_
    refine St.go hK1 ?_
    clear hK1
    refine St.seq fun K2 hK2 => ?_
    refine St.condF rfl ?_
    refine St.exit ?_
    refine St.then_x ?_
    refine St.then_x ?_
    refine St.in_x ?_
    refine St.end0 Tryz.results214 ?_
    exact ⟨_, rfl, pre, hp, hj⟩
  ·
    clear i0
    have hst := keys_step hp hn hp6
    replace hj := hJ _ _ _ hj (Nat.le_of_lt hz) (Chg.mono gn6 fun _ _ h => h.trans hb5)
    refine St.r (R.extract rfl rfl) rfl rfl ?_
    refine St.nil ?_
    refine St.weak [(0, _), (5, _), (7, _)] ⟨rfl, rfl, rfl, trivial⟩ ?_
    refine St.then_n ?_
    refine St.go hK1 ?_
    clear hK1
    refine St.seq fun K3 hK3 => ?_
    refine St.condT rfl ?_
    refine St.skip ?_
    refine St.then_n ?_
    refine St.go hK3 ?_
    clear hK3
    refine St.block ?_
    refine St.seq fun K4 hK4 => ?_
    refine St.region ?_
    refine St.r (R.entry i6 rfl) rfl rfl ?_
    have EW := Ext.refl w6
    refine St.r (R.extract rfl rfl) rfl rfl ?_
    refine St.alloc Tryz.zeroValue176 rfl ?_
    intro w3 b3 hb3 hs3 e3 k3
    have qEW3 := EW.size
    replace EW := Ext.trans EW e3
    replace i6 := i6.ext e3
    refine St.store Tryz.sizeOf176 rfl rfl k3 rfl (by simp [Value.cells, encClash, encTerm]) (one_clash p6.1) ?_
    intro ws0 ks0 gs0 zs0
    replace EW := Ext.then EW gs0 (by intro j hj; omega)
    replace i6 := i6.chg gs0 (by omega) (by omega)
    clear k3; have k3 := ks0; clear ks0
    replace k3 : Blk ws0 b3 176 (encClash p6.1) := k3
    replace hj := hJ _ _ _ hj (by omega) (Chg.mono EW fun _ _ h => h.elim)
    refine St.nil ?_
    refine St.weak [(0, _), (3, _), (5, _)] ⟨rfl, rfl, rfl, trivial⟩ ?_
    refine St.then_n ?_
    refine St.go hK4 ?_
    clear hK4
    refine St.seq fun K5 hK5 => ?_
    refine St.region ?_
    refine St.r (R.move rfl) rfl rfl ?_
    refine St.r (R.loadA Tryz.isAgg176 Tryz.sizeOf176 rfl k3.cells rfl) rfl rfl ?_
    refine St.yield rfl rfl (hY pre _ p6.1 hj hst.2 (by omega)) rfl ?_
    rintro b12 w12 ⟨rfl, hj, c12⟩
    have z12 := c12.size
    replace i6 := i6.chg c12 (by omega) (by omega)
    refine St.r (Runs.lit (c := false) (R.not rfl) (rfl)) rfl rfl ?_
    refine St.nil ?_
    refine St.weak [(0, _), (5, _), (13, _)] ⟨rfl, rfl, rfl, trivial⟩ ?_
    refine St.then_n ?_
    refine St.go hK5 ?_
    clear hK5
    refine St.condF rfl ?_
    refine St.skip ?_
    refine St.in_n ?_
    refine St.then_n ?_
    refine St.round (pre ++ [p6.1], delM left p6.1) ⟨rfl, rfl, trivial⟩ ?_ ?_
    · try dsimp only
      exact ⟨hj, i6.forget, hst.1, hn.del _, by omega⟩
    · try dsimp only
      exact delM_lt hp6

theorem mc_Keys (w0 : World) (mb : Option Nat) : Ret Tryz.prog 164 [.map mb] w0 fun r w' => ∃ g, r = .func (.func 214) #[] #[.pointer (some ⟨g, 0, none⟩)] ∧ w'.cell? ⟨g, 0, none⟩ = some (.map mb) ∧ Ext w0 w' := by
  have E : Ext w0 w0 := Ext.refl w0
  refine St.enter (N := 4) Tryz.func164 rfl Tryz.ntmps164 rfl ?_
  refine St.seq fun K0 hK0 => ?_
  refine St.region ?_
  refine St.box rfl rfl ?_
  intro w1 b1 hb1 hs1 e1 k1
  have qE1 := E.size
  replace E := Ext.trans E e1
  refine St.r (R.assign rfl) rfl rfl ?_
  refine St.nil ?_
  refine St.weak [(1, _)] ⟨rfl, trivial⟩ ?_
  refine St.then_n ?_
  refine St.go hK0 ?_
  clear hK0
  refine St.seq fun K1 hK1 => ?_
  refine St.region ?_
  refine St.r (R.fn rfl rfl) rfl rfl ?_
  refine St.r (R.assign rfl) rfl rfl ?_
  refine St.nil ?_
  refine St.weak [(2, _)] ⟨rfl, trivial⟩ ?_
  refine St.then_n ?_
  refine St.go hK1 ?_
  clear hK1
  refine St.ret ?_
  refine St.ret1 Tryz.results164 rfl ?_
  exact ⟨_, rfl, _, rfl, k1.cell 0 rfl, E⟩

theorem cl_AppendSeq {g : FuncId} {caps : List Value} {S : List Clash → Prop} {n : Nat} (hn : n * 80 ≤ 140737488351232) (w0 : World) (he : Ent Tryz.prog g) (hS : SeqC Tryz.prog g caps vf176 S n w0) :
    Ret Tryz.prog 253 [.slice none 0 0, .func (.func g) #[] caps.toArray] w0 fun r w' => ∃ ks, S ks ∧ ks.length ≤ n ∧ Own encClash 6 w0.heap.size 176 w' r ks ∧ Ext w0 w' := by
  have E : Ext w0 w0 := Ext.refl w0
  refine St.enterM (N := 13) Tryz.func253 rfl Tryz.ntmps253 rfl ?_
  refine St.seq fun K0 hK0 => ?_
  refine St.region ?_
  refine St.box rfl rfl ?_
  intro w2 b2 hb2 hs2 e2 k2
  have qE2 := E.size
  replace E := Ext.trans E e2
  refine St.r (R.assign rfl) rfl rfl ?_
  refine St.nil ?_
  refine St.weak [(1, _), (2, _)] ⟨rfl, rfl, trivial⟩ ?_
  refine St.then_n ?_
  refine St.go hK0 ?_
  clear hK0
  refine St.seq fun K1 hK1 => ?_
  refine St.seq fun K2 hK2 => ?_
  refine St.region ?_
  refine St.r (R.move rfl) rfl rfl ?_
  refine St.nil ?_
  refine St.weak [(2, _), (6, _)] ⟨rfl, rfl, trivial⟩ ?_
  refine St.then_n ?_
  refine St.go hK2 ?_
  clear hK2
  refine St.block ?_
  refine St.rangeF rfl he ?_
  intro fn T w1 lp rr hT hs hrr e1 hlp hz1 kD kL
  have qER := E.size
  replace E := Ext.trans E e1
  replace k2 := k2.ext e1
  have zE := E.size
  refine Ret.mono (hS w1 lp (fun pre W => LoopB W lp (rr .ready none) ∧ DefB W w2.heap.size ∧ Ext w0 W ∧ pre.length ≤ n ∧ ∃ v, Blk W b2 73 [v] ∧ Own encClash 6 (w1.heap.size + 1) 176 W v pre) E (by omega) (by omega) ?_ ?_ ?_) ?_
  · rintro pre W1 W2 ⟨i1, i2, i3, i4, v, i5, i6⟩ hz c
    have zz := i1.lt
    exact ⟨i1.chg c (by omega), i2.chg c (by omega), Ext.then i3 c (by intro j hj h; omega), i4, v, i5.chg c (by omega), i6.chg c (by intro k hk h; have := (i6.base hk).1; omega)⟩
  · rintro pre W1 x ⟨kL, kD, E, hlen, v, kB, o0⟩ hpl hzW
    have EW := Chg.refl (fun k => (w0.heap.size ≤ k ∧ k < w1.heap.size) ∨ w1.heap.size < k) W1
    have zE1 := E.size
    have zL := kL.lt
    show Yields _ _ [_] _ _
    refine Yields.of1 hrr kL hs hT rfl ?_
    refine St.weak [(2, _), (7, _)] ⟨rfl, rfl, trivial⟩ ?_
    refine St.region ?_
    have hoL := fun k hk => (o0.base (k := k) hk).2
    have zD := kD.lt
    have zB := kB.lt
    refine St.alloc Tryz.zeroValue176 rfl ?_
    intro w5 b5 hb5 hs5 e5 k5
    have qE5 := E.size
    replace E := Ext.trans E e5
    replace kL := kL.ext e5
    replace kD := kD.ext e5
    replace kB := kB.ext e5
    replace o0 := o0.ext e5
    replace EW := EW.then e5 (fun _ _ h => h.elim)
    refine St.store Tryz.sizeOf176 rfl rfl k5 rfl (by simp [Value.cells, encClash, encTerm]) (one_clash x) ?_
    intro ws0 ks0 gs0 zs0
    replace E := Ext.then E gs0 (by intro j hj; omega)
    replace kL := kL.chg gs0 (by omega)
    replace kD := kD.chg gs0 (by omega)
    replace kB := kB.chg gs0 (by omega)
    replace o0 := o0.chg gs0 (fun k hk h => by have := hoL k hk; omega)
    clear k5; have k5 := ks0; clear ks0
    replace k5 : Blk ws0 b5 176 (encClash x) := k5
    replace EW := EW.then gs0 (fun k _ h => .inr (by omega))
    refine St.nil ?_
    refine St.weak [(2, _), (5, _)] ⟨rfl, rfl, trivial⟩ ?_
    refine St.then_n ?_
    refine St.begin kL ?_
    intro wb hwb
    obtain ⟨cb, zb, kb_⟩ := putObj_facts hwb kL
    replace E := Ext.then E cb (by intro j hj; omega)
    replace kD := kD.chg cb (by omega)
    replace kB := kB.chg cb (by omega)
    replace o0 := o0.chg cb (by intro k hk h; have := (o0.base hk).1; omega)
    replace k5 := k5.chg cb (by omega)
    clear kL; have kL := kb_; clear kb_
    replace EW := EW.then cb (fun k _ h => .inl (by omega))
    refine St.block ?_
    refine St.region ?_
    refine St.r (R.load1 Tryz.isAgg73 rfl (kB.cell 0 rfl)) rfl rfl ?_
    refine St.r (R.loadA Tryz.isAgg176 Tryz.sizeOf176 rfl k5.cells rfl) rfl rfl ?_
    refine St.buildSl Tryz.underlying73 Tryz.sizeOf176 Tryz.zeroValue176 rfl rfl rfl rfl (by intro u hu; simp only [List.mem_cons, List.not_mem_nil, or_false] at hu; first | (subst hu; rfl) | (rcases hu with rfl | rfl <;> rfl) | (rcases hu with rfl | rfl | rfl <;> rfl) | (rcases hu with rfl | rfl | rfl | rfl <;> rfl)) rfl ?_
    intro w10 b10 hb10 hs10 e10 k10
    have qE10 := E.size
    replace E := Ext.trans E e10
    replace kL := kL.ext e10
    replace kD := kD.ext e10
    replace kB := kB.ext e10
    replace o0 := o0.ext e10
    replace k5 := k5.ext e10
    replace EW := EW.then e10 (fun _ _ h => h.elim)
    have hoX := fun k hk => (o0.base (k := k) hk).1
    refine St.append (enc := encClash) (fun _ => rfl) one_clash Tryz.underlying73 info176 rfl rfl rfl rfl o0 (RSl.mk (enc := encClash) (xs := [x]) encClash_len k10.cells (fun i u hu => hu) (by simp) (by simp)) (by simp; omega) (by simp; omega) (by omega) rfl ?_
    intro v11 w11 a11 g11 at11
    replace E := Ext.then E g11 (by intro j hj hk; have := (o0.base hk).1; omega)
    replace kL := kL.chg g11 (by intro hk; have := (o0.base hk).1; omega)
    replace kD := kD.chg g11 (by intro hk; have := (o0.base hk).1; omega)
    replace kB := kB.chg g11 (by intro hk; have := (o0.base hk).1; omega)
    clear o0; have o0 := a11; clear a11
    replace EW := EW.then g11 (fun k _ h => .inr (by have := (hoX k h); omega))
    obtain ⟨A11, c11, rfl, -, -⟩ := o0.form
    refine St.store Tryz.sizeOf73 rfl rfl kB rfl (by simp [Value.cells]) (by intro u hu; simp [Value.cells] at hu; subst hu; rfl) ?_
    intro ws1 ks1 gs1 zs1
    replace E := Ext.then E gs1 (by intro j hj; omega)
    replace kL := kL.chg gs1 (by omega)
    replace kD := kD.chg gs1 (by omega)
    replace o0 := o0.chg gs1 (by intro k hk h; have := (o0.base hk).1; omega)
    clear kB; have kB := ks1; clear ks1
    replace EW := EW.then gs1 (fun k _ h => .inl (by omega))
    refine St.nil ?_
    refine St.weak [] trivial ?_
    refine St.in_n ?_
    refine fun _ _ _ => ⟨kL, rfl, ⟨kL.put _, kD.chg (Chg.putObj _ _ _) (by omega), Ext.then E (Chg.putObj _ _ _) (by intro j hj h; omega), by simp; omega, _, kB.chg (Chg.putObj _ _ _) (by omega), o0.chg (Chg.putObj _ _ _) (by intro k hk h; have := (o0.base hk).1; omega)⟩, EW.then (Chg.putObj _ _ _) (fun k _ h => .inl (by omega))⟩
  · exact ⟨kL, kD, E, Nat.zero_le _, _, k2, Own.nil _ _ _ _ _⟩
  · rintro _ W2 ⟨ks, hks, kL, kD, E, hlen, v, kB, o0⟩
    refine ⟨.ready, none, by simp, kL, ?_⟩
    have zE2 := E.size
    replace E := Ext.then E (Chg.putObj _ lp (.loop (rr .exhausted none))) (by intro j hj h; omega)
    replace kD := kD.chg (Chg.putObj _ lp (.loop (rr .exhausted none))) (by omega)
    replace kB := kB.chg (Chg.putObj _ lp (.loop (rr .exhausted none))) (by omega)
    replace o0 := o0.chg (Chg.putObj _ lp (.loop (rr .exhausted none))) (by intro k hk h; have := (o0.base hk).1; omega)
    clear kL
    refine St.jump0 hT hs ?_
    refine St.weak [(2, _)] ⟨rfl, trivial⟩ ?_
    refine St.in_n ?_
    refine St.then_n ?_
    refine St.go hK1 ?_
    clear hK1
    refine St.seq fun K3 hK3 => ?_
    refine St.region ?_
    refine St.r (R.load1 Tryz.isAgg73 rfl (kB.cell 0 rfl)) rfl rfl ?_
    refine St.r (R.assign rfl) rfl rfl ?_
    refine St.nil ?_
    refine St.weak [(4, _)] ⟨rfl, trivial⟩ ?_
    refine St.then_n ?_
    refine St.go hK3 ?_
    clear hK3
    refine St.ret ?_
    refine St.marked (.inl rfl) kD ?_
    have cm := kD.shut
    replace E := Ext.then E cm (by intro j hj; omega)
    replace kB := kB.chg cm (by omega)
    replace o0 := o0.chg cm (by intro k hk h; have := (o0.base hk).1; omega)
    refine St.ret1 Tryz.results253 rfl ?_
    exact ⟨_, rfl, ks, hks, hlen, (o0.lower (by omega)), E⟩

theorem cl_Collect {g : FuncId} {caps : List Value} {S : List Clash → Prop} {n : Nat} (hn : n * 80 ≤ 140737488351232) (w0 : World) (he : Ent Tryz.prog g) (hS : SeqC Tryz.prog g caps vf176 S n w0) :
    Ret Tryz.prog 212 [.func (.func g) #[] caps.toArray] w0 fun r w' => ∃ ks, S ks ∧ ks.length ≤ n ∧ Own encClash 6 w0.heap.size 176 w' r ks ∧ Ext w0 w' := by
  have E : Ext w0 w0 := Ext.refl w0
  refine St.enter (N := 5) Tryz.func212 rfl Tryz.ntmps212 rfl ?_
  refine St.seq fun K0 hK0 => ?_
  refine St.region ?_
  refine St.r (R.assign rfl) rfl rfl ?_
  refine St.nil ?_
  refine St.weak [(0, _)] ⟨rfl, trivial⟩ ?_
  refine St.then_n ?_
  refine St.go hK0 ?_
  clear hK0
  refine St.seq fun K1 hK1 => ?_
  refine St.region ?_
  refine St.r (R.move rfl) rfl rfl ?_
  refine St.call rfl rfl ent253 (cl_AppendSeq hn _ he hS) rfl ?_
  rintro r4 w4 ⟨ks, hks, hlen, o4, e4⟩
  replace E := Ext.trans E e4
  refine St.r (R.assign rfl) rfl rfl ?_
  refine St.nil ?_
  refine St.weak [(2, _)] ⟨rfl, trivial⟩ ?_
  refine St.then_n ?_
  refine St.go hK1 ?_
  clear hK1
  refine St.ret ?_
  refine St.ret1 Tryz.results212 rfl ?_
  exact ⟨_, rfl, ks, hks, hlen, o4, E⟩

def layClashSort_ren : Go.Shelf.Ren := ⟨fun | 6 => 213 | 15 => 150 | 14 => 254 | 28 => 203 | 29 => 204 | 20 => 272 | 21 => 273 | 22 => 274 | 23 => 275 | 24 => 276 | 25 => 277 | 26 => 278 | 27 => 279 | 46 => 293 | 47 => 237 | 48 => 238 | 49 => 294 | 50 => 295 | 57 => 301 | n => n, fun | 22 => 73 | 24 => 176 | 25 => 249 | 3 => 3 | 39 => 229 | 0 => 0 | 53 => 289 | 55 => 291 | 4 => 4 | 46 => 282 | 45 => 281 | 50 => 138 | 5 => 5 | 9 => 9 | 66 => 322 | 70 => 326 | 76 => 342 | 77 => 343 | n => n, fun | n => n⟩
theorem layClashSort : Go.Proofs.SlLaysF0.n6 Tryz.prog layClashSort_ren := {
  mixed := by kernel_rfl
  f6 := ⟨Tryz.f213.name, by decide, Tryz.func213.trans (congrArg some (by kernel_rfl))⟩
  f14 := ⟨Tryz.f254.name, by decide, Tryz.func254.trans (congrArg some (by kernel_rfl))⟩
  f15 := Tryz.func150.trans (congrArg some (by kernel_rfl))
  f20 := ⟨Tryz.f272.name, by decide, Tryz.func272.trans (congrArg some (by kernel_rfl))⟩
  f21 := ⟨Tryz.f273.name, by decide, Tryz.func273.trans (congrArg some (by kernel_rfl))⟩
  f22 := ⟨Tryz.f274.name, by decide, Tryz.func274.trans (congrArg some (by kernel_rfl))⟩
  f23 := ⟨Tryz.f275.name, by decide, Tryz.func275.trans (congrArg some (by kernel_rfl))⟩
  f24 := ⟨Tryz.f276.name, by decide, Tryz.func276.trans (congrArg some (by kernel_rfl))⟩
  f25 := ⟨Tryz.f277.name, by decide, Tryz.func277.trans (congrArg some (by kernel_rfl))⟩
  f26 := ⟨Tryz.f278.name, by decide, Tryz.func278.trans (congrArg some (by kernel_rfl))⟩
  f27 := ⟨Tryz.f279.name, by decide, Tryz.func279.trans (congrArg some (by kernel_rfl))⟩
  f28 := Tryz.func203.trans (congrArg some (by kernel_rfl))
  f29 := Tryz.func204.trans (congrArg some (by kernel_rfl))
  f46 := ⟨Tryz.f293.name, by decide, Tryz.func293.trans (congrArg some (by kernel_rfl))⟩
  f47 := Tryz.func237.trans (congrArg some (by kernel_rfl))
  f48 := Tryz.func238.trans (congrArg some (by kernel_rfl))
  f49 := ⟨Tryz.f294.name, by decide, Tryz.func294.trans (congrArg some (by kernel_rfl))⟩
  f50 := ⟨Tryz.f295.name, by decide, Tryz.func295.trans (congrArg some (by kernel_rfl))⟩
  f57 := ⟨Tryz.f301.name, by decide, Tryz.func301.trans (congrArg some (by kernel_rfl))⟩
  t0 := Tryz.underlying0
  a0 := Tryz.isAgg0
  z0 := Tryz.sizeOf0
  v0 := Tryz.zeroValue0
  t3 := Tryz.underlying3
  a3 := Tryz.isAgg3
  z3 := Tryz.sizeOf3
  v3 := Tryz.zeroValue3
  t4 := Tryz.underlying4
  a4 := Tryz.isAgg4
  z4 := Tryz.sizeOf4
  v4 := Tryz.zeroValue4
  t5 := Tryz.underlying5
  a5 := Tryz.isAgg5
  z5 := Tryz.sizeOf5
  v5 := Tryz.zeroValue5
  t9 := Tryz.underlying9
  a9 := Tryz.isAgg9
  z9 := Tryz.sizeOf9
  v9 := Tryz.zeroValue9
  t22 := Tryz.underlying73
  a22 := Tryz.isAgg73
  z22 := Tryz.sizeOf73
  v22 := Tryz.zeroValue73
  t25 := Tryz.underlying249
  a25 := Tryz.isAgg249
  z25 := Tryz.sizeOf249
  v25 := Tryz.zeroValue249
  t39 := Tryz.underlying229
  a39 := Tryz.isAgg229
  z39 := Tryz.sizeOf229
  v39 := Tryz.zeroValue229
  t45 := Tryz.underlying281
  a45 := Tryz.isAgg281
  z45 := Tryz.sizeOf281
  v45 := Tryz.zeroValue281
  t46 := Tryz.underlying282
  a46 := Tryz.isAgg282
  z46 := Tryz.sizeOf282
  v46 := Tryz.zeroValue282
  t50 := Tryz.underlying138
  a50 := Tryz.isAgg138
  z50 := Tryz.sizeOf138
  v50 := Tryz.zeroValue138
  t53 := Tryz.underlying289
  a53 := Tryz.isAgg289
  z53 := Tryz.sizeOf289
  v53 := Tryz.zeroValue289
  t55 := Tryz.underlying291
  a55 := Tryz.isAgg291
  z55 := Tryz.sizeOf291
  v55 := Tryz.zeroValue291
  t66 := Tryz.underlying322
  a66 := Tryz.isAgg322
  z66 := Tryz.sizeOf322
  v66 := Tryz.zeroValue322
  t70 := Tryz.underlying326
  a70 := Tryz.isAgg326
  z70 := Tryz.sizeOf326
  v70 := Tryz.zeroValue326
  t76 := Tryz.underlying342
  a76 := Tryz.isAgg342
  z76 := Tryz.sizeOf342
  v76 := Tryz.zeroValue342
  t77 := Tryz.underlying343
  a77 := Tryz.isAgg343
  z77 := Tryz.sizeOf343
  v77 := Tryz.zeroValue343 }

theorem clSort {xs : List Clash} {v : Value} {base : Nat} (w0 : World) (ho : Own encClash 6 base 176 w0 v xs) (hl : xs.length ≤ 1000000000) :
    Ret Tryz.prog 213 [v, .func (.func 165) #[] #[]] w0 fun r w' => r = .tuple #[] ∧ Own encClash 6 base 176 w' v (sortK clashCmp xs) ∧ Chg (fun j => v.ownBlock = some j) w0 w' :=
  sortFunc_own layClashSort (k := 6) (bytes := 0) Tryz.isAgg176 Tryz.sizeOf176 encClash encClash_len one_clash clashCmp clashCmp_is.swo clashCmp_is.tot 165 #[] w0 ho hl ent165 (fun W _ x y => mCompare_ret W)

theorem cl_SortedFunc {g : FuncId} {caps : List Value} {S : List Clash → Prop} {n : Nat} (hn : n ≤ 100000) (w0 : World) (he : Ent Tryz.prog g) (hS : SeqC Tryz.prog g caps vf176 S n w0) :
    Ret Tryz.prog 163 [.func (.func g) #[] caps.toArray, .func (.func 165) #[] #[]] w0 fun r w' => ∃ ks, S ks ∧ ks.length ≤ n ∧ Own encClash 6 w0.heap.size 176 w' r (sortK clashCmp ks) ∧ Ext w0 w' := by
  have E : Ext w0 w0 := Ext.refl w0
  refine St.enter (N := 12) Tryz.func163 rfl Tryz.ntmps163 rfl ?_
  refine St.seq fun K0 hK0 => ?_
  refine St.region ?_
  refine St.r (R.assign rfl) rfl rfl ?_
  refine St.nil ?_
  refine St.weak [(0, _), (1, _)] ⟨rfl, rfl, trivial⟩ ?_
  refine St.then_n ?_
  refine St.go hK0 ?_
  clear hK0
  refine St.seq fun K1 hK1 => ?_
  refine St.region ?_
  refine St.r (R.move rfl) rfl rfl ?_
  refine St.call rfl rfl ent212 (cl_Collect (by omega) _ he hS) rfl ?_
  rintro r7 w7 ⟨ks, hks, hlen, o7, e7⟩
  replace E := Ext.trans E e7
  have hB := fun k hk => (o7.base (k := k) hk).1
  refine St.r (R.assign rfl) rfl rfl ?_
  refine St.nil ?_
  refine St.weak [(1, _), (5, _)] ⟨rfl, rfl, trivial⟩ ?_
  refine St.then_n ?_
  refine St.go hK1 ?_
  clear hK1
  refine St.seq fun K2 hK2 => ?_
  refine St.region ?_
  refine St.r (R.move rfl) rfl rfl ?_
  refine St.r (R.move rfl) rfl rfl ?_
  refine St.call rfl rfl ent213 (clSort _ o7 (by omega)) rfl ?_
  rintro r10 w10 ⟨rfl, o10, c10⟩
  replace E := Ext.then E c10 (fun j hj h => by have := hB j h; omega)
  refine St.nil ?_
  refine St.weak [(5, _)] ⟨rfl, trivial⟩ ?_
  refine St.then_n ?_
  refine St.go hK2 ?_
  clear hK2
  refine St.seq fun K3 hK3 => ?_
  refine St.region ?_
  refine St.r (R.move rfl) rfl rfl ?_
  refine St.r (R.assign rfl) rfl rfl ?_
  refine St.nil ?_
  refine St.weak [(4, _)] ⟨rfl, trivial⟩ ?_
  refine St.then_n ?_
  refine St.go hK3 ?_
  clear hK3
  refine St.ret ?_
  refine St.ret1 Tryz.results163 rfl ?_
  exact ⟨_, rfl, ks, hks, hlen, o10, E⟩


/-- Maps of sides, in a row. -/
def RMS : World → List Value → Nat × List (Clash × Hd) → Prop := fun w cs x => cs = [.map (some x.1)] ∧ MapB vf176 Hd.val w x.1 x.2
theorem RMS.firm : Firm RMS := fun _ _ _ _ e h => ⟨h.1, h.2.ext e⟩
theorem RSl.getM' {w : World} {A : Option Addr} {n c : Nat} {xs : List (Nat × List (Clash × Hd))} (h : RSl RMS 1 w (.slice A n c) xs) {k : Nat} {x : Nat × List (Clash × Hd)} (hx : xs[k]? = some x) :
    ∃ b o, A = some ⟨b, o, none⟩ ∧ w.cell? ⟨b, o + k * 1, none⟩ = some (.map (some x.1)) ∧ MapB vf176 Hd.val w x.1 x.2 := by
  obtain ⟨A', c', hv, _, _, h3⟩ := h
  obtain ⟨b, o, hA, hc⟩ := h3 (by have := lt_of_get hx; omega)
  injection hv with e1 _ _
  subst e1
  obtain ⟨cs, _, g2, rfl, g3⟩ := hc k x hx
  exact ⟨b, o, hA, g2.at 0 rfl, g3⟩
def sizeMS (xs : List (Nat × List (Clash × Hd))) : Nat := (xs.map fun x => x.2.length).sum
theorem sizeMS_snoc (xs : List (Nat × List (Clash × Hd))) (x : Nat × List (Clash × Hd)) : sizeMS (xs ++ [x]) = sizeMS xs + x.2.length := by simp [sizeMS]
theorem sizeMS_take {xs : List (Nat × List (Clash × Hd))} {k : Nat} : sizeMS (xs.take k) ≤ sizeMS xs := by
  have : sizeMS xs = sizeMS (xs.take k) + sizeMS (xs.drop k) := by unfold sizeMS; rw [← List.sum_append, ← List.map_append, List.take_append_drop]
  omega
/-- Which keys are there when so many maps are taken, and some of one more. -/
def HasK (xs : List (Nat × List (Clash × Hd))) (c : Clash) : Prop := ∃ x ∈ xs, (getM x.2 c).isSome = true
theorem HasK.snoc {xs : List (Nat × List (Clash × Hd))} {x : Nat × List (Clash × Hd)} {c : Clash} : HasK (xs ++ [x]) c ↔ HasK xs c ∨ (getM x.2 c).isSome = true := by
  unfold HasK; simp [or_and_right, exists_or]
theorem put_has {acc : List (Clash × Bool)} {k c : Clash} : (getM (putM acc k true) c).isSome = true ↔ (getM acc c).isSome = true ∨ c = k := by
  rw [getM_put]; by_cases h : c = k <;> simp [h]
theorem del_has {left : List (Clash × Hd)} {k c : Clash} : (getM (delM left k) c).isSome = true ↔ (getM left c).isSome = true ∧ c ≠ k := by
  rw [getM_del]; by_cases h : c = k <;> simp [h]
theorem put_len {acc : List (Clash × Bool)} {k : Clash} : (putM acc k true).length ≤ acc.length + 1 := by
  rw [putM_length]; split <;> omega
theorem mem_keys {ms : List (Clash × Bool)} {c : Clash} : c ∈ ms.map (·.1) ↔ (getM ms c).isSome = true := by
  cases h : getM ms c with
  | none =>
    have := getM_none.1 h
    simp only [Option.isSome_none, Bool.false_eq_true, iff_false, List.mem_map]
    rintro ⟨p, hp, e⟩; exact this p hp e
  | some v => simp only [Option.isSome_some, iff_true]; exact List.mem_map.2 ⟨_, getM_some h, rfl⟩

theorem pairs_ret {xs : List (Nat × List (Clash × Hd))} {v : Value} (w0 : World) (hv : RSl RMS 1 w0 v xs) (hn : sizeMS xs ≤ 100000) (hl : xs.length ≤ 1000) : Ret Tryz.prog 106 [v] w0 fun r w' => ∃ ks, Own encClash 6 w0.heap.size 176 w' r ks ∧ Rises clashCmp ks ∧ (∀ c, c ∈ ks ↔ HasK xs c) ∧ ks.length ≤ 100000 ∧ Ext w0 w' := by
  obtain ⟨A, c, rfl, hc1, hc2⟩ := hv.form
  have E : Ext w0 w0 := Ext.refl w0
  refine St.enter (N := 26) Tryz.func106 rfl Tryz.ntmps106 rfl ?_
  refine St.seq fun K0 hK0 => ?_
  refine St.region ?_
  refine St.r (R.assign rfl) rfl rfl ?_
  refine St.nil ?_
  refine St.weak [(0, _)] ⟨rfl, trivial⟩ ?_
  refine St.then_n ?_
  refine St.go hK0 ?_
  clear hK0
  refine St.seq fun K1 hK1 => ?_
  refine St.region ?_
  refine St.turn (Eff.makeMap (vf176) (fun b : Bool => Value.bool b)) rfl rfl ?_
  rintro _ w7 ⟨b7, rfl, hb7, hs7, e7, m7⟩
  have qE7 := E.size
  replace E := Ext.trans E e7
  refine St.r (R.assign rfl) rfl rfl ?_
  refine St.nil ?_
  refine St.weak [(0, _), (3, _)] ⟨rfl, rfl, trivial⟩ ?_
  refine St.then_n ?_
  refine St.go hK1 ?_
  clear hK1
  refine St.seq fun K2 hK2 => ?_
  refine St.seq fun K3 hK3 => ?_
  refine St.region ?_
  refine St.r (R.move rfl) rfl rfl ?_
  refine St.r (R.lenSl Tryz.underlying243 rfl) rfl rfl ?_
  refine St.r (R.move rfl) rfl rfl ?_
  refine St.nil ?_
  refine St.weak [(3, _), (8, _), (9, _), (10, _)] ⟨rfl, rfl, rfl, rfl, trivial⟩ ?_
  refine St.then_n ?_
  refine St.go hK3 ?_
  clear hK3
  refine St.block ?_
  refine St.loop (fun (x : Nat × List (Clash × Bool)) => match x with | (k, acc) => [(3, .map (some b7)), (8, .slice A xs.length c), (9, .int .i64 (xs.length : Int)), (10, .int .i64 (k : Int))])
      (fun (x : Nat × List (Clash × Bool)) w => match x with | (k, acc) => k ≤ xs.length ∧ Ext w0 w ∧ MapB vf176 (fun b : Bool => Value.bool b) w b7 acc ∧ (∀ c, (getM acc c).isSome = true ↔ HasK (xs.take k) c) ∧ acc.length ≤ sizeMS (xs.take k))
      (fun (x : Nat × List (Clash × Bool)) => match x with | (k, acc) => xs.length - k) (0, []) ⟨rfl, rfl, rfl, rfl, trivial⟩ ?_ ?_
  · exact ⟨Nat.zero_le _, E, m7, fun c => by simp [getM_nil, HasK], Nat.zero_le _⟩
  rintro ⟨k, acc⟩ w ⟨hk, E, m7, hh, hz⟩
  show St _ _ [(3, .map (some b7)), (8, .slice A xs.length c), (9, .int .i64 (xs.length : Int)), (10, .int .i64 (k : Int))] _ _
  refine St.seq fun K4 hK4 => ?_
  refine St.region ?_
  refine St.r (R.lss rfl rfl) rfl rfl ?_
  refine St.nil ?_
  refine St.weak [(3, _), (8, _), (9, _), (10, _), (11, _)] ⟨rfl, rfl, rfl, rfl, rfl, trivial⟩ ?_
  refine St.then_n ?_
  refine St.go hK4 ?_
  clear hK4
  refine St.seq fun K5 hK5 => ?_
  refine St.condD rfl (fun h11 => ?_) (fun h11 => ?_)
  ·
    obtain ⟨xm, hx⟩ := get_of_lt (xs := xs) (k := k) (by omega)
    obtain ⟨xb, xo, rfl, hxc, hxm⟩ := hv.getM' hx
    have hxl := hxm.lt
    have hm7l := m7.lt
    refine St.skip ?_
    refine St.then_n ?_
    refine St.go hK5 ?_
    clear hK5
    refine St.seq fun K6 hK6 => ?_
    refine St.block ?_
    refine St.seq fun K7 hK7 => ?_
    refine St.region ?_
    refine St.r (R.indexS k Tryz.underlying243 Tryz.sizeOf179 rfl rfl rfl (by omega)) rfl rfl ?_
    refine St.r (R.load1 Tryz.isAgg179 rfl (E.cell hxc)) rfl rfl ?_
    refine St.r (R.assign rfl) rfl rfl ?_
    refine St.nil ?_
    refine St.weak [(3, _), (5, _), (8, _), (9, _), (10, _)] ⟨rfl, rfl, rfl, rfl, rfl, trivial⟩ ?_
    refine St.then_n ?_
    refine St.go hK7 ?_
    clear hK7
    refine St.seq fun K8 hK8 => ?_
    refine St.region ?_
    refine St.r (R.move rfl) rfl rfl ?_
    refine St.turn (Eff.range Tryz.underlying179 (hxm.ext E) rfl) rfl rfl ?_
    rintro _ w15 ⟨b15, rfl, hb15, hs15, e15, i15⟩
    have qE15 := E.size
    replace E := Ext.trans E e15
    replace m7 := m7.ext e15
    refine St.nil ?_
    refine St.weak [(3, _), (8, _), (9, _), (10, _), (15, _)] ⟨rfl, rfl, rfl, rfl, rfl, trivial⟩ ?_
    refine St.then_n ?_
    refine St.go hK8 ?_
    clear hK8
    refine St.block ?_
    refine St.loop (fun (x : List (Clash × Hd) × List (Clash × Bool)) => match x with | (left, acc2) => [(3, .map (some b7)), (8, .slice (some ⟨xb, xo, none⟩) xs.length c), (9, .int .i64 (xs.length : Int)), (10, .int .i64 (k : Int)), (15, .pointer (some ⟨b15, 0, none⟩))])
        (fun (x : List (Clash × Hd) × List (Clash × Bool)) w => match x with | (left, acc2) => Ext w0 w ∧ MapB vf176 (fun b : Bool => Value.bool b) w b7 acc2 ∧ IterB vf176 Hd.val w b15 xm.1 xm.2 left ∧ KeysM left ∧ (∀ c, (getM acc2 c).isSome = true ↔ HasK (xs.take k) c ∨ ((getM xm.2 c).isSome = true ∧ ¬ (getM left c).isSome = true)) ∧ (∀ p ∈ left, (getM xm.2 p.1).isSome = true) ∧ acc2.length + left.length ≤ sizeMS (xs.take k) + xm.2.length ∧ w15.heap.size ≤ w.heap.size)
        (fun (x : List (Clash × Hd) × List (Clash × Bool)) => match x with | (left, acc2) => left.length) (xm.2, acc) ⟨rfl, rfl, rfl, rfl, rfl, trivial⟩ ?_ ?_
    · refine ⟨E, m7, i15, hxm.keys, fun c => ?_, fun p hp => ?_, by omega, Nat.le_refl _⟩
      · rw [hh]; constructor
        · exact .inl
        · rintro (h | ⟨h1, h2⟩); exact h; exact absurd h1 h2
      · rw [getM_mem hxm.keys (v := p.2) hp]; rfl
    rintro ⟨left, acc2⟩ w ⟨E, m7, i0, hn2, hh2, hin, hz2, hzw⟩
    show St _ _ [(3, .map (some b7)), (8, .slice (some ⟨xb, xo, none⟩) xs.length c), (9, .int .i64 (xs.length : Int)), (10, .int .i64 (k : Int)), (15, .pointer (some ⟨b15, 0, none⟩))] _ _
    refine St.seq fun K9 hK9 => ?_
    refine St.region ?_
    refine St.turn (Eff.next i0 rfl) rfl rfl ?_
    rintro _ w16 (⟨hl16, rfl, rfl⟩ | ⟨p16, hp16, rfl, i16, gn16, zn16⟩)
    ·
      subst hl16
      refine St.r (R.extract rfl rfl) rfl rfl ?_
      refine St.nil ?_
      refine St.weak [(3, _), (8, _), (9, _), (10, _), (15, _), (17, _)] ⟨rfl, rfl, rfl, rfl, rfl, rfl, trivial⟩ ?_
      refine St.then_n ?_
      refine St.go hK9 ?_
      clear hK9
      refine St.seq fun K10 hK10 => ?_
      refine St.condF rfl ?_
      refine St.exit ?_
      refine St.then_x ?_
      refine St.then_x ?_
      refine St.in_x ?_
      refine St.in_n ?_
      refine St.then_n ?_
      refine St.go hK6 ?_
      clear hK6
      refine St.region ?_
      refine St.r (R.add rfl rfl (by omega) (by omega)) rfl rfl ?_
      refine St.r (R.move rfl) rfl rfl ?_
      refine St.nil ?_
      refine St.weak [(3, _), (8, _), (9, _), (10, _)] ⟨rfl, rfl, rfl, rfl, trivial⟩ ?_
      refine St.then_n ?_
      refine St.round (k + 1, acc2) ⟨rfl, rfl, rfl, rfl, trivial⟩ ?_ ?_
      · try dsimp only
        exact ⟨by omega, E, m7, fun c => by rw [take_snoc hx, HasK.snoc, hh2]; simp [getM_nil], by rw [take_snoc hx, sizeMS_snoc]; simpa using hz2⟩
      · try dsimp only
        omega
    ·
      replace E := Ext.then E gn16 (by intro j hj; omega)
      replace m7 := m7.chg gn16 (by omega)
      clear i0
      refine St.r (R.extract rfl rfl) rfl rfl ?_
      refine St.nil ?_
      refine St.weak [(3, _), (8, _), (9, _), (10, _), (15, _), (17, _)] ⟨rfl, rfl, rfl, rfl, rfl, rfl, trivial⟩ ?_
      refine St.then_n ?_
      refine St.go hK9 ?_
      clear hK9
      refine St.seq fun K11 hK11 => ?_
      refine St.condT rfl ?_
      refine St.skip ?_
      refine St.then_n ?_
      refine St.go hK11 ?_
      clear hK11
      refine St.block ?_
      refine St.seq fun K12 hK12 => ?_
      refine St.region ?_
      refine St.r (R.entry i16 rfl) rfl rfl ?_
      have zm := m7.lt
      refine St.r (R.extract rfl rfl) rfl rfl ?_
      refine St.alloc Tryz.zeroValue176 rfl ?_
      intro w6 b6 hb6 hs6 e6 k6
      have qE6 := E.size
      replace E := Ext.trans E e6
      replace m7 := m7.ext e6
      replace i16 := i16.ext e6
      refine St.store Tryz.sizeOf176 rfl rfl k6 rfl (by simp [Value.cells, encClash, encTerm]) (one_clash p16.1) ?_
      intro ws0 ks0 gs0 zs0
      replace E := Ext.then E gs0 (by intro j hj; omega)
      replace m7 := m7.chg gs0 (by omega)
      replace i16 := i16.chg gs0 (by omega) (by omega)
      clear k6; have k6 := ks0; clear ks0
      replace k6 : Blk ws0 b6 176 (encClash p16.1) := k6
      refine St.nil ?_
      refine St.weak [(3, _), (6, _), (8, _), (9, _), (10, _), (15, _)] ⟨rfl, rfl, rfl, rfl, rfl, rfl, trivial⟩ ?_
      refine St.then_n ?_
      refine St.go hK12 ?_
      clear hK12
      refine St.region ?_
      refine St.r (R.move rfl) rfl rfl ?_
      refine St.r (R.loadA Tryz.isAgg176 Tryz.sizeOf176 rfl k6.cells rfl) rfl rfl ?_
      refine St.turn (Eff.mapUpdate (kenc176) Tryz.underlying244 m7 rfl rfl rfl) rfl rfl ?_
      rintro _ wm0 ⟨rfl, mm0, gm0, zm0⟩
      replace E := Ext.then E gm0 (by intro j hj; omega)
      replace i16 := i16.chg gm0 (by omega) (by omega)
      replace k6 := k6.chg gm0 (by omega)
      clear m7; have m7 := mm0; clear mm0
      refine St.nil ?_
      refine St.weak [(3, _), (8, _), (9, _), (10, _), (15, _)] ⟨rfl, rfl, rfl, rfl, rfl, trivial⟩ ?_
      refine St.in_n ?_
      refine St.then_n ?_
      refine St.round (delM left p16.1, putM acc2 p16.1 true) ⟨rfl, rfl, rfl, rfl, rfl, trivial⟩ ?_ ?_
      · try dsimp only
        refine ⟨E, m7, i16.forget, hn2.del _, fun c => ?_, fun p hp => hin p (delM_sub (fun y h => h) p hp), ?_, by omega⟩
        · rw [put_has, hh2, del_has]
          by_cases e : c = p16.1
          · subst e; simp [hin _ hp16]
          · simp [e]
        · have h1 := put_len (acc := acc2) (k := p16.1); have h2 := delM_lt hp16; omega
      · try dsimp only
        exact delM_lt hp16
  ·
    refine St.exit ?_
    refine St.then_x ?_
    refine St.then_x ?_
    refine St.in_x ?_
    refine St.then_n ?_
    refine St.go hK2 ?_
    clear hK2
    refine St.seq fun K13 hK13 => ?_
    refine St.region ?_
    refine St.r (R.move rfl) rfl rfl ?_
    refine St.call rfl rfl ent164 (mc_Keys _ (some b7)) rfl ?_
    rintro r24 w24 ⟨g24, rfl, hc24, e24⟩
    replace E := Ext.trans E e24
    replace m7 := m7.ext e24
    have zE := E.size
    have hsz := sizeMS_take (xs := xs) (k := k)
    refine St.call rfl rfl ent163 (cl_SortedFunc (n := acc.length) (by omega) _ ent214 (mc_Keys1 _ hc24 m7)) rfl ?_
    rintro r25 w25 ⟨ks, hks, hlen, o25, e25⟩
    replace E := Ext.trans E e25
    replace m7 := m7.ext e25
    refine St.r (R.assign rfl) rfl rfl ?_
    refine St.nil ?_
    refine St.weak [(2, _)] ⟨rfl, trivial⟩ ?_
    refine St.then_n ?_
    refine St.go hK13 ?_
    clear hK13
    refine St.ret ?_
    refine St.ret1 Tryz.results106 rfl ?_
    rw [List.take_of_length_le (by omega)] at hh
    have hnd : ks.Nodup := (List.Perm.nodup_iff hks).2 m7.keys
    refine ⟨_, rfl, sortK clashCmp ks, o25.lower (by omega), sortK_rises clashCmp_is hnd, fun c => ?_, ?_, E⟩
    · rw [mem_sortK, hks.mem_iff, mem_keys, hh]
    · have : (sortK clashCmp ks).length = ks.length := by simp [sortK]
      omega

end Go.Proofs.YtjgcmpondbocfaaGreatDoor

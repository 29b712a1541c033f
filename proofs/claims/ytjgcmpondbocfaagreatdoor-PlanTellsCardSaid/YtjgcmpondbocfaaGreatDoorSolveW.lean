/- What the functions of package solve on answers come to, and solve.All. Each walked once, under the reading of the arguments. -/
import Derived.Test.YtjgcmpondbocfaaGreatDoorProg
import Derived.Test.YtjgcmpondbocfaaGreatDoorAskW
import Derived.Test.YtjgcmpondbocfaaGreatDoorWalkPure
import Derived.Shelf.SlMaps.Clone
namespace Go.Proofs.YtjgcmpondbocfaaGreatDoor
open Go.RowKit Go.Shelf Go.MapKept
theorem ent62 : Ent Tryz.prog 62 := Ent.of Tryz.func62 (by kernel_rfl) rfl
theorem ent123 : Ent Tryz.prog 123 := Ent.of Tryz.func123 (by kernel_rfl) rfl
theorem ent137 : Ent Tryz.prog 137 := Ent.of Tryz.func137 (by kernel_rfl) rfl
theorem ent176 : Ent Tryz.prog 176 := Ent.of Tryz.func176 (by kernel_rfl) rfl
theorem ent185 : Ent Tryz.prog 185 := Ent.of Tryz.func185 (by kernel_rfl) rfl
theorem ent186 : Ent Tryz.prog 186 := Ent.of Tryz.func186 (by kernel_rfl) rfl
theorem ent187 : Ent Tryz.prog 187 := Ent.of Tryz.func187 (by kernel_rfl) rfl
theorem ent233 : Ent Tryz.prog 233 := Ent.of Tryz.func233 (by kernel_rfl) rfl
theorem places46 : ∀ fs, Tryz.prog.underlying 46 = some (.struct fs) → Places Tryz.prog fs [(0, 1), (1, 3)] := by
  intro fs h
  rw [Tryz.underlying46] at h
  cases h
  intro w
  simp [go_sem, Tryz.sizeOf44, Tryz.sizeOf9]
theorem places48 : ∀ fs, Tryz.prog.underlying 48 = some (.struct fs) → Places Tryz.prog fs [(0, 4), (4, 4), (8, 4)] := by
  intro fs h
  rw [Tryz.underlying48] at h
  cases h
  intro w
  simp [go_sem, Tryz.sizeOf46]
theorem info189 : (Tryz.prog.info? 189).map (fun i => (i.zero, i.size, i.bytes)) = some (some (.map none), 1, 8) := by kernel_rfl

abbrev vf44 : Term → Value := fun t => Value.agg (encTerm t).toArray
def layAnsClone_ren : Go.Shelf.Ren := ⟨fun | 5 => 233 | 7 => 192 | n => n, fun | 23 => 189 | 25 => 9 | 3 => 44 | 4 => 4 | 20 => 20 | n => n, fun | n => n⟩
theorem layAnsClone : Go.Proofs.SlLaysW.n5 Tryz.prog layAnsClone_ren := {
  mixed := by kernel_rfl
  f5 := ⟨Tryz.f233.name, by decide, Tryz.func233.trans (congrArg some (by kernel_rfl))⟩
  f7 := Tryz.func192.trans (congrArg some (by kernel_rfl))
  t4 := Tryz.underlying4
  a4 := Tryz.isAgg4
  z4 := Tryz.sizeOf4
  v4 := Tryz.zeroValue4
  t20 := Tryz.underlying20
  a20 := Tryz.isAgg20
  z20 := Tryz.sizeOf20
  v20 := Tryz.zeroValue20
  t23 := Tryz.underlying189
  a23 := Tryz.isAgg189
  z23 := Tryz.sizeOf189
  v23 := Tryz.zeroValue189 }

theorem aClone_ret {a : Ans} {m : Nat} (w0 : World) (hm : MapB (fun s : ByteArray => Value.string s) vf44 w0 m a) : Ret Tryz.prog 233 [.map (some m)] w0 fun r w' => ∃ b, r = .map (some b) ∧ b = w0.heap.size ∧ MapB (fun s : ByteArray => Value.string s) vf44 w' b a ∧ Ext w0 w' := by
  obtain ⟨es, cl, hb, hst, he, hn⟩ := hm
  refine Calls.mono (AnyW.maps_Clone layAnsClone m es cl w0 hb) ?_
  rintro e w' ⟨rfl, rfl⟩
  exact ⟨_, rfl, _, rfl, rfl, ⟨es, cl, (heap_alloc w0 _).1, hst, he, hn⟩, Ext.alloc _ _⟩

theorem slotA_ret {a : Ans} {m : Nat} {s : Slot} (w0 : World) (hm : MapB (fun s : ByteArray => Value.string s) vf44 w0 m a) : Ret Tryz.prog 176 [.map (some m), .agg (encSlot s).toArray] w0 fun r w' => r = .agg (encSlot (slotA a s)).toArray ∧ Ext w0 w' := by
  have E : Ext w0 w0 := Ext.refl w0
  refine St.enter (N := 23) Tryz.func176 rfl Tryz.ntmps176 rfl ?_
  refine St.seq fun K0 hK0 => ?_
  refine St.region ?_
  refine St.box rfl rfl ?_
  intro w3 b3 hb3 hs3 e3 k3
  have qE3 := E.size
  replace E := Ext.trans E e3
  refine St.alloc Tryz.zeroValue46 rfl ?_
  intro w4 b4 hb4 hs4 e4 k4
  have qE4 := E.size
  replace E := Ext.trans E e4
  replace k3 := k3.ext e4
  refine St.nil ?_
  refine St.weak [(0, _), (3, _), (4, _)] ⟨rfl, rfl, rfl, trivial⟩ ?_
  refine St.then_n ?_
  refine St.go hK0 ?_
  clear hK0
  refine St.seq fun K1 hK1 => ?_
  refine St.seq fun K2 hK2 => ?_
  refine St.region ?_
  refine St.r (R.move rfl) rfl rfl ?_
  refine St.r (R.fieldA Tryz.underlying46 rfl Tryz.sizeOf9 rfl rfl rfl) rfl rfl ?_
  refine St.r (R.load1 Tryz.isAgg9 rfl (k3.cells.at 0 rfl)) rfl rfl ?_
  refine St.r (R.lookupOk (z := noTerm) (KEnc.str Tryz.underlying9) Tryz.underlying189 Tryz.zeroValue44 (hm.ext E) rfl rfl) rfl rfl ?_
  refine St.r (R.move rfl) rfl rfl ?_
  refine St.r (R.extract rfl rfl) rfl rfl ?_
  refine St.r (R.extract rfl rfl) rfl rfl ?_
  refine St.alloc Tryz.zeroValue44 rfl ?_
  intro w5 b5 hb5 hs5 e5 k5
  have qE5 := E.size
  replace E := Ext.trans E e5
  replace k3 := k3.ext e5
  replace k4 := k4.ext e5
  refine St.store Tryz.sizeOf44 rfl rfl k5 rfl (by simp [Value.cells, encTerm]) (one_term ((getM a s.var).getD noTerm)) ?_
  intro ws0 ks0 gs0 zs0
  replace E := Ext.then E gs0 (by intro j hj; omega)
  replace k3 := k3.chg gs0 (by omega)
  replace k4 := k4.chg gs0 (by omega)
  clear k5; have k5 := ks0; clear ks0
  replace k5 : Blk ws0 b5 44 (encTerm ((getM a s.var).getD noTerm)) := k5
  refine St.r (R.assign rfl) rfl rfl ?_
  refine St.nil ?_
  refine St.weak [(3, _), (4, _), (5, _), (6, _)] ⟨rfl, rfl, rfl, rfl, trivial⟩ ?_
  refine St.then_n ?_
  refine St.go hK2 ?_
  clear hK2
  refine St.seq fun K3 hK3 => ?_
  rcases Bool.eq_false_or_eq_true (getM a s.var).isSome with h14 | h14
  ·
    refine St.region ?_
    refine St.r (Runs.lit (c := true) (R.move rfl) (h14)) rfl rfl ?_
    refine St.r (R.move rfl) rfl rfl ?_
    refine St.take (dg := 15) rfl rfl ?_ rfl
    refine St.r (R.fieldA Tryz.underlying46 rfl Tryz.sizeOf9 rfl rfl rfl) rfl rfl ?_
    refine St.take (dg := 15) rfl rfl ?_ rfl
    refine St.r (R.load1 Tryz.isAgg9 rfl (k3.cells.at 0 rfl)) rfl rfl ?_
    refine St.take (dg := 15) rfl rfl ?_ rfl
    refine St.r (R.neS rfl rfl) rfl rfl ?_
    refine St.r (R.pickT rfl rfl) rfl rfl ?_
    refine St.nil ?_
    refine St.weak [(3, _), (4, _), (5, _), (19, _)] ⟨rfl, rfl, rfl, rfl, trivial⟩ ?_
    refine St.then_n ?_
    refine St.go hK3 ?_
    clear hK3
    refine St.condD rfl (fun h19 => ?_) (fun h19 => ?_)
    ·
      refine St.seq fun K4 hK4 => ?_
      refine St.region ?_
      refine St.r (R.loadA Tryz.isAgg44 Tryz.sizeOf44 rfl k5.cells rfl) rfl rfl ?_
      refine St.r (R.build Tryz.underlying46 (places46 _ Tryz.underlying46) Tryz.zeroValue46 rfl rfl rfl) rfl rfl ?_
      refine St.store Tryz.sizeOf46 rfl rfl k4 rfl (by simp [Value.cells, encTerm]) (one_slot ⟨⟨#[]⟩, (getM a s.var).getD noTerm⟩) ?_
      intro ws1 ks1 gs1 zs1
      replace E := Ext.then E gs1 (by intro j hj; omega)
      replace k3 := k3.chg gs1 (by omega)
      replace k5 := k5.chg gs1 (by omega)
      clear k4; have k4 := ks1; clear ks1
      replace k4 : Blk ws1 b4 46 (encSlot ⟨⟨#[]⟩, (getM a s.var).getD noTerm⟩) := k4
      refine St.nil ?_
      refine St.weak [(4, _)] ⟨rfl, trivial⟩ ?_
      refine St.then_n ?_
      refine St.go hK4 ?_
      clear hK4
      refine St.ret ?_
      refine St.then_r ?_
      refine St.retA Tryz.results176 Tryz.isAgg46 Tryz.sizeOf46 rfl k4.cells rfl ?_
      exact ⟨_, rfl, by rw [slotA, if_pos ⟨h14, h19⟩], E⟩
    ·
      refine St.skip ?_
      refine St.then_n ?_
      refine St.go hK1 ?_
      clear hK1
      refine St.seq fun K5 hK5 => ?_
      refine St.region ?_
      refine St.r (R.loadA Tryz.isAgg46 Tryz.sizeOf46 rfl k3.cells rfl) rfl rfl ?_
      refine St.store Tryz.sizeOf46 rfl rfl k4 rfl (by simp [Value.cells, encSlot, encTerm]) (one_slot s) ?_
      intro ws2 ks2 gs2 zs2
      replace E := Ext.then E gs2 (by intro j hj; omega)
      replace k3 := k3.chg gs2 (by omega)
      replace k5 := k5.chg gs2 (by omega)
      clear k4; have k4 := ks2; clear ks2
      replace k4 : Blk ws2 b4 46 (encSlot s) := k4
      refine St.nil ?_
      refine St.weak [(4, _)] ⟨rfl, trivial⟩ ?_
      refine St.then_n ?_
      refine St.go hK5 ?_
      clear hK5
      refine St.ret ?_
      refine St.retA Tryz.results176 Tryz.isAgg46 Tryz.sizeOf46 rfl k4.cells rfl ?_
      exact ⟨_, rfl, by rw [slotA, if_neg (fun h => h19 h.2)], E⟩
  ·
    refine St.region ?_
    refine St.r (Runs.lit (c := false) (R.move rfl) (h14)) rfl rfl ?_
    refine St.r (R.move rfl) rfl rfl ?_
    refine St.pass (dg := 15) rfl rfl rfl rfl rfl ?_
    refine St.pass (dg := 15) rfl rfl rfl rfl rfl ?_
    refine St.pass (dg := 15) rfl rfl rfl rfl rfl ?_
    refine St.r (R.pickF rfl rfl) rfl rfl ?_
    refine St.nil ?_
    refine St.weak [(3, _), (4, _), (5, _), (19, _)] ⟨rfl, rfl, rfl, rfl, trivial⟩ ?_
    refine St.then_n ?_
    refine St.go hK3 ?_
    clear hK3
    refine St.condF rfl ?_
    refine St.skip ?_
    refine St.then_n ?_
    refine St.go hK1 ?_
    clear hK1
    refine St.seq fun K6 hK6 => ?_
    refine St.region ?_
    refine St.r (R.loadA Tryz.isAgg46 Tryz.sizeOf46 rfl k3.cells rfl) rfl rfl ?_
    refine St.store Tryz.sizeOf46 rfl rfl k4 rfl (by simp [Value.cells, encSlot, encTerm]) (one_slot s) ?_
    intro ws2 ks2 gs2 zs2
    replace E := Ext.then E gs2 (by intro j hj; omega)
    replace k3 := k3.chg gs2 (by omega)
    replace k5 := k5.chg gs2 (by omega)
    clear k4; have k4 := ks2; clear ks2
    replace k4 : Blk ws2 b4 46 (encSlot s) := k4
    refine St.nil ?_
    refine St.weak [(4, _)] ⟨rfl, trivial⟩ ?_
    refine St.then_n ?_
    refine St.go hK6 ?_
    clear hK6
    refine St.ret ?_
    refine St.retA Tryz.results176 Tryz.isAgg46 Tryz.sizeOf46 rfl k4.cells rfl ?_
    exact ⟨_, rfl, by rw [slotA, if_neg (fun h => by rw [h14] at h; cases h.1)], E⟩

theorem patA_ret {a : Ans} {m : Nat} {p : Pat} (w0 : World) (hm : MapB (fun s : ByteArray => Value.string s) vf44 w0 m a) : Ret Tryz.prog 123 [.map (some m), .agg (encPat p).toArray] w0 fun r w' => r = .agg (encPat (patA a p)).toArray ∧ Ext w0 w' := by
  have E : Ext w0 w0 := Ext.refl w0
  refine St.enter (N := 18) Tryz.func123 rfl Tryz.ntmps123 rfl ?_
  refine St.seq fun K0 hK0 => ?_
  refine St.region ?_
  refine St.box rfl rfl ?_
  intro w3 b3 hb3 hs3 e3 k3
  have qE3 := E.size
  replace E := Ext.trans E e3
  refine St.alloc Tryz.zeroValue48 rfl ?_
  intro w4 b4 hb4 hs4 e4 k4
  have qE4 := E.size
  replace E := Ext.trans E e4
  replace k3 := k3.ext e4
  refine St.nil ?_
  refine St.weak [(0, _), (3, _), (4, _)] ⟨rfl, rfl, rfl, trivial⟩ ?_
  refine St.then_n ?_
  refine St.go hK0 ?_
  clear hK0
  refine St.seq fun K1 hK1 => ?_
  refine St.weak [(0, _), (3, _), (4, _)] ⟨rfl, rfl, rfl, trivial⟩ ?_
  refine St.drawT (S := fun k => k = b4) (eff := [3, 7, 11, 13]) mixed rfl rfl rfl rfl ?_
  replace E := Ext.trans E (Ext.drew _)
  replace k3 := k3.ext (Ext.drew _)
  replace k4 := k4.ext (Ext.drew _)
  refine DrawT.quiet 0 rfl rfl (fun W eW => OpOk.r (R.move rfl) rfl) ?_
  refine DrawT.quiet 1 rfl rfl (fun W eW => OpOk.r (R.fieldA Tryz.underlying48 rfl Tryz.sizeOf46 rfl rfl rfl) rfl) ?_
  have hp7 := (k3.cells.cut 0 4 rfl)
  refine DrawT.pinA 2 rfl rfl Tryz.isAgg46 Tryz.sizeOf46 rfl hp7 rfl ?_
  refine DrawT.quiet 4 rfl rfl (fun W eW => OpOk.r (R.move rfl) rfl) ?_
  refine DrawT.quiet 5 rfl rfl (fun W eW => OpOk.r (R.fieldA Tryz.underlying48 rfl Tryz.sizeOf46 rfl rfl rfl) rfl) ?_
  have hp11 := (k3.cells.cut 4 4 rfl)
  refine DrawT.pinA 6 rfl rfl Tryz.isAgg46 Tryz.sizeOf46 rfl hp11 rfl ?_
  refine DrawT.quiet 8 rfl rfl (fun W eW => OpOk.r (R.move rfl) rfl) ?_
  refine DrawT.quiet 9 rfl rfl (fun W eW => OpOk.r (R.fieldA Tryz.underlying48 rfl Tryz.sizeOf46 rfl rfl rfl) rfl) ?_
  have hp15 := (k3.cells.cut 8 4 rfl)
  refine DrawT.pinA 10 rfl rfl Tryz.isAgg46 Tryz.sizeOf46 rfl hp15 rfl ?_
  refine DrawT.one (n := 3) [10, 6] rfl rfl rfl (by kernel_rfl) (OpC.plain (Eff.call rfl rfl ent176 (slotA_ret _ (hm.ext E))) rfl) ?_ ?_
  · rintro r8 w8 ⟨rfl, e8⟩
    refine ⟨?_, ⟨e8.cells hp15, e8.cells hp11, trivial⟩⟩
    exact Chg.mono e8 fun _ _ h => h.elim
  rintro r8 w8 ⟨rfl, e8⟩
  replace hp15 := e8.cells hp15
  replace hp11 := e8.cells hp11
  replace E := Ext.trans E e8
  replace k3 := k3.ext e8
  replace k4 := k4.ext e8
  refine DrawT.one (n := 7) [10] rfl rfl rfl (by kernel_rfl) (OpC.plain (Eff.call rfl rfl ent176 (slotA_ret _ (hm.ext E))) rfl) ?_ ?_
  · rintro r12 w12 ⟨rfl, e12⟩
    refine ⟨?_, ⟨e12.cells hp15, trivial⟩⟩
    exact Chg.mono e12 fun _ _ h => h.elim
  rintro r12 w12 ⟨rfl, e12⟩
  replace hp15 := e12.cells hp15
  replace E := Ext.trans E e12
  replace k3 := k3.ext e12
  replace k4 := k4.ext e12
  refine DrawT.one (n := 11) [] rfl rfl rfl (by kernel_rfl) (OpC.plain (Eff.call rfl rfl ent176 (slotA_ret _ (hm.ext E))) rfl) ?_ ?_
  · rintro r16 w16 ⟨rfl, e16⟩
    refine ⟨?_, trivial⟩
    exact Chg.mono e16 fun _ _ h => h.elim
  rintro r16 w16 ⟨rfl, e16⟩
  replace E := Ext.trans E e16
  replace k3 := k3.ext e16
  replace k4 := k4.ext e16
  refine DrawT.quiet 12 rfl rfl (fun W eW => OpOk.r (R.build Tryz.underlying48 (places48 _ Tryz.underlying48) Tryz.zeroValue48 rfl rfl rfl) rfl) ?_
  refine DrawT.one (n := 13) [] rfl rfl rfl (by kernel_rfl) (OpC.plain (Eff.store Tryz.sizeOf48 rfl rfl k4 rfl (by simp [Value.cells]) (one_pat (patA a p))) rfl) ?_ ?_
  · rintro _ _ ⟨_, _, g, _⟩
    refine ⟨?_, trivial⟩
    exact g
  rintro _ ws0 ⟨rfl, ks0, gs0, zs0⟩
  replace E := Ext.then E gs0 (by intro j hj; omega)
  replace k3 := k3.chg gs0 (by omega)
  clear k4; have k4 := ks0; clear ks0
  replace k4 : Blk ws0 b4 48 (encPat (patA a p)) := k4
  refine DrawT.fin rfl ?_
  show St _ _ _ _ _
  refine St.weak [(4, _)] ⟨rfl, trivial⟩ ?_
  refine St.then_n ?_
  refine St.go hK1 ?_
  clear hK1
  refine St.ret ?_
  refine St.retA Tryz.results123 Tryz.isAgg48 Tryz.sizeOf48 rfl k4.cells rfl ?_
  exact ⟨_, rfl, rfl, E⟩

set_option maxHeartbeats 4000000 in
set_option maxRecDepth 100000 in
theorem withA_ret {a : Ans} {m : Nat} {p : Pat} {t : Triple} (w0 : World) (hm : MapB (fun s : ByteArray => Value.string s) vf44 w0 m a) : Ret Tryz.prog 187 [.map (some m), .agg (encPat p).toArray, .agg (encTriple t).toArray] w0 fun r w' => ∃ b, r = .map (some b) ∧ MapB (fun s : ByteArray => Value.string s) vf44 w' b (withA a p t) ∧ w0.heap.size ≤ b ∧ Ext w0 w' := by
  have E : Ext w0 w0 := Ext.refl w0
  refine St.enter (N := 31) Tryz.func187 rfl Tryz.ntmps187 rfl ?_
  refine St.seq fun K0 hK0 => ?_
  refine St.region ?_
  refine St.box rfl rfl ?_
  intro w4 b4 hb4 hs4 e4 k4
  have qE4 := E.size
  replace E := Ext.trans E e4
  refine St.box rfl rfl ?_
  intro w5 b5 hb5 hs5 e5 k5
  have qE5 := E.size
  replace E := Ext.trans E e5
  replace k4 := k4.ext e5
  refine St.r (R.assign rfl) rfl rfl ?_
  refine St.nil ?_
  refine St.weak [(0, _), (4, _), (5, _)] ⟨rfl, rfl, rfl, trivial⟩ ?_
  refine St.then_n ?_
  refine St.go hK0 ?_
  clear hK0
  refine St.seq fun K1 hK1 => ?_
  refine St.region ?_
  refine St.r (R.move rfl) rfl rfl ?_
  have z11 := E.size
  refine St.call rfl rfl ent233 (aClone_ret _ (hm.ext E)) rfl ?_
  rintro r11 w11 ⟨m2, rfl, hm2, m1, e11⟩
  replace E := Ext.trans E e11
  replace k4 := k4.ext e11
  replace k5 := k5.ext e11
  refine St.r (R.assign rfl) rfl rfl ?_
  refine St.nil ?_
  refine St.weak [(0, _), (4, _), (5, _)] ⟨rfl, rfl, rfl, trivial⟩ ?_
  refine St.then_n ?_
  refine St.go hK1 ?_
  clear hK1
  refine St.seq fun K2 hK2 => ?_
  refine St.region ?_
  refine St.r (R.loadA Tryz.isAgg100 Tryz.sizeOf100 rfl k5.cells rfl) rfl rfl ?_
  refine St.call rfl rfl ent180 (mTerms_ret _) rfl ?_
  rintro r13 w13 ⟨rfl, e13⟩
  replace E := Ext.trans E e13
  replace k4 := k4.ext e13
  replace k5 := k5.ext e13
  replace m1 := m1.ext e13
  have y1 := m1.lt
  refine St.alloc Tryz.zeroValue258 rfl ?_
  intro w7 b7 hb7 hs7 e7 k7
  have qE7 := E.size
  replace E := Ext.trans E e7
  replace k4 := k4.ext e7
  replace k5 := k5.ext e7
  replace m1 := m1.ext e7
  refine St.store Tryz.sizeOf258 rfl rfl k7 rfl (by simp [Value.cells]) (one_terms t) ?_
  intro ws0 ks0 gs0 zs0
  replace E := Ext.then E gs0 (by intro j hj; omega)
  replace k4 := k4.chg gs0 (by omega)
  replace k5 := k5.chg gs0 (by omega)
  replace m1 := m1.chg gs0 (by omega)
  clear k7; have k7 := ks0; clear ks0
  replace k7 : Blk ws0 b7 258 ((termsOf t).flatMap encTerm) := k7
  refine St.nil ?_
  refine St.weak [(0, _), (4, _), (7, _)] ⟨rfl, rfl, rfl, trivial⟩ ?_
  refine St.then_n ?_
  refine St.go hK2 ?_
  clear hK2
  refine St.seq fun K3 hK3 => ?_
  refine St.seq fun K4 hK4 => ?_
  refine St.region ?_
  refine St.r (R.loadA Tryz.isAgg48 Tryz.sizeOf48 rfl k4.cells rfl) rfl rfl ?_
  refine St.call rfl rfl ent63 (mSlots_ret _) rfl ?_
  rintro r15 w15 ⟨rfl, e15⟩
  replace E := Ext.trans E e15
  replace k4 := k4.ext e15
  replace k5 := k5.ext e15
  replace m1 := m1.ext e15
  replace k7 := k7.ext e15
  refine St.r (R.move rfl) rfl rfl ?_
  refine St.nil ?_
  refine St.weak [(0, _), (7, _), (15, _), (16, _)] ⟨rfl, rfl, rfl, rfl, trivial⟩ ?_
  refine St.then_n ?_
  refine St.go hK4 ?_
  clear hK4
  refine St.block ?_
  refine St.loop (fun (k : Nat) => [(0, .map (some m2)), (7, .pointer (some ⟨b7, 0, none⟩)), (15, .agg ((slotsOf p).flatMap encSlot).toArray), (16, .int .i64 (k : Int))])
      (fun (k : Nat) w => k ≤ 3 ∧ Ext w0 w ∧ MapB (fun s : ByteArray => Value.string s) vf44 w m2 ((((slotsOf p).zip (termsOf t)).take k).foldl putA a) ∧ Blk w b7 258 ((termsOf t).flatMap encTerm))
      (fun (k : Nat) => 3 - k) 0 ⟨rfl, rfl, rfl, rfl, trivial⟩ ?_ ?_
  · exact ⟨Nat.zero_le _, E, m1, k7⟩
  rintro k w ⟨hk, E, m1, k7⟩
  show St _ _ [(0, .map (some m2)), (7, .pointer (some ⟨b7, 0, none⟩)), (15, .agg ((slotsOf p).flatMap encSlot).toArray), (16, .int .i64 (k : Int))] _ _
  refine St.seq fun K5 hK5 => ?_
  refine St.region ?_
  refine St.r (R.lss rfl rfl) rfl rfl ?_
  refine St.nil ?_
  refine St.weak [(0, _), (7, _), (15, _), (16, _), (17, _)] ⟨rfl, rfl, rfl, rfl, rfl, trivial⟩ ?_
  refine St.then_n ?_
  refine St.go hK5 ?_
  clear hK5
  refine St.seq fun K6 hK6 => ?_
  refine St.condD rfl (fun h17 => ?_) (fun h17 => ?_)
  ·
    obtain ⟨s, hs⟩ := slots_get (p := p) (i := k) (by omega)
    obtain ⟨x, hx⟩ := terms_get (t := t) (i := k) (by omega)
    have hz : ((slotsOf p).zip (termsOf t))[k]? = some (s, x) := by rw [List.getElem?_zip_eq_some]; exact ⟨hs, hx⟩
    have y1 := m1.lt
    have y7 := k7.lt
    refine St.skip ?_
    refine St.then_n ?_
    refine St.go hK6 ?_
    clear hK6
    refine St.seq fun K7 hK7 => ?_
    refine St.block ?_
    refine St.seq fun K8 hK8 => ?_
    refine St.region ?_
    refine St.r (R.move rfl) rfl rfl ?_
    refine St.r (R.idxArr k Tryz.underlying115 Tryz.isAgg46 Tryz.sizeOf46 rfl rfl rfl (by omega) (flat_cut encSlot_len hs)) rfl rfl ?_
    refine St.alloc Tryz.zeroValue46 rfl ?_
    intro w9 b9 hb9 hs9 e9 k9
    have qE9 := E.size
    replace E := Ext.trans E e9
    replace m1 := m1.ext e9
    replace k7 := k7.ext e9
    refine St.r (R.assign rfl) rfl rfl ?_
    refine St.store Tryz.sizeOf46 rfl rfl k9 rfl (by simp [Value.cells, encSlot, encTerm]) (one_slot s) ?_
    intro ws1 ks1 gs1 zs1
    replace E := Ext.then E gs1 (by intro j hj; omega)
    replace m1 := m1.chg gs1 (by omega)
    replace k7 := k7.chg gs1 (by omega)
    clear k9; have k9 := ks1; clear ks1
    replace k9 : Blk ws1 b9 46 (encSlot s) := k9
    refine St.nil ?_
    refine St.weak [(0, _), (7, _), (8, _), (9, _), (15, _), (16, _)] ⟨rfl, rfl, rfl, rfl, rfl, rfl, trivial⟩ ?_
    refine St.then_n ?_
    refine St.go hK8 ?_
    clear hK8
    refine St.seq fun K9 hK9 => ?_
    refine St.region ?_
    refine St.r (R.fieldA Tryz.underlying46 rfl Tryz.sizeOf9 rfl rfl rfl) rfl rfl ?_
    refine St.r (R.load1 Tryz.isAgg9 rfl (k9.cells.at 0 rfl)) rfl rfl ?_
    refine St.r (R.neS rfl rfl) rfl rfl ?_
    refine St.nil ?_
    refine St.weak [(0, _), (7, _), (8, _), (9, _), (15, _), (16, _), (22, _)] ⟨rfl, rfl, rfl, rfl, rfl, rfl, rfl, trivial⟩ ?_
    refine St.then_n ?_
    refine St.go hK9 ?_
    clear hK9
    refine St.condD rfl (fun h22 => ?_) (fun h22 => ?_)
    ·
      refine St.weak [(0, _), (7, _), (8, _), (9, _), (15, _), (16, _)] ⟨rfl, rfl, rfl, rfl, rfl, rfl, trivial⟩ ?_
      refine St.drawT (S := fun k => k = m2) (eff := [6]) mixed rfl rfl rfl rfl ?_
      replace E := Ext.trans E (Ext.drew _)
      replace m1 := m1.ext (Ext.drew _)
      replace k7 := k7.ext (Ext.drew _)
      replace k9 := k9.ext (Ext.drew _)
      refine DrawT.quiet 0 rfl rfl (fun W eW => OpOk.r (R.move rfl) rfl) ?_
      refine DrawT.quiet 1 rfl rfl (fun W eW => OpOk.r (R.fieldA Tryz.underlying46 rfl Tryz.sizeOf9 rfl rfl rfl) rfl) ?_
      have hp25 := (k9.cells.at 0 rfl)
      refine DrawT.pinL 2 rfl rfl Tryz.isAgg9 rfl hp25 ?_
      refine DrawT.quiet 3 rfl rfl (fun W eW => OpOk.r (R.move rfl) rfl) ?_
      refine DrawT.quiet 4 rfl rfl (fun W eW => OpOk.r (R.indexA k Tryz.underlying258 Tryz.sizeOf44 rfl rfl rfl (by omega)) rfl) ?_
      have hp28 := ((Blk.elem (sp := []) encTerm_len (by rw [List.append_nil]; exact k7) hx))
      refine DrawT.pinA 5 rfl rfl Tryz.isAgg44 Tryz.sizeOf44 rfl hp28 rfl ?_
      refine DrawT.one (n := 6) [] rfl rfl rfl (by kernel_rfl) (OpC.plain (Eff.mapUpdate (KEnc.str Tryz.underlying9) Tryz.underlying189 m1 rfl rfl rfl) rfl) ?_ ?_
      · rintro _ wm0 ⟨rfl, mm0, gm0, zm0⟩
        refine ⟨?_, trivial⟩
        exact gm0
      rintro _ wm0 ⟨rfl, mm0, gm0, zm0⟩
      replace E := Ext.then E gm0 (by intro j hj; omega)
      replace k7 := k7.chg gm0 (by omega)
      replace k9 := k9.chg gm0 (by omega)
      clear m1; have m1 := mm0; clear mm0
      refine DrawT.fin rfl ?_
      show St _ _ _ _ _
      refine St.weak [(0, _), (7, _), (15, _), (16, _)] ⟨rfl, rfl, rfl, rfl, trivial⟩ ?_
      refine St.in_n ?_
      refine St.then_n ?_
      refine St.go hK7 ?_
      clear hK7
      refine St.region ?_
      refine St.r (R.add rfl rfl (by omega) (by omega)) rfl rfl ?_
      refine St.r (R.move rfl) rfl rfl ?_
      refine St.nil ?_
      refine St.weak [(0, _), (7, _), (15, _), (16, _)] ⟨rfl, rfl, rfl, rfl, trivial⟩ ?_
      refine St.then_n ?_
      refine St.round (k + 1) ⟨rfl, rfl, rfl, rfl, trivial⟩ ?_ ?_
      · refine ⟨by omega, E, ?_, k7⟩
        rw [take_snoc hz, List.foldl_append]
        show MapB _ _ _ _ (putA _ (s, x))
        rw [putA, if_neg h22]; exact m1
      · omega
    ·
      refine St.skip ?_
      refine St.in_n ?_
      refine St.then_n ?_
      refine St.go hK7 ?_
      clear hK7
      refine St.region ?_
      refine St.r (R.add rfl rfl (by omega) (by omega)) rfl rfl ?_
      refine St.r (R.move rfl) rfl rfl ?_
      refine St.nil ?_
      refine St.weak [(0, _), (7, _), (15, _), (16, _)] ⟨rfl, rfl, rfl, rfl, trivial⟩ ?_
      refine St.then_n ?_
      refine St.round (k + 1) ⟨rfl, rfl, rfl, rfl, trivial⟩ ?_ ?_
      · refine ⟨by omega, E, ?_, k7⟩
        rw [take_snoc hz, List.foldl_append]
        show MapB _ _ _ _ (putA _ (s, x))
        rw [putA, if_pos (Decidable.not_not.1 h22)]; exact m1
      · omega
  ·
    refine St.exit ?_
    refine St.then_x ?_
    refine St.then_x ?_
    refine St.in_x ?_
    refine St.then_n ?_
    refine St.go hK3 ?_
    clear hK3
    refine St.seq fun K10 hK10 => ?_
    refine St.region ?_
    refine St.r (R.move rfl) rfl rfl ?_
    refine St.r (R.assign rfl) rfl rfl ?_
    refine St.nil ?_
    refine St.weak [(6, _)] ⟨rfl, trivial⟩ ?_
    refine St.then_n ?_
    refine St.go hK10 ?_
    clear hK10
    refine St.ret ?_
    refine St.ret1 Tryz.results187 rfl ?_
    have hk3 : k = 3 := by omega
    subst hk3
    exact ⟨_, rfl, m2, rfl, m1, by omega, E⟩

theorem tri_IndexFuncJ {xs : List Triple} {v : Value} {g : FuncId} {caps : Array Value} {J : Nat → World → Prop} {Z : World → Prop} (w0 : World) (hJ0 : J 0 w0) (hcl : ∀ k W W', J k W → Ext W W' → J k W') (hR : ∀ k W, J k W → RTriples W v xs) (he : Ent Tryz.prog g)
    (hp : ∀ (k : Nat) x W, xs[k]? = some x → J k W → Ret Tryz.prog g ([.agg (encTriple x).toArray] ++ caps.toList) W fun r W' => ∃ b, r = .bool b ∧ (b = true → Z W') ∧ (b = false → J (k + 1) W')) :
    Ret Tryz.prog 179 [v, .func (.func g) #[] caps] w0 fun r w' => ∃ n : Int, r = .int .i64 n ∧ (0 ≤ n → Z w') ∧ (n < 0 → J xs.length w') := by
  obtain ⟨A, c, rfl, hc1, hc2⟩ := (hR 0 _ hJ0).form
  have j0 : Stay (J 0) w0 := ⟨hJ0, hcl 0⟩
  refine St.enter (N := 19) Tryz.func179 rfl Tryz.ntmps179 rfl ?_
  refine St.seq fun K0 hK0 => ?_
  refine St.region ?_
  refine St.r (R.assign rfl) rfl rfl ?_
  refine St.nil ?_
  refine St.weak [(0, _), (1, _)] ⟨rfl, rfl, trivial⟩ ?_
  refine St.then_n ?_
  refine St.go hK0 ?_
  clear hK0
  refine St.seq fun K1 hK1 => ?_
  refine St.seq fun K2 hK2 => ?_
  refine St.region ?_
  refine St.r (R.move rfl) rfl rfl ?_
  refine St.r (R.lenSl Tryz.underlying22 rfl) rfl rfl ?_
  refine St.r (R.move rfl) rfl rfl ?_
  refine St.nil ?_
  refine St.weak [(0, _), (1, _), (7, _), (8, _)] ⟨rfl, rfl, rfl, rfl, trivial⟩ ?_
  refine St.then_n ?_
  refine St.go hK2 ?_
  clear hK2
  refine St.block ?_
  refine St.loop (fun (k : Nat) => [(0, .slice A xs.length c), (1, .func (.func g) #[] caps), (7, .int .i64 (xs.length : Int)), (8, .int .i64 (k : Int))])
      (fun (k : Nat) w => k ≤ xs.length ∧ Stay (J k) w)
      (fun (k : Nat) => xs.length - k) 0 ⟨rfl, rfl, rfl, rfl, trivial⟩ ?_ ?_
  · exact ⟨Nat.zero_le _, j0⟩
  rintro k w ⟨hk, j0⟩
  show St _ _ [(0, .slice A xs.length c), (1, .func (.func g) #[] caps), (7, .int .i64 (xs.length : Int)), (8, .int .i64 (k : Int))] _ _
  refine St.seq fun K3 hK3 => ?_
  refine St.region ?_
  refine St.r (R.lss rfl rfl) rfl rfl ?_
  refine St.nil ?_
  refine St.weak [(0, _), (1, _), (7, _), (8, _), (9, _)] ⟨rfl, rfl, rfl, rfl, rfl, trivial⟩ ?_
  refine St.then_n ?_
  refine St.go hK3 ?_
  clear hK3
  refine St.seq fun K4 hK4 => ?_
  refine St.condD rfl (fun h9 => ?_) (fun h9 => ?_)
  ·
    obtain ⟨x, hx⟩ := get_of_lt (xs := xs) (k := k) (by omega)
    obtain ⟨b, o, rfl, hxc⟩ := (hR k _ j0.h).get' hx
    refine St.skip ?_
    refine St.then_n ?_
    refine St.go hK4 ?_
    clear hK4
    refine St.seq fun K5 hK5 => ?_
    refine St.block ?_
    refine St.seq fun K6 hK6 => ?_
    refine St.region ?_
    refine St.r (R.move rfl) rfl rfl ?_
    refine St.r (R.assign rfl) rfl rfl ?_
    refine St.nil ?_
    refine St.weak [(0, _), (1, _), (5, _), (7, _), (8, _)] ⟨rfl, rfl, rfl, rfl, rfl, trivial⟩ ?_
    refine St.then_n ?_
    refine St.go hK6 ?_
    clear hK6
    refine St.seq fun K7 hK7 => ?_
    refine St.region ?_
    refine St.r (R.move rfl) rfl rfl ?_
    refine St.r (R.move rfl) rfl rfl ?_
    refine St.r (R.move rfl) rfl rfl ?_
    refine St.r (R.indexS _ Tryz.underlying22 Tryz.sizeOf100 rfl rfl rfl (by omega)) rfl rfl ?_
    refine St.r (R.loadA Tryz.isAgg100 Tryz.sizeOf100 rfl ((hR k _ j0.h).get hx) rfl) rfl rfl ?_
    refine St.call rfl rfl he (hp k x _ hx j0.h) rfl ?_
    rintro r16 w16 ⟨b16, rfl, hz16, hf16⟩
    refine St.nil ?_
    refine St.weak [(0, _), (1, _), (5, _), (7, _), (8, _), (16, _)] ⟨rfl, rfl, rfl, rfl, rfl, rfl, trivial⟩ ?_
    refine St.then_n ?_
    refine St.go hK7 ?_
    clear hK7
    refine St.cond rfl (fun h16 => ?_) (fun h16 => ?_)
    ·
      refine St.seq fun K8 hK8 => ?_
      refine St.region ?_
      refine St.r (R.move rfl) rfl rfl ?_
      refine St.r (R.assign rfl) rfl rfl ?_
      refine St.nil ?_
      refine St.weak [(4, _)] ⟨rfl, trivial⟩ ?_
      refine St.then_n ?_
      refine St.go hK8 ?_
      clear hK8
      refine St.ret ?_
      refine St.in_r ?_
      refine St.then_r ?_
      refine St.then_r ?_
      refine St.in_r ?_
      refine St.then_r ?_
      refine St.ret1 Tryz.results179 rfl ?_
      exact ⟨_, rfl, _, rfl, fun _ => hz16 h16, fun h => by omega⟩
    ·
      have j1 : Stay (J (k + 1)) w16 := ⟨hf16 h16, hcl _⟩
      clear j0
      have j0 := j1
      clear j1
      refine St.skip ?_
      refine St.in_n ?_
      refine St.then_n ?_
      refine St.go hK5 ?_
      clear hK5
      refine St.region ?_
      refine St.r (R.add rfl rfl (by omega) (by omega)) rfl rfl ?_
      refine St.r (R.move rfl) rfl rfl ?_
      refine St.nil ?_
      refine St.weak [(0, _), (1, _), (7, _), (8, _)] ⟨rfl, rfl, rfl, rfl, trivial⟩ ?_
      refine St.then_n ?_
      refine St.round (k + 1) ⟨rfl, rfl, rfl, rfl, trivial⟩ ?_ ?_
      · exact ⟨by omega, j0⟩
      · omega
  ·
    refine St.exit ?_
    refine St.then_x ?_
    refine St.then_x ?_
    refine St.in_x ?_
    refine St.then_n ?_
    refine St.go hK1 ?_
    clear hK1
    refine St.seq fun K9 hK9 => ?_
    refine St.region ?_
    refine St.r (R.assign rfl) rfl rfl ?_
    refine St.nil ?_
    refine St.weak [(4, _)] ⟨rfl, trivial⟩ ?_
    refine St.then_n ?_
    refine St.go hK9 ?_
    clear hK9
    refine St.ret ?_
    refine St.ret1 Tryz.results179 rfl ?_
    have hkl : k = xs.length := by omega
    exact ⟨_, rfl, _, rfl, fun h => by omega, fun _ => hkl ▸ j0.h⟩

theorem tri_ContainsFuncJ {xs : List Triple} {v : Value} {g : FuncId} {caps : Array Value} {J : Nat → World → Prop} {Z : World → Prop} (w0 : World) (hJ0 : J 0 w0) (hcl : ∀ k W W', J k W → Ext W W' → J k W') (hzl : ∀ W W', Z W → Ext W W' → Z W') (hR : ∀ k W, J k W → RTriples W v xs) (he : Ent Tryz.prog g)
    (hp : ∀ (k : Nat) x W, xs[k]? = some x → J k W → Ret Tryz.prog g ([.agg (encTriple x).toArray] ++ caps.toList) W fun r W' => ∃ b, r = .bool b ∧ (b = true → Z W') ∧ (b = false → J (k + 1) W')) :
    Ret Tryz.prog 185 [v, .func (.func g) #[] caps] w0 fun r w' => ∃ b, r = .bool b ∧ (b = true → Z w') ∧ (b = false → J xs.length w') := by
  refine St.enter (N := 9) Tryz.func185 rfl Tryz.ntmps185 rfl ?_
  refine St.seq fun K0 hK0 => ?_
  refine St.region ?_
  refine St.r (R.assign rfl) rfl rfl ?_
  refine St.nil ?_
  refine St.weak [(0, _), (1, _)] ⟨rfl, rfl, trivial⟩ ?_
  refine St.then_n ?_
  refine St.go hK0 ?_
  clear hK0
  refine St.seq fun K1 hK1 => ?_
  refine St.region ?_
  refine St.r (R.move rfl) rfl rfl ?_
  refine St.r (R.move rfl) rfl rfl ?_
  refine St.call rfl rfl ent179 (tri_IndexFuncJ w0 hJ0 hcl hR he hp) rfl ?_
  rintro r7 w7 ⟨n7, rfl, hz7, hj7⟩
  refine St.r (R.geq rfl rfl) rfl rfl ?_
  refine St.r (R.assign rfl) rfl rfl ?_
  refine St.nil ?_
  refine St.weak [(4, _)] ⟨rfl, trivial⟩ ?_
  refine St.then_n ?_
  refine St.go hK1 ?_
  clear hK1
  refine St.ret ?_
  refine St.ret1 Tryz.results185 rfl ?_
  exact ⟨_, rfl, _, rfl, fun h => hz7 (of_decide_eq_true h), fun h => hj7 (by have := of_decide_eq_false h; omega)⟩


def encNat (n : Nat) : List Value := [.int .i64 (n : Int)]
theorem encNat_len (n : Nat) : (encNat n).length = 1 := rfl
def encMp (b : Nat) : List Value := [.map (some b)]
theorem encMp_len (b : Nat) : (encMp b).length = 1 := rfl
theorem one_mp (b : Nat) : ∀ u ∈ encMp b, u.oneCell' = true := by intro u hu; simp [encMp] at hu; subst hu; rfl
theorem mapOff {a : Ans} {w : World} {m : Nat} {t : TypeId} {cs : List Value} (h : MapB (fun s : ByteArray => Value.string s) vf44 w m a) (k : Blk w m t cs) : False := by
  obtain ⟨es, cl, hb, _⟩ := h
  unfold Blk at k
  rw [hb] at k; injection k with k; cases k
/-- Maps, each of them as it is told. -/
structure MapsB (w : World) (bs : List Nat) (found : List Ans) : Prop where
  len : bs.length = found.length
  at_ : ∀ (k : Nat) b a, bs[k]? = some b → found[k]? = some a → MapB (fun s : ByteArray => Value.string s) vf44 w b a
theorem MapsB.get {w : World} {bs : List Nat} {found : List Ans} (h : MapsB w bs found) {b : Nat} (hb : b ∈ bs) : ∃ a, MapB (fun s : ByteArray => Value.string s) vf44 w b a := by
  obtain ⟨k, hk⟩ := List.mem_iff_getElem?.1 hb
  obtain ⟨a, ha⟩ := get_of_lt (xs := found) (k := k) (by have := lt_of_get hk; have := h.len; omega)
  exact ⟨a, h.at_ k b a hk ha⟩
theorem MapsB.chg {S : Nat → Prop} {w w' : World} {bs : List Nat} {found : List Ans} (h : MapsB w bs found) (c : Chg S w w') (hs : ∀ b, b ∈ bs → ¬ S b) : MapsB w' bs found := ⟨h.len, fun k b a hb ha => (h.at_ k b a hb ha).chg c (hs b (List.mem_of_getElem? hb))⟩
theorem MapsB.ext {w w' : World} {bs : List Nat} {found : List Ans} (h : MapsB w bs found) (c : Ext w w') : MapsB w' bs found := h.chg c fun _ _ h => h
theorem MapsB.isMap {w : World} {bs : List Nat} {found : List Ans} (h : MapsB w bs found) {b : Nat} (hb : b ∈ bs) : ∃ es cl, w.heap[b]? = some (.map es cl) := by
  obtain ⟨a, ha⟩ := h.get hb; exact ha.isMap
theorem MapsB.off {w : World} {bs : List Nat} {found : List Ans} (h : MapsB w bs found) {b : Nat} (hb : b ∈ bs) {t : TypeId} {cs : List Value} (k : Blk w b t cs) : False := by
  obtain ⟨a, ha⟩ := h.get hb; exact mapOff ha k
theorem MapsB.snoc {w : World} {bs : List Nat} {found : List Ans} (h : MapsB w bs found) {b : Nat} {a : Ans} (ha : MapB (fun s : ByteArray => Value.string s) vf44 w b a) : MapsB w (bs ++ [b]) (found ++ [a]) := by
  have hl := h.len
  refine ⟨by simp [hl], fun k x y hx hy => ?_⟩
  rcases Nat.lt_or_ge k bs.length with hk | hk
  · rw [List.getElem?_append_left hk] at hx
    rw [List.getElem?_append_left (by omega)] at hy
    exact h.at_ k x y hx hy
  · rw [List.getElem?_append_right hk] at hx
    rw [List.getElem?_append_right (by omega)] at hy
    have hk0 : k - bs.length < 1 := by have := lt_of_get hx; simpa using this
    obtain rfl : k = bs.length := by omega
    rw [Nat.sub_self] at hx
    rw [hl, Nat.sub_self] at hy
    injection hx with hx; injection hy with hy
    subst hx hy; exact ha
/-- A walker in memory. -/
structure WB (B : Nat) (w : World) (wb mb : Nat) (sv pv fv : Value) (many : List Nat) (looked : Nat) (found : List Ans) : Prop where
  blk : Blk w wb 210 [sv, pv, .slice (some ⟨mb, 0, none⟩) many.length many.length, .int .i64 (looked : Int), fv]
  many_ : Blk w mb 3 (many.flatMap encNat)
  row : ∃ bs, Own encMp 1 B 189 w fv bs ∧ MapsB w bs found
  ne : wb ≠ mb
  low : B ≤ wb ∧ B ≤ mb
  fne : ∀ k, fv.ownBlock = some k → k ≠ wb ∧ k ≠ mb
  lk : looked ≤ 200 * many.sum
  fl : found.length ≤ many.sum
theorem WB.ext {B : Nat} {w w' : World} {wb mb : Nat} {sv pv fv : Value} {many : List Nat} {looked : Nat} {found : List Ans} (h : WB B w wb mb sv pv fv many looked found) (c : Ext w w') : WB B w' wb mb sv pv fv many looked found := by
  obtain ⟨bs, h1, h2⟩ := h.row
  exact ⟨h.blk.ext c, h.many_.ext c, ⟨bs, h1.ext c, h2.ext c⟩, h.ne, h.low, h.fne, h.lk, h.fl⟩
/-- What a walk from an answer so far comes to. -/
structure WalkP (B wb mb : Nat) (sv pv fv : Value) (many : List Nat) (looked : Nat) (found : List Ans) (set : List Triple) (a : Ans) (d : Nat) (rest : List Pat) (w0 : World) (b : Bool) (w' : World) : Prop where
  ok : b = decide (AllLe (addAt many d (counts set [a] rest)))
  chg : Chg (fun k => k = wb ∨ k = mb ∨ fv.ownBlock = some k) w0 w'
  mem : ∃ fv' many' looked' found', WB B w' wb mb sv pv fv' many' looked' found' ∧ (∀ k, fv'.ownBlock = some k → fv.ownBlock = some k ∨ w0.heap.size ≤ k) ∧
    (b = true → many' = addAt many d (counts set [a] rest) ∧ looked' = looked + lookedN set [a] rest ∧ found' = found ++ levels set [a] rest)
theorem WalkP.lower {B wb mb : Nat} {sv pv fv : Value} {many : List Nat} {looked : Nat} {found : List Ans} {set : List Triple} {a : Ans} {d : Nat} {rest : List Pat} {w0 w1 : World} {b : Bool} {w' : World} (h : WalkP B wb mb sv pv fv many looked found set a d rest w1 b w') (e : Ext w0 w1) : WalkP B wb mb sv pv fv many looked found set a d rest w0 b w' := by
  obtain ⟨fv', many', looked', found', h1, h2, h3⟩ := h.mem
  exact ⟨h.ok, (Chg.mono e fun _ _ h => h.elim).trans h.chg, fv', many', looked', found', h1, fun k hk => (h2 k hk).imp id (Nat.le_trans e.size), h3⟩
def WalkC (set : List Triple) (parts : List Pat) (sv pv : Value) (B wb mb : Nat) (d : Nat) (rest : List Pat) : Prop := ∀ (fv : Value) (many : List Nat) (looked : Nat) (found : List Ans) (a : Ans) (m : Nat) (w0 : World), RTriples w0 sv set → RPats w0 pv parts → WB B w0 wb mb sv pv fv many looked found → many.length = parts.length + 1 → AllLe many → MapB (fun s : ByteArray => Value.string s) vf44 w0 m a → B ≤ w0.heap.size →
  Ret Tryz.prog 137 [.pointer (some ⟨wb, 0, none⟩), .int .i64 (d : Int), .map (some m)] w0 fun r w' => ∃ b, r = .bool b ∧ WalkP B wb mb sv pv fv many looked found set a d rest w0 b w'

set_option maxHeartbeats 4000000 in
set_option maxRecDepth 100000 in
theorem walk1_ret {set : List Triple} {parts : List Pat} {sv pv : Value} {B wb mb : Nat} {d : Nat} {rest : List Pat} (hIH : WalkC set parts sv pv B wb mb (d + 1) rest) {fv : Value} {many : List Nat} {looked : Nat} {found : List Ans} {a : Ans} {m b1 b2 b3 b4 : Nat} {p : Pat} {t : Triple} (hd : d ≤ 1000) (w0 : World)
    (hS : RTriples w0 sv set) (hP : RPats w0 pv parts) (h : WB B w0 wb mb sv pv fv many looked found) (hl : many.length = parts.length + 1) (hle : AllLe many) (hB : B ≤ w0.heap.size) (h1 : w0.cell? ⟨b1, 0, none⟩ = some (.pointer (some ⟨wb, 0, none⟩))) (h2 : w0.cell? ⟨b2, 0, none⟩ = some (.int .i64 (d : Int))) (h3 : w0.cell? ⟨b3, 0, none⟩ = some (.map (some m))) (h4 : CellsAt w0 b4 0 (encPat p)) (hm : MapB (fun s : ByteArray => Value.string s) vf44 w0 m a) :
    Ret Tryz.prog 186 [.agg (encTriple t).toArray, .pointer (some ⟨b1, 0, none⟩), .pointer (some ⟨b2, 0, none⟩), .pointer (some ⟨b3, 0, none⟩), .pointer (some ⟨b4, 0, none⟩)] w0 fun r w' => ∃ b, r = .bool (!b) ∧ WalkP B wb mb sv pv fv many looked found set (withA a p t) (d + 1) rest w0 b w' := by
  have E : Ext w0 w0 := Ext.refl w0
  refine St.enter (N := 16) Tryz.func186 rfl Tryz.ntmps186 rfl ?_
  refine St.seq fun K0 hK0 => ?_
  refine St.region ?_
  refine St.box rfl rfl ?_
  intro w5 b5 hb5 hs5 e5 k5
  have qE5 := E.size
  replace E := Ext.trans E e5
  refine St.r (R.assign rfl) rfl rfl ?_
  refine St.nil ?_
  refine St.weak [(1, _), (2, _), (3, _), (4, _), (5, _)] ⟨rfl, rfl, rfl, rfl, rfl, trivial⟩ ?_
  refine St.then_n ?_
  refine St.go hK0 ?_
  clear hK0
  refine St.seq fun K1 hK1 => ?_
  refine St.weak [(1, _), (2, _), (3, _), (4, _), (5, _)] ⟨rfl, rfl, rfl, rfl, rfl, trivial⟩ ?_
  refine St.drawT (S := fun k => k = wb ∨ k = mb ∨ fv.ownBlock = some k ∨ w0.heap.size ≤ k) (eff := [6, 7]) mixed rfl rfl rfl rfl ?_
  replace E := Ext.trans E (Ext.drew _)
  replace k5 := k5.ext (Ext.drew _)
  have hp7 := (E.cell h1)
  refine DrawT.pinL 0 rfl rfl Tryz.isAgg208 rfl hp7 ?_
  have hp8 := (E.cell h2)
  refine DrawT.pinL 1 rfl rfl Tryz.isAgg3 rfl hp8 ?_
  refine DrawT.quiet 2 rfl rfl (fun W eW => OpOk.r (R.add rfl rfl (by omega) (by omega)) rfl) ?_
  have hp10 := (E.cell h3)
  refine DrawT.pinL 3 rfl rfl Tryz.isAgg189 rfl hp10 ?_
  have hp11 := (E.cells h4)
  refine DrawT.pinA 4 rfl rfl Tryz.isAgg48 Tryz.sizeOf48 rfl hp11 rfl ?_
  have hp12 := k5.cells
  refine DrawT.pinA 5 rfl rfl Tryz.isAgg100 Tryz.sizeOf100 rfl hp12 rfl ?_
  refine DrawT.one (n := 6) [1, 0] rfl rfl rfl (by kernel_rfl) (OpC.plain (Eff.call rfl rfl ent187 (withA_ret _ (hm.ext E))) rfl) ?_ ?_
  · rintro r13 w13 ⟨m2, rfl, mm, hm2, e13⟩
    refine ⟨?_, ⟨e13.cell hp8, e13.cell hp7, trivial⟩⟩
    exact Chg.mono e13 fun _ _ h => h.elim
  rintro r13 w13 ⟨m2, rfl, mm, hm2, e13⟩
  replace hp8 := e13.cell hp8
  replace hp7 := e13.cell hp7
  replace E := Ext.trans E e13
  replace k5 := k5.ext e13
  have cE13 := E
  refine DrawT.one (n := 7) [] rfl rfl rfl (by kernel_rfl) (OpC.plain (Eff.call rfl rfl ent137 (hIH fv many looked found (withA a p t) m2 _ (hS.ext (REnc.firm _) E) (hP.ext (REnc.firm _) E) (h.ext E) hl hle mm (Nat.le_trans hB E.size))) rfl) ?_ ?_
  · rintro r14 w14 ⟨bb, rfl, hw14⟩
    refine ⟨?_, trivial⟩
    exact Chg.mono hw14.chg fun k _ h => by rcases h with h | h | h; exact .inl h; exact .inr (.inl h); exact .inr (.inr (.inl h))
  rintro r14 w14 ⟨bb, rfl, hw14⟩
  refine DrawT.quiet 8 rfl rfl (fun W eW => OpOk.r (R.not rfl) rfl) ?_
  refine DrawT.quiet 9 rfl rfl (fun W eW => OpOk.r (R.assign rfl) rfl) ?_
  refine DrawT.fin rfl ?_
  show St _ _ _ _ _
  refine St.weak [(6, _)] ⟨rfl, trivial⟩ ?_
  refine St.then_n ?_
  refine St.go hK1 ?_
  clear hK1
  refine St.ret ?_
  refine St.ret1 Tryz.results186 rfl ?_
  exact ⟨_, rfl, bb, rfl, hw14.lower E⟩


theorem head_over {many : List Nat} {d m : Nat} {cs : List Nat} (h : many[d]? = some m) (h5 : 500 < m + 1) : ¬ AllLe (addAt many d (1 :: cs)) := fun hall => by
  rw [addAt_cons h] at hall
  have hd := lt_of_get h
  have hm : m + 1 ∈ addAt (many.set d (m + 1)) (d + 1) cs := by
    unfold addAt
    refine List.mem_append_left _ ?_
    rw [take_snoc (x := m + 1) (by rw [List.getElem?_set_self hd])]
    simp
  have := hall _ hm
  omega
theorem counts_head (set : List Triple) (a : Ans) (rest : List Pat) : ∃ cs, counts set [a] rest = 1 :: cs := by
  cases rest with
  | nil => exact ⟨[], rfl⟩
  | cons p r => exact ⟨_, counts_one set a p r⟩
theorem sum_set {l : List Nat} {d m : Nat} (h : l[d]? = some m) : (l.set d (m + 1)).sum = l.sum + 1 := by
  induction l generalizing d with
  | nil => simp at h
  | cons x r ih =>
    cases d with
    | zero => have : x = m := by simpa using h
              subst this; simp; omega
    | succ d => have := ih (d := d) (by simpa using h); simp only [List.set_cons_succ, List.sum_cons]; omega


/-- The state of a walk over the triples that fit. -/
structure RunJ (set : List Triple) (parts : List Pat) (sv pv fv : Value) (B wb mb b3 b4 b5 b7 m d : Nat) (a : Ans) (bp : Pat) (lv : Value) (l : List Triple) (r : List Pat) (M : List Nat) (L : Nat) (found : List Ans) (w0 : World) (Z1 : Nat) (k : Nat) (W : World) : Prop where
  mem : ∃ fv' many' looked' found', WB B W wb mb sv pv fv' many' looked' found' ∧ many' = addAt M (d + 1) (counts set ((l.take k).map (withA a bp)) r) ∧ looked' = L + lookedN set ((l.take k).map (withA a bp)) r ∧ found' = found ++ levels set ((l.take k).map (withA a bp)) r ∧ AllLe many' ∧ ∀ x, fv'.ownBlock = some x → fv.ownBlock = some x ∨ Z1 ≤ x
  k3 : Blk W b3 208 [.pointer (some ⟨wb, 0, none⟩)]
  k4 : Blk W b4 3 [.int .i64 (d : Int)]
  k5 : Blk W b5 189 [.map (some m)]
  k7 : Blk W b7 48 (encPat bp)
  mA : MapB (fun s : ByteArray => Value.string s) vf44 W m a
  rL : RTriples W lv l
  rS : RTriples W sv set
  rP : RPats W pv parts
  chg : Chg (fun k => k = wb ∨ k = mb ∨ fv.ownBlock = some k) w0 W
  size : Z1 ≤ W.heap.size
structure RunZ (set : List Triple) (a : Ans) (p : Pat) (r : List Pat) (sv pv fv : Value) (B wb mb d : Nat) (many : List Nat) (w0 : World) (W : World) : Prop where
  over : ¬ AllLe (addAt many d (counts set [a] (p :: r)))
  chg : Chg (fun k => k = wb ∨ k = mb ∨ fv.ownBlock = some k) w0 W
  mem : ∃ fv' many' looked' found', WB B W wb mb sv pv fv' many' looked' found' ∧ ∀ x, fv'.ownBlock = some x → fv.ownBlock = some x ∨ w0.heap.size ≤ x
section
variable {set : List Triple} {parts : List Pat} {sv pv fv : Value} {B wb mb b3 b4 b5 b7 m d : Nat} {a : Ans} {p bp : Pat} {lv : Value} {l : List Triple} {r : List Pat} {M many : List Nat} {L looked : Nat} {found : List Ans} {w0 : World} {Z1 : Nat} {k : Nat} {W W' : World}
theorem RunJ.ext (h : RunJ set parts sv pv fv B wb mb b3 b4 b5 b7 m d a bp lv l r M L found w0 Z1 k W) (e : Ext W W') : RunJ set parts sv pv fv B wb mb b3 b4 b5 b7 m d a bp lv l r M L found w0 Z1 k W' := by
  obtain ⟨fv', many', looked', found', h1, h2⟩ := h.mem
  exact ⟨⟨fv', many', looked', found', h1.ext e, h2⟩, h.k3.ext e, h.k4.ext e, h.k5.ext e, h.k7.ext e, h.mA.ext e, h.rL.ext (REnc.firm _) e, h.rS.ext (REnc.firm _) e, h.rP.ext (REnc.firm _) e, h.chg.then e (fun _ _ h => h.elim), Nat.le_trans h.size e.size⟩
theorem RunZ.ext (h : RunZ set a p r sv pv fv B wb mb d many w0 W) (e : Ext W W') : RunZ set a p r sv pv fv B wb mb d many w0 W' := by
  obtain ⟨fv', many', looked', found', h1, h2⟩ := h.mem
  exact ⟨h.over, h.chg.then e (fun _ _ h => h.elim), fv', many', looked', found', h1.ext e, h2⟩
theorem RunZ.done {looked : Nat} {found : List Ans} (h : RunZ set a p r sv pv fv B wb mb d many w0 W) : WalkP B wb mb sv pv fv many looked found set a d (p :: r) w0 false W := by
  obtain ⟨fv', many', looked', found', h1, h2⟩ := h.mem
  exact ⟨(decide_eq_false h.over).symm, h.chg, fv', many', looked', found', h1, h2, fun h => by cases h⟩
theorem RunJ.start (h : WB B W wb mb sv pv fv M L found) (hle : AllLe M) (k3 : Blk W b3 208 [.pointer (some ⟨wb, 0, none⟩)]) (k4 : Blk W b4 3 [.int .i64 (d : Int)]) (k5 : Blk W b5 189 [.map (some m)]) (k7 : Blk W b7 48 (encPat bp)) (mA : MapB (fun s : ByteArray => Value.string s) vf44 W m a) (rL : RTriples W lv l) (rS : RTriples W sv set) (rP : RPats W pv parts)
    (chg : Chg (fun k => k = wb ∨ k = mb ∨ fv.ownBlock = some k) w0 W) (hlen : M.length ≤ r.length + 1 + (d + 1)) : RunJ set parts sv pv fv B wb mb b3 b4 b5 b7 m d a bp lv l r M L found w0 W.heap.size 0 W :=
  ⟨⟨fv, M, L, found, h, by rw [List.take_zero, List.map_nil, counts_nil, addAt_zero hlen], by rw [List.take_zero, List.map_nil]; unfold lookedN; rw [counts_nil]; simp, by rw [List.take_zero, List.map_nil, levels_nil, List.append_nil], hle, fun x hx => .inl hx⟩, k3, k4, k5, k7, mA, rL, rS, rP, chg, Nat.le_refl _⟩
theorem take_map {f : Triple → Ans} {x : Triple} (hx : l[k]? = some x) : (l.take (k + 1)).map f = (l.take k).map f ++ [f x] := by rw [take_snoc hx, List.map_append]; rfl
theorem RunJ.step {m0 : Nat} (hIH : WalkC set parts sv pv B wb mb (d + 1) r) (hm0 : many[d]? = some m0) (hM : M = many.set d (m0 + 1)) (hlen : many.length = parts.length + 1) (hd : d ≤ 6) (hrl : r.length + (d + 1) = parts.length) (hfl : ∀ k, fv.ownBlock = some k → k < w0.heap.size)
    (hsd : 0 < set.length → ∀ k, sv.ownBlock = some k → k < B) (hpd : 0 < parts.length → ∀ k, pv.ownBlock = some k → k < B) (hlow : B ≤ wb ∧ B ≤ mb) (hwb : wb < w0.heap.size) (hmb : mb < w0.heap.size) (h3 : w0.heap.size ≤ b3 ∧ b3 < Z1) (h4 : w0.heap.size ≤ b4 ∧ b4 < Z1) (h5 : w0.heap.size ≤ b5 ∧ b5 < Z1) (h7 : w0.heap.size ≤ b7 ∧ b7 < Z1) (hlv : ∀ x, lv.ownBlock = some x → w0.heap.size ≤ x ∧ x < Z1) (hz : w0.heap.size ≤ Z1) (hB : B ≤ w0.heap.size)
    (hl : l = ofL set (patA a p)) (hbp : bp = patA a p) {x : Triple} (hx : l[k]? = some x) (hJ : RunJ set parts sv pv fv B wb mb b3 b4 b5 b7 m d a bp lv l r M L found w0 Z1 k W) :
    Ret Tryz.prog 186 [.agg (encTriple x).toArray, .pointer (some ⟨b3, 0, none⟩), .pointer (some ⟨b4, 0, none⟩), .pointer (some ⟨b5, 0, none⟩), .pointer (some ⟨b7, 0, none⟩)] W fun r' W' => ∃ b, r' = .bool b ∧ (b = true → RunZ set a p r sv pv fv B wb mb d many w0 W') ∧ (b = false → RunJ set parts sv pv fv B wb mb b3 b4 b5 b7 m d a bp lv l r M L found w0 Z1 (k + 1) W') := by
  obtain ⟨fv', many', looked', found', h1, e1, e2, e3, hle, hnear⟩ := hJ.mem
  have hzW := hJ.size
  have hMl : M.length = parts.length + 1 := by rw [hM, List.length_set, hlen]
  have hml : many'.length = parts.length + 1 := by
    rw [e1, addAt_len (by rw [counts_len, hMl]; omega) (by omega), hMl]
  refine Ret.mono (walk1_ret (t := x) hIH (by omega) W hJ.rS hJ.rP h1 hml hle (by omega) (hJ.k3.cell 0 rfl) (hJ.k4.cell 0 rfl) (hJ.k5.cell 0 rfl) hJ.k7.cells hJ.mA) ?_
  rintro v W' ⟨b, rfl, hw⟩
  have htm := take_map (f := withA a bp) hx
  have hadd : addAt many' (d + 1) (counts set [withA a bp x] r) = addAt M (d + 1) (counts set ((l.take (k + 1)).map (withA a bp)) r) := by
    rw [e1, addAt_addAt (by omega), htm, counts_append]
  have hok := hw.ok
  rw [hadd] at hok
  have hS : ∀ j, j < w0.heap.size → (j = wb ∨ j = mb ∨ fv'.ownBlock = some j) → (j = wb ∨ j = mb ∨ fv.ownBlock = some j) := fun j hj h => by
    rcases h with h | h | h
    · exact .inl h
    · exact .inr (.inl h)
    · rcases hnear j h with h | h
      · exact .inr (.inr h)
      · omega
  have hC : Chg (fun k => k = wb ∨ k = mb ∨ fv.ownBlock = some k) w0 W' := hJ.chg.then hw.chg hS
  obtain ⟨fv2, many2, looked2, found2, g1, g2, g3⟩ := hw.mem
  refine ⟨!b, rfl, fun hb => ?_, fun hb => ?_⟩
  · have hbf : b = false := by cases b <;> simp at hb ⊢
    rw [hbf] at hok
    have hno := of_decide_eq_false hok.symm
    refine ⟨fun hall => ?_, hC, fv2, many2, looked2, found2, g1, fun y hy => ?_⟩
    · rw [counts_one, addAt_cons hm0, ← hM] at hall
      have hall' : AllLe (addAt M (d + 1) (counts set (l.map (withA a bp)) r)) := by rw [hl, hbp]; exact hall
      rw [← List.take_append_drop (k + 1) l, List.map_append, counts_append] at hall'
      exact over_more (by omega) (by rw [counts_len, counts_len]) hno hall'
    · rcases g2 y hy with h | h
      · rcases hnear y h with h | h
        · exact .inl h
        · exact .inr (by omega)
      · exact .inr (by omega)
  · have hbt : b = true := by cases b <;> simp at hb ⊢
    obtain ⟨q1, q2, q3⟩ := g3 hbt
    rw [hbt] at hok
    have hyes := of_decide_eq_true hok.symm
    have hn : ∀ j, w0.heap.size ≤ j → j < Z1 → ¬ (j = wb ∨ j = mb ∨ fv'.ownBlock = some j) := fun j h1 h2 h => by
      rcases h with h | h | h
      · omega
      · omega
      · rcases hnear j h with h | h
        · have := hfl j h; omega
        · omega
    have hm : ∀ j, j < B → ¬ (j = wb ∨ j = mb ∨ fv'.ownBlock = some j) := fun j h1' h => by
      rcases h with h | h | h
      · omega
      · omega
      · obtain ⟨bs, ho, _⟩ := h1.row
        have := (ho.base h).1; omega
    refine ⟨⟨fv2, many2, looked2, found2, g1, by rw [q1, hadd], by rw [q2, e2, htm, looked_append]; omega, by rw [q3, e3, htm, levels_append, List.append_assoc], by rw [q1, hadd]; exact hyes, fun y hy => ?_⟩, hJ.k3.chg hw.chg (hn _ h3.1 h3.2), hJ.k4.chg hw.chg (hn _ h4.1 h4.2), hJ.k5.chg hw.chg (hn _ h5.1 h5.2), hJ.k7.chg hw.chg (hn _ h7.1 h7.2), hJ.mA.chg hw.chg ?_, hJ.rL.chg hw.chg (fun _ j hj => hn j (hlv j hj).1 (hlv j hj).2), hJ.rS.chg hw.chg (fun h0 j hj => hm j (hsd h0 j hj)), hJ.rP.chg hw.chg (fun h0 j hj => hm j (hpd h0 j hj)), hC, Nat.le_trans hzW hw.chg.size⟩
    · rcases g2 y hy with h | h
      · exact hnear y h
      · exact .inr (by omega)
    · rintro (h | h | h)
      · subst h; exact mapOff hJ.mA h1.blk
      · subst h; exact mapOff hJ.mA h1.many_
      · obtain ⟨bs, ho, _⟩ := h1.row
        exact (ho.notMap hJ.mA.isMap h) rfl
theorem RunJ.done {m0 looked : Nat} (hJ : RunJ set parts sv pv fv B wb mb b3 b4 b5 b7 m d a bp lv l r M L found w0 Z1 l.length W) (hm0 : many[d]? = some m0) (hM : M = many.set d (m0 + 1)) (hL : L = looked + l.length) (hl : l = ofL set (patA a p)) (hbp : bp = patA a p) (hz : w0.heap.size ≤ Z1) : WalkP B wb mb sv pv fv many looked found set a d (p :: r) w0 true W := by
  obtain ⟨fv', many', looked', found', h1, e1, e2, e3, hle, hnear⟩ := hJ.mem
  have hst : (l.take l.length).map (withA a bp) = stepA set a p := by rw [List.take_length, hl, hbp]; rfl
  rw [hst] at e1 e2 e3
  have hadd : addAt many d (counts set [a] (p :: r)) = many' := by rw [counts_one, addAt_cons hm0, ← hM, e1]
  refine ⟨by rw [hadd]; exact (decide_eq_true hle).symm, hJ.chg, fv', many', looked', found', h1, fun y hy => (hnear y hy).imp id (Nat.le_trans hz), fun _ => ⟨hadd.symm, ?_, by rw [e3, levels_one]⟩⟩
  rw [e2, hL, looked_one, step_len, hl]; omega
end

set_option maxHeartbeats 4000000 in
set_option maxRecDepth 100000 in
theorem walk_step {set : List Triple} {parts : List Pat} {sv pv : Value} {B wb mb : Nat} {d : Nat} {rest : List Pat} (hrest : parts.drop d = rest) (hd : d + rest.length = parts.length) (hIH : ∀ p r, rest = p :: r → WalkC set parts sv pv B wb mb (d + 1) r) (hsl : set.length ≤ 200) (hpl : parts.length ≤ 6)
    (hsd : 0 < set.length → ∀ k, sv.ownBlock = some k → k < B) (hpd : 0 < parts.length → ∀ k, pv.ownBlock = some k → k < B) : WalkC set parts sv pv B wb mb d rest := by
  intro fv many looked found a m w0 hS hP h hl hle hm hB
  show Ret _ _ [_, _, _] _ _
  obtain ⟨kW, kM, ⟨bs, oF, qF⟩, hne, hlow, hfn, hlk, hfl0⟩ := h
  have hfl : ∀ k, fv.ownBlock = some k → k < w0.heap.size := fun k hk => (oF.base hk).2
  have yW := kW.lt
  have yM := kM.lt
  have rS := hS
  have rP := hP
  have mA := hm
  obtain ⟨SA, SC, rfl, -, -⟩ := rS.form
  obtain ⟨PA, PC, rfl, -, -⟩ := rP.form
  obtain ⟨FA, FC, rfl, -, -⟩ := oF.form
  obtain ⟨m0, hm0⟩ := get_of_lt (xs := many) (k := d) (by omega)
  have hm5 : m0 ≤ 500 := hle _ (List.mem_of_getElem? hm0)
  have hsum := hle.sum
  have hlb : looked ≤ 1000000 := by omega
  have hbl : bs.length ≤ 10000 := by have := qF.len; omega
  have cE := Chg.refl (fun k => k = wb ∨ k = mb ∨ (Value.slice FA bs.length FC).ownBlock = some k) w0
  obtain ⟨cs, hcs⟩ := counts_head set a rest
  refine St.enter (N := 71) Tryz.func137 rfl Tryz.ntmps137 rfl ?_
  refine St.seq fun K0 hK0 => ?_
  refine St.region ?_
  refine St.box rfl rfl ?_
  intro w3 b3 hb3 hs3 e3 k3
  replace kW := kW.ext e3
  replace kM := kM.ext e3
  replace oF := oF.ext e3
  replace qF := qF.ext e3
  replace mA := mA.ext e3
  replace rS := rS.ext (REnc.firm _) e3
  replace rP := rP.ext (REnc.firm _) e3
  replace cE := Chg.then cE e3 (fun _ _ h => h.elim)
  refine St.box rfl rfl ?_
  intro w4 b4 hb4 hs4 e4 k4
  replace kW := kW.ext e4
  replace kM := kM.ext e4
  replace oF := oF.ext e4
  replace qF := qF.ext e4
  replace mA := mA.ext e4
  replace rS := rS.ext (REnc.firm _) e4
  replace rP := rP.ext (REnc.firm _) e4
  replace cE := Chg.then cE e4 (fun _ _ h => h.elim)
  replace k3 := k3.ext e4
  refine St.box rfl rfl ?_
  intro w5 b5 hb5 hs5 e5 k5
  replace kW := kW.ext e5
  replace kM := kM.ext e5
  replace oF := oF.ext e5
  replace qF := qF.ext e5
  replace mA := mA.ext e5
  replace rS := rS.ext (REnc.firm _) e5
  replace rP := rP.ext (REnc.firm _) e5
  replace cE := Chg.then cE e5 (fun _ _ h => h.elim)
  replace k3 := k3.ext e5
  replace k4 := k4.ext e5
  refine St.r (R.assign rfl) rfl rfl ?_
  refine St.nil ?_
  refine St.weak [(3, _), (4, _), (5, _)] ⟨rfl, rfl, rfl, trivial⟩ ?_
  refine St.then_n ?_
  refine St.go hK0 ?_
  clear hK0
  refine St.seq fun K1 hK1 => ?_
  refine St.seq fun K2 hK2 => ?_
  refine St.weak [(3, _), (4, _), (5, _)] ⟨rfl, rfl, rfl, trivial⟩ ?_
  refine St.drawT (S := fun k => k = mb) (eff := [9]) mixed rfl rfl rfl rfl ?_
  replace kW := kW.ext (Ext.drew _)
  replace kM := kM.ext (Ext.drew _)
  replace oF := oF.ext (Ext.drew _)
  replace qF := qF.ext (Ext.drew _)
  replace mA := mA.ext (Ext.drew _)
  replace rS := rS.ext (REnc.firm _) (Ext.drew _)
  replace rP := rP.ext (REnc.firm _) (Ext.drew _)
  replace cE := Chg.then cE (Ext.drew _) (fun _ _ h => h.elim)
  replace k3 := k3.ext (Ext.drew _)
  replace k4 := k4.ext (Ext.drew _)
  replace k5 := k5.ext (Ext.drew _)
  have hp9 := (k3.cells.at 0 rfl)
  refine DrawT.pinL 0 rfl rfl Tryz.isAgg208 rfl hp9 ?_
  refine DrawT.quiet 1 rfl rfl (fun W eW => OpOk.r (R.nilOk rfl) rfl) ?_
  refine DrawT.quiet 2 rfl rfl (fun W eW => OpOk.r (R.fieldA Tryz.underlying210 rfl Tryz.sizeOf27 rfl rfl rfl) rfl) ?_
  have hp12 := (kW.cells.at 2 rfl)
  refine DrawT.pinL 3 rfl rfl Tryz.isAgg27 rfl hp12 ?_
  have hp13 := (k4.cells.at 0 rfl)
  refine DrawT.pinL 4 rfl rfl Tryz.isAgg3 rfl hp13 ?_
  refine DrawT.quiet 5 rfl rfl (fun W eW => OpOk.r (R.indexS d Tryz.underlying27 Tryz.sizeOf3 rfl rfl rfl (by omega)) rfl) ?_
  have hp15 := ((Blk.elem (sp := []) encNat_len (by rw [List.append_nil]; exact kM) hm0).at 0 rfl)
  refine DrawT.pinL 6 rfl rfl Tryz.isAgg3 rfl hp15 ?_
  refine DrawT.quiet 7 rfl rfl (fun W eW => OpOk.r (R.add rfl rfl (by omega) (by omega)) rfl) ?_
  refine DrawT.quiet 8 rfl rfl (fun W eW => OpOk.r (R.indexS d Tryz.underlying27 Tryz.sizeOf3 rfl rfl rfl (by omega)) rfl) ?_
  refine DrawT.one (n := 9) [] rfl rfl rfl (by kernel_rfl) (OpC.plain (Eff.store Tryz.sizeOf3 rfl rfl kM rfl (by rw [flat_length encNat_len]; simp [Value.cells]; omega) (by simp [Value.cells, Value.oneCell'])) rfl) ?_ ?_
  · rintro _ _ ⟨_, _, g, _⟩
    refine ⟨?_, trivial⟩
    exact g
  rintro _ ws0 ⟨rfl, ks0, gs0, zs0⟩
  replace kW := kW.chg gs0 (by omega)
  replace oF := oF.chg gs0 (fun k hk h => by have := hfn k hk; omega)
  replace qF := qF.chg gs0 (fun b' hb h => by subst h; exact qF.off hb kM)
  replace mA := mA.chg gs0 (fun h => by subst h; exact mapOff mA kM)
  replace rS := rS.chg gs0 (fun h0 k hk h => by have := hsd h0 k hk; omega)
  replace rP := rP.chg gs0 (fun h0 k hk h => by have := hpd h0 k hk; omega)
  replace cE := Chg.then cE gs0 (fun _ _ h => .inr (.inl h))
  replace k3 := k3.chg gs0 (by omega)
  replace k4 := k4.chg gs0 (by omega)
  replace k5 := k5.chg gs0 (by omega)
  clear kM; have kM := ks0; clear ks0
  have e3 := splice_flat encNat_len (sp := []) (x := m0 + 1) (show d < many.length by omega)
  rw [List.append_nil, List.append_nil, Nat.mul_one] at e3
  replace kM : Blk ws0 mb 3 (splice (many.flatMap encNat) (0 + d * 1) (encNat (m0 + 1))) := kM
  rw [Nat.zero_add, Nat.mul_one, e3] at kM
  have hm1 : (many.set d (m0 + 1))[d]? = some (m0 + 1) := List.getElem?_set_self (by omega)
  have hsm := sum_set hm0
  refine DrawT.fin rfl ?_
  show St _ _ _ _ _
  refine St.weak [(3, _), (4, _), (5, _)] ⟨rfl, rfl, rfl, trivial⟩ ?_
  refine St.then_n ?_
  refine St.go hK2 ?_
  clear hK2
  refine St.seq fun K3 hK3 => ?_
  refine St.weak [(3, _), (4, _), (5, _)] ⟨rfl, rfl, rfl, trivial⟩ ?_
  refine St.draw mixed rfl rfl rfl rfl ?_
  replace kW := kW.ext (Ext.drew _)
  replace kM := kM.ext (Ext.drew _)
  replace oF := oF.ext (Ext.drew _)
  replace qF := qF.ext (Ext.drew _)
  replace mA := mA.ext (Ext.drew _)
  replace rS := rS.ext (REnc.firm _) (Ext.drew _)
  replace rP := rP.ext (REnc.firm _) (Ext.drew _)
  replace cE := Chg.then cE (Ext.drew _) (fun _ _ h => h.elim)
  replace k3 := k3.ext (Ext.drew _)
  replace k4 := k4.ext (Ext.drew _)
  replace k5 := k5.ext (Ext.drew _)
  refine ⟨_, OpOk.r (R.load1 Tryz.isAgg208 rfl (k3.cells.at 0 rfl)) rfl, ?_⟩
  refine ⟨_, OpOk.r (R.nilOk rfl) rfl, ?_⟩
  refine ⟨_, OpOk.r (R.fieldA Tryz.underlying210 rfl Tryz.sizeOf27 rfl rfl rfl) rfl, ?_⟩
  refine ⟨_, OpOk.r (R.load1 Tryz.isAgg27 rfl (kW.cells.at 2 rfl)) rfl, ?_⟩
  refine ⟨_, OpOk.r (R.load1 Tryz.isAgg3 rfl (k4.cells.at 0 rfl)) rfl, ?_⟩
  refine ⟨_, OpOk.r (R.indexS d Tryz.underlying27 Tryz.sizeOf3 rfl rfl rfl (by omega)) rfl, ?_⟩
  refine ⟨_, OpOk.r (R.load1 Tryz.isAgg3 rfl ((Blk.elem (sp := []) encNat_len (by rw [List.append_nil]; exact kM) hm1).at 0 rfl)) rfl, ?_⟩
  refine ⟨_, OpOk.r (R.gtr rfl rfl) rfl, ?_⟩
  show St _ _ _ _ _
  refine St.weak [(3, _), (4, _), (5, _), (25, _)] ⟨rfl, rfl, rfl, rfl, trivial⟩ ?_
  refine St.then_n ?_
  refine St.go hK3 ?_
  clear hK3
  refine St.condD rfl (fun h25 => ?_) (fun h25 => ?_)
  ·
    refine St.seq fun K4 hK4 => ?_
    refine St.region ?_
    refine St.r (R.assign rfl) rfl rfl ?_
    refine St.nil ?_
    refine St.weak [(6, _)] ⟨rfl, trivial⟩ ?_
    refine St.then_n ?_
    refine St.go hK4 ?_
    clear hK4
    refine St.ret ?_
    refine St.then_r ?_
    refine St.ret1 Tryz.results137 rfl ?_
    exact ⟨_, rfl, false, rfl, ⟨by rw [hcs]; exact (decide_eq_false (head_over hm0 (by omega))).symm, cE, _, many.set d (m0 + 1), looked, found, ⟨by rw [List.length_set]; exact kW, kM, ⟨bs, oF, qF⟩, hne, hlow, hfn, by rw [hsm]; omega, by rw [hsm]; omega⟩, fun k hk => .inl hk, fun h => by cases h⟩⟩
  ·
    have hle1 : AllLe (many.set d (m0 + 1)) := hle.set (by omega)
    refine St.skip ?_
    refine St.then_n ?_
    refine St.go hK1 ?_
    clear hK1
    refine St.seq fun K5 hK5 => ?_
    refine St.seq fun K6 hK6 => ?_
    refine St.weak [(3, _), (4, _), (5, _)] ⟨rfl, rfl, rfl, trivial⟩ ?_
    refine St.draw mixed rfl rfl rfl rfl ?_
    replace kW := kW.ext (Ext.drew _)
    replace kM := kM.ext (Ext.drew _)
    replace oF := oF.ext (Ext.drew _)
    replace qF := qF.ext (Ext.drew _)
    replace mA := mA.ext (Ext.drew _)
    replace rS := rS.ext (REnc.firm _) (Ext.drew _)
    replace rP := rP.ext (REnc.firm _) (Ext.drew _)
    replace cE := Chg.then cE (Ext.drew _) (fun _ _ h => h.elim)
    replace k3 := k3.ext (Ext.drew _)
    replace k4 := k4.ext (Ext.drew _)
    replace k5 := k5.ext (Ext.drew _)
    refine ⟨_, OpOk.r (R.load1 Tryz.isAgg3 rfl (k4.cells.at 0 rfl)) rfl, ?_⟩
    refine ⟨_, OpOk.r (R.load1 Tryz.isAgg208 rfl (k3.cells.at 0 rfl)) rfl, ?_⟩
    refine ⟨_, OpOk.r (R.nilOk rfl) rfl, ?_⟩
    refine ⟨_, OpOk.r (R.fieldA Tryz.underlying210 rfl Tryz.sizeOf24 rfl rfl rfl) rfl, ?_⟩
    refine ⟨_, OpOk.r (R.load1 Tryz.isAgg24 rfl (kW.cells.at 1 rfl)) rfl, ?_⟩
    refine ⟨_, OpOk.r (R.lenSl Tryz.underlying24 rfl) rfl, ?_⟩
    refine ⟨_, OpOk.r (R.eql rfl rfl) rfl, ?_⟩
    show St _ _ _ _ _
    refine St.weak [(3, _), (4, _), (5, _), (32, _)] ⟨rfl, rfl, rfl, rfl, trivial⟩ ?_
    refine St.then_n ?_
    refine St.go hK6 ?_
    clear hK6
    refine St.condD rfl (fun h32 => ?_) (fun h32 => ?_)
    ·
      have hr0 : rest = [] := by rw [← hrest]; exact List.drop_of_length_le (by omega)
      subst hr0
      refine St.seq fun K7 hK7 => ?_
      refine St.weak [(3, _), (5, _)] ⟨rfl, rfl, trivial⟩ ?_
      refine St.drawT (S := fun k => k = wb ∨ (Value.slice FA bs.length FC).ownBlock = some k) (eff := [6, 7, 10]) mixed rfl rfl rfl rfl ?_
      replace kW := kW.ext (Ext.drew _)
      replace kM := kM.ext (Ext.drew _)
      replace oF := oF.ext (Ext.drew _)
      replace qF := qF.ext (Ext.drew _)
      replace mA := mA.ext (Ext.drew _)
      replace rS := rS.ext (REnc.firm _) (Ext.drew _)
      replace rP := rP.ext (REnc.firm _) (Ext.drew _)
      replace cE := Chg.then cE (Ext.drew _) (fun _ _ h => h.elim)
      replace k3 := k3.ext (Ext.drew _)
      replace k4 := k4.ext (Ext.drew _)
      replace k5 := k5.ext (Ext.drew _)
      have hp33 := (k3.cells.at 0 rfl)
      refine DrawT.pinL 0 rfl rfl Tryz.isAgg208 rfl hp33 ?_
      have hp34 := (k3.cells.at 0 rfl)
      refine DrawT.pinL 1 rfl rfl Tryz.isAgg208 rfl hp34 ?_
      refine DrawT.quiet 2 rfl rfl (fun W eW => OpOk.r (R.nilOk rfl) rfl) ?_
      refine DrawT.quiet 3 rfl rfl (fun W eW => OpOk.r (R.fieldA Tryz.underlying210 rfl Tryz.sizeOf122 rfl rfl rfl) rfl) ?_
      have hp37 := (kW.cells.at 4 rfl)
      refine DrawT.pinL 4 rfl rfl Tryz.isAgg122 rfl hp37 ?_
      have hp38 := (k5.cells.at 0 rfl)
      refine DrawT.pinL 5 rfl rfl Tryz.isAgg189 rfl hp38 ?_
      refine DrawT.one (n := 6) [4, 1, 0] rfl rfl rfl (by kernel_rfl) (OpC.plain (Eff.buildSl Tryz.underlying122 Tryz.sizeOf189 Tryz.zeroValue189 rfl rfl rfl rfl (by intro u hu; simp only [List.mem_cons, List.not_mem_nil, or_false] at hu; first | (subst hu; rfl) | (rcases hu with rfl | rfl <;> rfl) | (rcases hu with rfl | rfl | rfl <;> rfl))) rfl) ?_ ?_
      · rintro _ _ ⟨_, _, _, _, e, _⟩
        refine ⟨?_, ⟨e.cell hp37, e.cell hp34, e.cell hp33, trivial⟩⟩
        exact Chg.mono e (fun _ _ h => h.elim)
      rintro _ w39 ⟨b39, rfl, hb39, hs39, e39, k39⟩
      replace hp37 := e39.cell hp37
      replace hp34 := e39.cell hp34
      replace hp33 := e39.cell hp33
      replace kW := kW.ext e39
      replace kM := kM.ext e39
      replace oF := oF.ext e39
      replace qF := qF.ext e39
      replace mA := mA.ext e39
      replace rS := rS.ext (REnc.firm _) e39
      replace rP := rP.ext (REnc.firm _) e39
      replace cE := Chg.then cE e39 (fun _ _ h => h.elim)
      replace k3 := k3.ext e39
      replace k4 := k4.ext e39
      replace k5 := k5.ext e39
      have hsz39 := cE.size
      refine DrawT.one (n := 7) [0] rfl rfl rfl (by kernel_rfl) (OpC.plain (Eff.append (enc := encMp) (fun _ => rfl) one_mp Tryz.underlying122 info189 rfl rfl rfl rfl oF (RSl.mk (enc := encMp) (xs := [m]) encMp_len k39.cells (fun i u hu => hu) (by simp) (by simp)) (by simp; omega) (by simp; omega) (by have := cE.size; omega)) rfl) ?_ ?_
      · rintro _ _ ⟨_, g, _⟩
        refine ⟨?_, ⟨g.cell hp33 (fun hk => by have := hfl _ hk; dsimp only at this; omega), trivial⟩⟩
        exact Chg.mono g (fun k _ h => .inr h)
      rintro v40 w40 ⟨a40, g40, at40⟩
      replace hp33 := g40.cell hp33 (fun hk => by have := hfl _ hk; dsimp only at this; omega)
      replace kW := kW.chg g40 (fun hk => (hfn _ hk).1 rfl)
      replace kM := kM.chg g40 (fun hk => (hfn _ hk).2 rfl)
      replace qF := qF.chg g40 (fun b hb hk => (oF.notMap (qF.isMap hb) hk) rfl)
      replace mA := mA.chg g40 (fun hk => (oF.notMap mA.isMap hk) rfl)
      replace rS := rS.chg g40 (fun h0 k hk e => by have := hsd h0 k hk; have := (oF.base e).1; omega)
      replace rP := rP.chg g40 (fun h0 k hk e => by have := hpd h0 k hk; have := (oF.base e).1; omega)
      replace cE := Chg.then cE g40 (fun _ _ h => .inr (.inr h))
      replace k3 := k3.chg g40 (fun hk => by have := hfl _ hk; omega)
      replace k4 := k4.chg g40 (fun hk => by have := hfl _ hk; omega)
      replace k5 := k5.chg g40 (fun hk => by have := hfl _ hk; omega)
      clear oF; have oF := a40; clear a40
      have hsz40 := e39.size
      have hnear : ∀ k, v40.ownBlock = some k → (Value.slice FA bs.length FC).ownBlock = some k ∨ w0.heap.size ≤ k := fun k hk => by
        rcases at40 with e | e
        · exact .inl (e ▸ hk)
        · rw [e] at hk; injection hk with hk; exact .inr (by omega)
      have hfn2 : ∀ k, v40.ownBlock = some k → k ≠ wb ∧ k ≠ mb := fun k hk => by
        rcases hnear k hk with h | h
        · exact hfn k h
        · omega
      obtain ⟨FA2, FC2, rfl, -, -⟩ := oF.form
      refine DrawT.quiet 8 rfl rfl (fun W eW => OpOk.r (R.nilOk rfl) rfl) ?_
      refine DrawT.quiet 9 rfl rfl (fun W eW => OpOk.r (R.fieldA Tryz.underlying210 rfl Tryz.sizeOf122 rfl rfl rfl) rfl) ?_
      refine DrawT.one (n := 10) [] rfl rfl rfl (by kernel_rfl) (OpC.plain (Eff.store Tryz.sizeOf122 rfl rfl kW rfl (by simp [Value.cells]) (by simp [Value.cells, Value.oneCell'])) rfl) ?_ ?_
      · rintro _ _ ⟨_, _, g, _⟩
        refine ⟨?_, trivial⟩
        exact Chg.mono g fun k _ h => .inl h
      rintro _ ws1 ⟨rfl, ks1, gs1, zs1⟩
      replace kM := kM.chg gs1 (by omega)
      replace oF := oF.chg gs1 (fun k hk h => (hfn2 k hk).1 h)
      replace qF := qF.chg gs1 (fun b' hb h => by subst h; exact qF.off hb kW)
      replace mA := mA.chg gs1 (fun h => by subst h; exact mapOff mA kW)
      replace rS := rS.chg gs1 (fun h0 k hk h => by have := hsd h0 k hk; omega)
      replace rP := rP.chg gs1 (fun h0 k hk h => by have := hpd h0 k hk; omega)
      replace cE := Chg.then cE gs1 (fun _ _ h => .inl h)
      replace k3 := k3.chg gs1 (by omega)
      replace k4 := k4.chg gs1 (by omega)
      replace k5 := k5.chg gs1 (by omega)
      clear kW; have kW := ks1; clear ks1
      replace kW : Blk ws1 wb 210 [.slice SA set.length SC, .slice PA parts.length PC, .slice (some ⟨mb, 0, none⟩) many.length many.length, .int .i64 (looked : Int), .slice FA2 (bs ++ [m]).length FC2] := kW
      refine DrawT.fin rfl ?_
      show St _ _ _ _ _
      refine St.weak [] trivial ?_
      refine St.then_n ?_
      refine St.go hK7 ?_
      clear hK7
      refine St.seq fun K8 hK8 => ?_
      refine St.region ?_
      refine St.r (R.assign rfl) rfl rfl ?_
      refine St.nil ?_
      refine St.weak [(6, _)] ⟨rfl, trivial⟩ ?_
      refine St.then_n ?_
      refine St.go hK8 ?_
      clear hK8
      refine St.ret ?_
      refine St.then_r ?_
      refine St.ret1 Tryz.results137 rfl ?_
      have hadd : addAt many d (counts set [a] []) = many.set d (m0 + 1) := by
        show addAt many d [1] = _
        rw [addAt_cons hm0]; exact addAt_end (by rw [List.length_set]; simp at hd; omega)
      exact ⟨_, rfl, true, rfl, ⟨by rw [hadd]; exact (decide_eq_true hle1).symm, cE, _, many.set d (m0 + 1), looked, found ++ [a], ⟨by rw [List.length_set]; exact kW, kM, ⟨bs ++ [m], oF, qF.snoc mA⟩, hne, hlow, hfn2, by rw [hsm]; omega, by rw [hsm]; simp; omega⟩, hnear, fun _ => ⟨hadd.symm, rfl, rfl⟩⟩⟩
    ·
      obtain ⟨p, hp⟩ := get_of_lt (xs := parts) (k := d) (by omega)
      have hr : rest = p :: parts.drop (d + 1) := by rw [← hrest, drop_at hp]
      subst hr
      obtain ⟨pb, po, rfl, hpc⟩ := rP.get' hp
      have hIH := hIH p _ rfl
      have hll : (ofL set (patA a p)).length ≤ 200 := Nat.le_trans (List.length_filter_le _ _) hsl
      refine St.skip ?_
      refine St.then_n ?_
      refine St.go hK5 ?_
      clear hK5
      refine St.seq fun K9 hK9 => ?_
      refine St.weak [(3, _), (4, _), (5, _)] ⟨rfl, rfl, rfl, trivial⟩ ?_
      refine St.drawT (S := fun k => w0.heap.size ≤ k ∧ k ≠ b3 ∧ k ≠ b4 ∧ k ≠ b5) (eff := [8, 9, 10]) mixed rfl rfl rfl rfl ?_
      replace kW := kW.ext (Ext.drew _)
      replace kM := kM.ext (Ext.drew _)
      replace oF := oF.ext (Ext.drew _)
      replace qF := qF.ext (Ext.drew _)
      replace mA := mA.ext (Ext.drew _)
      replace rS := rS.ext (REnc.firm _) (Ext.drew _)
      replace rP := rP.ext (REnc.firm _) (Ext.drew _)
      replace cE := Chg.then cE (Ext.drew _) (fun _ _ h => h.elim)
      replace k3 := k3.ext (Ext.drew _)
      replace k4 := k4.ext (Ext.drew _)
      replace k5 := k5.ext (Ext.drew _)
      have hp43 := (k5.cells.at 0 rfl)
      refine DrawT.pinL 0 rfl rfl Tryz.isAgg189 rfl hp43 ?_
      have hp44 := (k3.cells.at 0 rfl)
      refine DrawT.pinL 1 rfl rfl Tryz.isAgg208 rfl hp44 ?_
      refine DrawT.quiet 2 rfl rfl (fun W eW => OpOk.r (R.nilOk rfl) rfl) ?_
      refine DrawT.quiet 3 rfl rfl (fun W eW => OpOk.r (R.fieldA Tryz.underlying210 rfl Tryz.sizeOf24 rfl rfl rfl) rfl) ?_
      have hp47 := (kW.cells.at 1 rfl)
      refine DrawT.pinL 4 rfl rfl Tryz.isAgg24 rfl hp47 ?_
      have hp48 := (k4.cells.at 0 rfl)
      refine DrawT.pinL 5 rfl rfl Tryz.isAgg3 rfl hp48 ?_
      refine DrawT.quiet 6 rfl rfl (fun W eW => OpOk.r (R.indexS d Tryz.underlying24 Tryz.sizeOf48 rfl rfl rfl (by omega)) rfl) ?_
      have hp50 := (rP.get hp)
      refine DrawT.pinA 7 rfl rfl Tryz.isAgg48 Tryz.sizeOf48 rfl hp50 rfl ?_
      have y3a := k3.lt
      have y4a := k4.lt
      have y5a := k5.lt
      have yc := cE.size
      refine DrawT.many (ns := [8, 9]) rfl rfl rfl ⟨⟨_, _, [], rfl, (by kernel_rfl), OpC.plain (Eff.call rfl rfl ent123 (patA_ret _ mA)) rfl, ?_, ?_⟩, ⟨_, _, [7, 5, 4, 1, 0], rfl, (by kernel_rfl), OpC.plain (Eff.alloc Tryz.zeroValue48) rfl, ?_, ?_⟩, trivial⟩
      · rintro r51 w51 ⟨rfl, e51⟩
        refine ⟨?_, trivial⟩
        exact Chg.mono e51 fun _ _ h => h.elim
      · rintro r51 w51 ⟨rfl, e51⟩
        replace kW := kW.ext e51
        replace kM := kM.ext e51
        replace oF := oF.ext e51
        replace qF := qF.ext e51
        replace mA := mA.ext e51
        replace rS := rS.ext (REnc.firm _) e51
        replace rP := rP.ext (REnc.firm _) e51
        replace cE := Chg.then cE e51 (fun _ _ h => h.elim)
        replace k3 := k3.ext e51
        replace k4 := k4.ext e51
        replace k5 := k5.ext e51
        have y3a := k3.lt
        have y4a := k4.lt
        have y5a := k5.lt
        have yc := cE.size
        refine DrawT.one (n := 9) [] rfl rfl rfl (by kernel_rfl) (OpC.plain (Eff.alloc Tryz.zeroValue48) rfl) ?_ ?_
        · rintro _ _ ⟨_, _, _, _, e, _⟩
          refine ⟨?_, trivial⟩
          exact Chg.mono e (fun _ _ h => h.elim)
        rintro _ w7 ⟨b7, rfl, hb7, hs7, e7, k7⟩
        replace kW := kW.ext e7
        replace kM := kM.ext e7
        replace oF := oF.ext e7
        replace qF := qF.ext e7
        replace mA := mA.ext e7
        replace rS := rS.ext (REnc.firm _) e7
        replace rP := rP.ext (REnc.firm _) e7
        replace cE := Chg.then cE e7 (fun _ _ h => h.elim)
        replace k3 := k3.ext e7
        replace k4 := k4.ext e7
        replace k5 := k5.ext e7
        refine DrawT.one (n := 10) [] rfl rfl rfl (by kernel_rfl) (OpC.plain (Eff.store Tryz.sizeOf48 rfl rfl k7 rfl (by simp [Value.cells, encPat, encSlot, encTerm]) (one_pat (patA a p))) rfl) ?_ ?_
        · rintro _ _ ⟨_, _, g, _⟩
          refine ⟨?_, trivial⟩
          exact Chg.mono g fun k _ h => by subst h; omega
        rintro _ ws2 ⟨rfl, ks2, gs2, zs2⟩
        replace kW := kW.chg gs2 (by omega)
        replace kM := kM.chg gs2 (by omega)
        replace oF := oF.chg gs2 (fun k hk h => by have := hfl k hk; omega)
        replace qF := qF.chg gs2 (fun b' hb h => by subst h; exact qF.off hb k7)
        replace mA := mA.chg gs2 (fun h => by subst h; exact mapOff mA k7)
        replace rS := rS.chg gs2 (fun h0 k hk h => by have := hsd h0 k hk; omega)
        replace rP := rP.chg gs2 (fun h0 k hk h => by have := hpd h0 k hk; omega)
        replace cE := Chg.then cE gs2 (fun j hj h => by omega)
        replace k3 := k3.chg gs2 (by omega)
        replace k4 := k4.chg gs2 (by omega)
        replace k5 := k5.chg gs2 (by omega)
        clear k7; have k7 := ks2; clear ks2
        replace k7 : Blk ws2 b7 48 (encPat (patA a p)) := k7
        refine DrawT.fin rfl ?_
        show St _ _ _ _ _
        refine St.weak [(3, _), (4, _), (5, _), (7, _)] ⟨rfl, rfl, rfl, rfl, trivial⟩ ?_
        refine St.then_n ?_
        refine St.go hK9 ?_
        clear hK9
        refine St.seq fun K10 hK10 => ?_
        refine St.weak [(3, _), (4, _), (5, _), (7, _)] ⟨rfl, rfl, rfl, rfl, trivial⟩ ?_
        refine St.drawT (S := fun _ => False) (eff := [5]) mixed rfl rfl rfl rfl ?_
        replace kW := kW.ext (Ext.drew _)
        replace kM := kM.ext (Ext.drew _)
        replace oF := oF.ext (Ext.drew _)
        replace qF := qF.ext (Ext.drew _)
        replace mA := mA.ext (Ext.drew _)
        replace rS := rS.ext (REnc.firm _) (Ext.drew _)
        replace rP := rP.ext (REnc.firm _) (Ext.drew _)
        replace cE := Chg.then cE (Ext.drew _) (fun _ _ h => h.elim)
        replace k3 := k3.ext (Ext.drew _)
        replace k4 := k4.ext (Ext.drew _)
        replace k5 := k5.ext (Ext.drew _)
        replace k7 := k7.ext (Ext.drew _)
        refine DrawT.quiet 0 rfl rfl (fun W eW => OpOk.r (R.load1 Tryz.isAgg208 rfl ((k3.ext eW).cells.at 0 rfl)) rfl) ?_
        refine DrawT.quiet 1 rfl rfl (fun W eW => OpOk.r (R.nilOk rfl) rfl) ?_
        refine DrawT.quiet 2 rfl rfl (fun W eW => OpOk.r (R.fieldA Tryz.underlying210 rfl Tryz.sizeOf22 rfl rfl rfl) rfl) ?_
        refine DrawT.quiet 3 rfl rfl (fun W eW => OpOk.r (R.load1 Tryz.isAgg22 rfl ((kW.ext eW).cells.at 0 rfl)) rfl) ?_
        refine DrawT.quiet 4 rfl rfl (fun W eW => OpOk.r (R.loadA Tryz.isAgg48 Tryz.sizeOf48 rfl (k7.ext eW).cells rfl) rfl) ?_
        have yc57 := cE.size
        have y7a := k7.lt
        refine DrawT.one (n := 5) [] rfl rfl rfl (by kernel_rfl) (OpC.plain (Eff.call rfl rfl ent62 (mOf_ret _ rS (by omega))) rfl) ?_ ?_
        · rintro r57 w57 ⟨o57, e57⟩
          refine ⟨?_, trivial⟩
          exact e57
        rintro r57 w57 ⟨o57, e57⟩
        replace kW := kW.ext e57
        replace kM := kM.ext e57
        replace oF := oF.ext e57
        replace qF := qF.ext e57
        replace mA := mA.ext e57
        replace rS := rS.ext (REnc.firm _) e57
        replace rP := rP.ext (REnc.firm _) e57
        replace cE := Chg.then cE e57 (fun _ _ h => h.elim)
        replace k3 := k3.ext e57
        replace k4 := k4.ext e57
        replace k5 := k5.ext e57
        replace k7 := k7.ext e57
        have hb57 := fun k hk => (o57.base (k := k) hk).1
        obtain ⟨LA, LC, rfl, -, -⟩ := o57.form
        refine DrawT.quiet 6 rfl rfl (fun W eW => OpOk.r (R.assign rfl) rfl) ?_
        refine DrawT.fin rfl ?_
        show St _ _ _ _ _
        refine St.weak [(3, _), (4, _), (5, _), (7, _), (8, _)] ⟨rfl, rfl, rfl, rfl, rfl, trivial⟩ ?_
        refine St.then_n ?_
        refine St.go hK10 ?_
        clear hK10
        refine St.seq fun K11 hK11 => ?_
        refine St.region ?_
        refine St.r (R.load1 Tryz.isAgg208 rfl (k3.cells.at 0 rfl)) rfl rfl ?_
        refine St.r (R.nilOk rfl) rfl rfl ?_
        refine St.r (R.fieldA Tryz.underlying210 rfl Tryz.sizeOf3 rfl rfl rfl) rfl rfl ?_
        refine St.r (R.load1 Tryz.isAgg3 rfl (kW.cells.at 3 rfl)) rfl rfl ?_
        refine St.r (R.move rfl) rfl rfl ?_
        refine St.r (R.lenSl Tryz.underlying22 rfl) rfl rfl ?_
        refine St.r (R.add rfl rfl (by omega) (by omega)) rfl rfl ?_
        refine St.r (R.nilOk rfl) rfl rfl ?_
        refine St.r (R.fieldA Tryz.underlying210 rfl Tryz.sizeOf3 rfl rfl rfl) rfl rfl ?_
        refine St.store Tryz.sizeOf3 rfl rfl kW rfl (by simp [Value.cells]) (by simp [Value.cells, Value.oneCell']) ?_
        intro ws3 ks3 gs3 zs3
        replace kM := kM.chg gs3 (by omega)
        replace oF := oF.chg gs3 (fun k hk h => by have := hfn k hk; omega)
        replace qF := qF.chg gs3 (fun b' hb h => by subst h; exact qF.off hb kW)
        replace mA := mA.chg gs3 (fun h => by subst h; exact mapOff mA kW)
        replace rS := rS.chg gs3 (fun h0 k hk h => by have := hsd h0 k hk; omega)
        replace rP := rP.chg gs3 (fun h0 k hk h => by have := hpd h0 k hk; omega)
        replace cE := Chg.then cE gs3 (fun _ _ h => .inl h)
        replace k3 := k3.chg gs3 (by omega)
        replace k4 := k4.chg gs3 (by omega)
        replace k5 := k5.chg gs3 (by omega)
        replace k7 := k7.chg gs3 (by omega)
        replace o57 := o57.chg gs3 (fun k hk h => by have := hb57 k hk; omega)
        clear kW; have kW := ks3; clear ks3
        replace kW : Blk ws3 wb 210 [.slice SA set.length SC, .slice (some ⟨pb, po, none⟩) parts.length PC, .slice (some ⟨mb, 0, none⟩) many.length many.length, .int .i64 ((looked + (ofL set (patA a p)).length : Nat) : Int), .slice FA bs.length FC] := kW
        have hz1 := cE.size
        have hl57 := fun k hk => (o57.base (k := k) hk).2
        have y3b := k3.lt
        have y4b := k4.lt
        have y5b := k5.lt
        have y7b := k7.lt
        refine St.nil ?_
        refine St.weak [(3, _), (4, _), (5, _), (7, _), (8, _)] ⟨rfl, rfl, rfl, rfl, rfl, trivial⟩ ?_
        refine St.then_n ?_
        refine St.go hK11 ?_
        clear hK11
        refine St.seq fun K12 hK12 => ?_
        refine St.region ?_
        refine St.r (R.move rfl) rfl rfl ?_
        refine St.r (R.fn rfl rfl) rfl rfl ?_
        refine St.call rfl rfl ent185 (tri_ContainsFuncJ (J := RunJ set parts (.slice SA set.length SC) (.slice (some ⟨pb, po, none⟩) parts.length PC) (.slice FA bs.length FC) B wb mb b3 b4 b5 b7 m d a (patA a p) (.slice LA (ofL set (patA a p)).length LC) (ofL set (patA a p)) (parts.drop (d + 1)) (many.set d (m0 + 1)) (looked + (ofL set (patA a p)).length) found w0 ws3.heap.size) (Z := RunZ set a p (parts.drop (d + 1)) (.slice SA set.length SC) (.slice (some ⟨pb, po, none⟩) parts.length PC) (.slice FA bs.length FC) B wb mb d many w0) _
          (RunJ.start ⟨by rw [List.length_set]; exact kW, kM, ⟨bs, oF, qF⟩, hne, hlow, hfn, by rw [hsm]; omega, by rw [hsm]; omega⟩ hle1 k3 k4 k5 k7 mA (o57.reads encTriple_len) rS rP cE (by rw [List.length_set, List.length_drop]; omega)) (fun k W W' h e => h.ext e) (fun W W' h e => h.ext e) (fun k W h => h.rL) ent186
          (fun k x W hx hJ => RunJ.step hIH hm0 rfl hl (by omega) (by rw [List.length_drop]; omega) hfl hsd hpd hlow yW yM ⟨by omega, by omega⟩ ⟨by omega, by omega⟩ ⟨by omega, by omega⟩ ⟨by omega, by omega⟩ (fun x hx => ⟨Nat.le_trans yc57 (hb57 x hx), hl57 x hx⟩) (by omega) hB rfl rfl hx hJ)) rfl ?_
        rintro r69 w69 ⟨b69, rfl, hz69, hj69⟩
        refine St.r (R.not rfl) rfl rfl ?_
        refine St.r (R.assign rfl) rfl rfl ?_
        refine St.nil ?_
        refine St.weak [(6, _)] ⟨rfl, trivial⟩ ?_
        refine St.then_n ?_
        refine St.go hK12 ?_
        clear hK12
        refine St.ret ?_
        refine St.ret1 Tryz.results137 rfl ?_
        cases b69 with
        | true => exact ⟨_, rfl, false, rfl, (hz69 rfl).done⟩
        | false => exact ⟨_, rfl, true, rfl, (hj69 rfl).done hm0 rfl rfl rfl rfl hz1⟩
      · rintro _ _ ⟨_, _, _, _, e, _⟩
        refine ⟨?_, ⟨e.cells hp50, e.cell hp48, e.cell hp47, e.cell hp44, e.cell hp43, trivial⟩⟩
        exact Chg.mono e (fun _ _ h => h.elim)
      · rintro _ w7 ⟨b7, rfl, hb7, hs7, e7, k7⟩
        replace hp50 := e7.cells hp50
        replace hp48 := e7.cell hp48
        replace hp47 := e7.cell hp47
        replace hp44 := e7.cell hp44
        replace hp43 := e7.cell hp43
        replace kW := kW.ext e7
        replace kM := kM.ext e7
        replace oF := oF.ext e7
        replace qF := qF.ext e7
        replace mA := mA.ext e7
        replace rS := rS.ext (REnc.firm _) e7
        replace rP := rP.ext (REnc.firm _) e7
        replace cE := Chg.then cE e7 (fun _ _ h => h.elim)
        replace k3 := k3.ext e7
        replace k4 := k4.ext e7
        replace k5 := k5.ext e7
        refine DrawT.one (n := 8) [] rfl rfl rfl (by kernel_rfl) (OpC.plain (Eff.call rfl rfl ent123 (patA_ret _ mA)) rfl) ?_ ?_
        · rintro r51 w51 ⟨rfl, e51⟩
          refine ⟨?_, trivial⟩
          exact Chg.mono e51 fun _ _ h => h.elim
        rintro r51 w51 ⟨rfl, e51⟩
        replace kW := kW.ext e51
        replace kM := kM.ext e51
        replace oF := oF.ext e51
        replace qF := qF.ext e51
        replace mA := mA.ext e51
        replace rS := rS.ext (REnc.firm _) e51
        replace rP := rP.ext (REnc.firm _) e51
        replace cE := Chg.then cE e51 (fun _ _ h => h.elim)
        replace k3 := k3.ext e51
        replace k4 := k4.ext e51
        replace k5 := k5.ext e51
        replace k7 := k7.ext e51
        refine DrawT.one (n := 10) [] rfl rfl rfl (by kernel_rfl) (OpC.plain (Eff.store Tryz.sizeOf48 rfl rfl k7 rfl (by simp [Value.cells, encPat, encSlot, encTerm]) (one_pat (patA a p))) rfl) ?_ ?_
        · rintro _ _ ⟨_, _, g, _⟩
          refine ⟨?_, trivial⟩
          exact Chg.mono g fun k _ h => by subst h; omega
        rintro _ ws2 ⟨rfl, ks2, gs2, zs2⟩
        replace kW := kW.chg gs2 (by omega)
        replace kM := kM.chg gs2 (by omega)
        replace oF := oF.chg gs2 (fun k hk h => by have := hfl k hk; omega)
        replace qF := qF.chg gs2 (fun b' hb h => by subst h; exact qF.off hb k7)
        replace mA := mA.chg gs2 (fun h => by subst h; exact mapOff mA k7)
        replace rS := rS.chg gs2 (fun h0 k hk h => by have := hsd h0 k hk; omega)
        replace rP := rP.chg gs2 (fun h0 k hk h => by have := hpd h0 k hk; omega)
        replace cE := Chg.then cE gs2 (fun j hj h => by omega)
        replace k3 := k3.chg gs2 (by omega)
        replace k4 := k4.chg gs2 (by omega)
        replace k5 := k5.chg gs2 (by omega)
        clear k7; have k7 := ks2; clear ks2
        replace k7 : Blk ws2 b7 48 (encPat (patA a p)) := k7
        refine DrawT.fin rfl ?_
        show St _ _ _ _ _
        refine St.weak [(3, _), (4, _), (5, _), (7, _)] ⟨rfl, rfl, rfl, rfl, trivial⟩ ?_
        refine St.then_n ?_
        refine St.go hK9 ?_
        clear hK9
        refine St.seq fun K13 hK13 => ?_
        refine St.weak [(3, _), (4, _), (5, _), (7, _)] ⟨rfl, rfl, rfl, rfl, trivial⟩ ?_
        refine St.drawT (S := fun _ => False) (eff := [5]) mixed rfl rfl rfl rfl ?_
        replace kW := kW.ext (Ext.drew _)
        replace kM := kM.ext (Ext.drew _)
        replace oF := oF.ext (Ext.drew _)
        replace qF := qF.ext (Ext.drew _)
        replace mA := mA.ext (Ext.drew _)
        replace rS := rS.ext (REnc.firm _) (Ext.drew _)
        replace rP := rP.ext (REnc.firm _) (Ext.drew _)
        replace cE := Chg.then cE (Ext.drew _) (fun _ _ h => h.elim)
        replace k3 := k3.ext (Ext.drew _)
        replace k4 := k4.ext (Ext.drew _)
        replace k5 := k5.ext (Ext.drew _)
        replace k7 := k7.ext (Ext.drew _)
        refine DrawT.quiet 0 rfl rfl (fun W eW => OpOk.r (R.load1 Tryz.isAgg208 rfl ((k3.ext eW).cells.at 0 rfl)) rfl) ?_
        refine DrawT.quiet 1 rfl rfl (fun W eW => OpOk.r (R.nilOk rfl) rfl) ?_
        refine DrawT.quiet 2 rfl rfl (fun W eW => OpOk.r (R.fieldA Tryz.underlying210 rfl Tryz.sizeOf22 rfl rfl rfl) rfl) ?_
        refine DrawT.quiet 3 rfl rfl (fun W eW => OpOk.r (R.load1 Tryz.isAgg22 rfl ((kW.ext eW).cells.at 0 rfl)) rfl) ?_
        refine DrawT.quiet 4 rfl rfl (fun W eW => OpOk.r (R.loadA Tryz.isAgg48 Tryz.sizeOf48 rfl (k7.ext eW).cells rfl) rfl) ?_
        have yc57 := cE.size
        have y7a := k7.lt
        refine DrawT.one (n := 5) [] rfl rfl rfl (by kernel_rfl) (OpC.plain (Eff.call rfl rfl ent62 (mOf_ret _ rS (by omega))) rfl) ?_ ?_
        · rintro r57 w57 ⟨o57, e57⟩
          refine ⟨?_, trivial⟩
          exact e57
        rintro r57 w57 ⟨o57, e57⟩
        replace kW := kW.ext e57
        replace kM := kM.ext e57
        replace oF := oF.ext e57
        replace qF := qF.ext e57
        replace mA := mA.ext e57
        replace rS := rS.ext (REnc.firm _) e57
        replace rP := rP.ext (REnc.firm _) e57
        replace cE := Chg.then cE e57 (fun _ _ h => h.elim)
        replace k3 := k3.ext e57
        replace k4 := k4.ext e57
        replace k5 := k5.ext e57
        replace k7 := k7.ext e57
        have hb57 := fun k hk => (o57.base (k := k) hk).1
        obtain ⟨LA, LC, rfl, -, -⟩ := o57.form
        refine DrawT.quiet 6 rfl rfl (fun W eW => OpOk.r (R.assign rfl) rfl) ?_
        refine DrawT.fin rfl ?_
        show St _ _ _ _ _
        refine St.weak [(3, _), (4, _), (5, _), (7, _), (8, _)] ⟨rfl, rfl, rfl, rfl, rfl, trivial⟩ ?_
        refine St.then_n ?_
        refine St.go hK13 ?_
        clear hK13
        refine St.seq fun K14 hK14 => ?_
        refine St.region ?_
        refine St.r (R.load1 Tryz.isAgg208 rfl (k3.cells.at 0 rfl)) rfl rfl ?_
        refine St.r (R.nilOk rfl) rfl rfl ?_
        refine St.r (R.fieldA Tryz.underlying210 rfl Tryz.sizeOf3 rfl rfl rfl) rfl rfl ?_
        refine St.r (R.load1 Tryz.isAgg3 rfl (kW.cells.at 3 rfl)) rfl rfl ?_
        refine St.r (R.move rfl) rfl rfl ?_
        refine St.r (R.lenSl Tryz.underlying22 rfl) rfl rfl ?_
        refine St.r (R.add rfl rfl (by omega) (by omega)) rfl rfl ?_
        refine St.r (R.nilOk rfl) rfl rfl ?_
        refine St.r (R.fieldA Tryz.underlying210 rfl Tryz.sizeOf3 rfl rfl rfl) rfl rfl ?_
        refine St.store Tryz.sizeOf3 rfl rfl kW rfl (by simp [Value.cells]) (by simp [Value.cells, Value.oneCell']) ?_
        intro ws3 ks3 gs3 zs3
        replace kM := kM.chg gs3 (by omega)
        replace oF := oF.chg gs3 (fun k hk h => by have := hfn k hk; omega)
        replace qF := qF.chg gs3 (fun b' hb h => by subst h; exact qF.off hb kW)
        replace mA := mA.chg gs3 (fun h => by subst h; exact mapOff mA kW)
        replace rS := rS.chg gs3 (fun h0 k hk h => by have := hsd h0 k hk; omega)
        replace rP := rP.chg gs3 (fun h0 k hk h => by have := hpd h0 k hk; omega)
        replace cE := Chg.then cE gs3 (fun _ _ h => .inl h)
        replace k3 := k3.chg gs3 (by omega)
        replace k4 := k4.chg gs3 (by omega)
        replace k5 := k5.chg gs3 (by omega)
        replace k7 := k7.chg gs3 (by omega)
        replace o57 := o57.chg gs3 (fun k hk h => by have := hb57 k hk; omega)
        clear kW; have kW := ks3; clear ks3
        replace kW : Blk ws3 wb 210 [.slice SA set.length SC, .slice (some ⟨pb, po, none⟩) parts.length PC, .slice (some ⟨mb, 0, none⟩) many.length many.length, .int .i64 ((looked + (ofL set (patA a p)).length : Nat) : Int), .slice FA bs.length FC] := kW
        have hz1 := cE.size
        have hl57 := fun k hk => (o57.base (k := k) hk).2
        have y3b := k3.lt
        have y4b := k4.lt
        have y5b := k5.lt
        have y7b := k7.lt
        refine St.nil ?_
        refine St.weak [(3, _), (4, _), (5, _), (7, _), (8, _)] ⟨rfl, rfl, rfl, rfl, rfl, trivial⟩ ?_
        refine St.then_n ?_
        refine St.go hK14 ?_
        clear hK14
        refine St.seq fun K15 hK15 => ?_
        refine St.region ?_
        refine St.r (R.move rfl) rfl rfl ?_
        refine St.r (R.fn rfl rfl) rfl rfl ?_
        refine St.call rfl rfl ent185 (tri_ContainsFuncJ (J := RunJ set parts (.slice SA set.length SC) (.slice (some ⟨pb, po, none⟩) parts.length PC) (.slice FA bs.length FC) B wb mb b3 b4 b5 b7 m d a (patA a p) (.slice LA (ofL set (patA a p)).length LC) (ofL set (patA a p)) (parts.drop (d + 1)) (many.set d (m0 + 1)) (looked + (ofL set (patA a p)).length) found w0 ws3.heap.size) (Z := RunZ set a p (parts.drop (d + 1)) (.slice SA set.length SC) (.slice (some ⟨pb, po, none⟩) parts.length PC) (.slice FA bs.length FC) B wb mb d many w0) _
          (RunJ.start ⟨by rw [List.length_set]; exact kW, kM, ⟨bs, oF, qF⟩, hne, hlow, hfn, by rw [hsm]; omega, by rw [hsm]; omega⟩ hle1 k3 k4 k5 k7 mA (o57.reads encTriple_len) rS rP cE (by rw [List.length_set, List.length_drop]; omega)) (fun k W W' h e => h.ext e) (fun W W' h e => h.ext e) (fun k W h => h.rL) ent186
          (fun k x W hx hJ => RunJ.step hIH hm0 rfl hl (by omega) (by rw [List.length_drop]; omega) hfl hsd hpd hlow yW yM ⟨by omega, by omega⟩ ⟨by omega, by omega⟩ ⟨by omega, by omega⟩ ⟨by omega, by omega⟩ (fun x hx => ⟨Nat.le_trans yc57 (hb57 x hx), hl57 x hx⟩) (by omega) hB rfl rfl hx hJ)) rfl ?_
        rintro r69 w69 ⟨b69, rfl, hz69, hj69⟩
        refine St.r (R.not rfl) rfl rfl ?_
        refine St.r (R.assign rfl) rfl rfl ?_
        refine St.nil ?_
        refine St.weak [(6, _)] ⟨rfl, trivial⟩ ?_
        refine St.then_n ?_
        refine St.go hK15 ?_
        clear hK15
        refine St.ret ?_
        refine St.ret1 Tryz.results137 rfl ?_
        cases b69 with
        | true => exact ⟨_, rfl, false, rfl, (hz69 rfl).done⟩
        | false => exact ⟨_, rfl, true, rfl, (hj69 rfl).done hm0 rfl rfl rfl rfl hz1⟩


theorem walk_all {set : List Triple} {parts : List Pat} {sv pv : Value} {B wb mb : Nat} (hsl : set.length ≤ 200) (hpl : parts.length ≤ 6) (hsd : 0 < set.length → ∀ k, sv.ownBlock = some k → k < B) (hpd : 0 < parts.length → ∀ k, pv.ownBlock = some k → k < B) : ∀ (rest : List Pat) (d : Nat), parts.drop d = rest → d + rest.length = parts.length → WalkC set parts sv pv B wb mb d rest
  | [], d, h, hl => walk_step h hl (fun p r e => by cases e) hsl hpl hsd hpd
  | p :: r, d, h, hl => walk_step h hl (fun p' r' e => by
      injection e with e1 e2
      subst e1 e2
      refine walk_all hsl hpl hsd hpd r (d + 1) ?_ (by rw [List.length_cons] at hl; omega)
      have : parts.drop (d + 1) = (parts.drop d).drop 1 := by rw [List.drop_drop]
      rw [this, h]; rfl) hsl hpl hsd hpd

end Go.Proofs.YtjgcmpondbocfaaGreatDoor

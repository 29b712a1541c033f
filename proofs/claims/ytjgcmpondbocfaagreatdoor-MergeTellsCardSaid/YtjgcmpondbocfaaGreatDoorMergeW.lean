/- What the functions of package merge come to, each walked once. Under the reading of the arguments. -/
import Derived.Test.YtjgcmpondbocfaaGreatDoorProg
import Derived.Test.YtjgcmpondbocfaaGreatDoorSetW
import Derived.Test.YtjgcmpondbocfaaGreatDoorSortK
import Derived.Test.YtjgcmpondbocfaaGreatDoorMergePure
import Derived.Test.YtjgcmpondbocfaaGreatDoorIter
import Derived.Test.YtjgcmpondbocfaaGreatDoorSeq
namespace Go.Proofs.YtjgcmpondbocfaaGreatDoor
open Go.RowKit Go.MapKept
theorem places176 : ∀ fs, Tryz.prog.underlying 176 = some (.struct fs) → Places Tryz.prog fs [(0, 3), (3, 3)] := by
  intro fs h
  rw [Tryz.underlying176] at h
  cases h
  intro w
  simp [go_sem, Tryz.sizeOf44]

theorem part_term2 (off : Nat) (xs : Array Value) (t : Term) (h : xs.extract off (off + 3) = (encTerm t).toArray) (w : World) : (part 44 xs off).run Tryz.prog w = .ok (.agg (encTerm t).toArray) w := part_term off xs t h w
theorem eqClash (a b : Clash) (w : World) : (Op.equalIn 10000 176 (.agg (encClash a).toArray) (.agg (encClash b).toArray)).run Tryz.prog w = .ok (decide (a = b)) w := by
  have hS : Tryz.prog.underlying 176 = some (.struct (Tryz.prog.fieldsOf 176)) := by kernel_rfl
  have hp : Tryz.prog.stoodInHeld 176 = false := by kernel_rfl
  rw [show (10000 : Nat) = 9999 + 1 from rfl, run_equalIn_agg w 9999 176 _ _ hS hp]
  simp only [Program.fieldsOf, Tryz.underlying176]
  have p1 := fun t : Clash => part_term 0 (encClash t).toArray t.s rfl
  have p2 := fun t : Clash => part_term 3 (encClash t).toArray t.p rfl
  have q := eqTerm 9997
  obtain ⟨s, p⟩ := a
  obtain ⟨s', p'⟩ := b
  simp only [Op.eqFields, Sem.run_bind, p1, p2, q, Result.andThen_ok, Sem.run_ite, Sem.run_pure]
  by_cases h1 : s = s' <;> by_cases h2 : p = p' <;> simp [h1, h2]
theorem checkTerm (e : Bool) (d : Nat) (a : Term) (w : World) : (Instr.checkKey e (d + 2) 44 (.agg (encTerm a).toArray)).run Tryz.prog w = .ok () w := by
  have u3 := Tryz.underlying3
  have u9 := Tryz.underlying9
  have a3 := Tryz.isAgg3
  have a9 := Tryz.isAgg9
  obtain ⟨k, s, l⟩ := a
  simp only [Instr.checkKey, Sem.run_bind, run_underlying Tryz.underlying44, Result.andThen_ok, encTerm]
  rw [← Array.forIn_toList]
  simp [part, a3, a9, run_underlying u3, run_underlying u9, Sem.run_pure]
theorem checkClash' (d : Nat) (a : Clash) (e : Bool) (w : World) : (Instr.checkKey e (d + 3) 176 (.agg (encClash a).toArray)).run Tryz.prog w = .ok () w := by
  have p1 := fun t : Clash => part_term 0 (encClash t).toArray t.s rfl
  have p2 := fun t : Clash => part_term 3 (encClash t).toArray t.p rfl
  have a3 := Tryz.isAgg3
  have a9 := Tryz.isAgg9
  have f0 : ∀ (t : Term) (w : World), (part 3 (encTerm t).toArray 0).run Tryz.prog w = .ok (.int .i64 t.kind) w := fun t w => by simp [part, a3, encTerm, Sem.run_pure]
  have f1 : ∀ (t : Term) (w : World), (part 9 (encTerm t).toArray 1).run Tryz.prog w = .ok (.string t.s) w := fun t w => by simp [part, a9, encTerm, Sem.run_pure]
  have f2 : ∀ (t : Term) (w : World), (part 9 (encTerm t).toArray 2).run Tryz.prog w = .ok (.string t.lang) w := fun t w => by simp [part, a9, encTerm, Sem.run_pure]
  simp only [Instr.checkKey, Sem.run_bind, run_underlying Tryz.underlying176, Result.andThen_ok]
  rw [← Array.forIn_toList]
  simp [p1, p2, f0, f1, f2, Sem.run_pure]
theorem checkClash (a : Clash) (e : Bool) (w : World) : (Instr.checkKey e 10000 176 (.agg (encClash a).toArray)).run Tryz.prog w = .ok () w := checkClash' 9997 a e w
theorem kenc176 : KEnc Tryz.prog 176 (fun c : Clash => Value.agg (encClash c).toArray) :=
  KEnc.agg Tryz.underlying176 eqClash checkClash (fun _ _ => encClash_inj) (fun a => by simp [Instr.sameBits, encClash, encTerm, bytes_beq])
abbrev vf176 : Clash → Value := fun c => Value.agg (encClash c).toArray

theorem mCompare_ret {a b : Clash} (w0 : World) : Ret Tryz.prog 165 [.agg (encClash a).toArray, .agg (encClash b).toArray] w0 fun r w' => r = .int .i64 (clashCmp a b) ∧ Ext w0 w' := by
  have E : Ext w0 w0 := Ext.refl w0
  refine St.enter (N := 17) Tryz.func165 rfl Tryz.ntmps165 rfl ?_
  refine St.seq fun K0 hK0 => ?_
  refine St.region ?_
  refine St.box rfl rfl ?_
  intro w2 b2 hb2 hs2 e2 k2
  have qE2 := E.size
  replace E := Ext.trans E e2
  refine St.box rfl rfl ?_
  intro w3 b3 hb3 hs3 e3 k3
  have qE3 := E.size
  replace E := Ext.trans E e3
  replace k2 := k2.ext e3
  refine St.r (R.assign rfl) rfl rfl ?_
  refine St.nil ?_
  refine St.weak [(2, _), (3, _)] ⟨rfl, rfl, trivial⟩ ?_
  refine St.then_n ?_
  refine St.go hK0 ?_
  clear hK0
  refine St.seq fun K1 hK1 => ?_
  refine St.weak [(2, _), (3, _)] ⟨rfl, rfl, trivial⟩ ?_
  refine St.drawT (S := fun _ => False) (eff := [4, 9, 10, 11]) mixed rfl rfl rfl rfl ?_
  replace E := Ext.trans E (Ext.drew _)
  replace k2 := k2.ext (Ext.drew _)
  replace k3 := k3.ext (Ext.drew _)
  refine DrawT.quiet 0 rfl rfl (fun W eW => OpOk.r (R.fieldA Tryz.underlying176 rfl Tryz.sizeOf44 rfl rfl rfl) rfl) ?_
  refine DrawT.quiet 1 rfl rfl (fun W eW => OpOk.r (R.loadA Tryz.isAgg44 Tryz.sizeOf44 rfl (clash_s (k2.ext eW)) rfl) rfl) ?_
  refine DrawT.quiet 2 rfl rfl (fun W eW => OpOk.r (R.fieldA Tryz.underlying176 rfl Tryz.sizeOf44 rfl rfl rfl) rfl) ?_
  refine DrawT.quiet 3 rfl rfl (fun W eW => OpOk.r (R.loadA Tryz.isAgg44 Tryz.sizeOf44 rfl (clash_s (k3.ext eW)) rfl) rfl) ?_
  refine DrawT.quiet 5 rfl rfl (fun W eW => OpOk.r (R.fieldA Tryz.underlying176 rfl Tryz.sizeOf44 rfl rfl rfl) rfl) ?_
  refine DrawT.quiet 6 rfl rfl (fun W eW => OpOk.r (R.loadA Tryz.isAgg44 Tryz.sizeOf44 rfl (clash_p (k2.ext eW)) rfl) rfl) ?_
  refine DrawT.quiet 7 rfl rfl (fun W eW => OpOk.r (R.fieldA Tryz.underlying176 rfl Tryz.sizeOf44 rfl rfl rfl) rfl) ?_
  refine DrawT.quiet 8 rfl rfl (fun W eW => OpOk.r (R.loadA Tryz.isAgg44 Tryz.sizeOf44 rfl (clash_p (k3.ext eW)) rfl) rfl) ?_
  refine DrawT.one (n := 4) [] rfl rfl rfl (by kernel_rfl) (OpC.plain (Eff.call rfl rfl ent114 (tCompare_ret _)) rfl) ?_ ?_
  · rintro r9 w9 ⟨rfl, e9⟩
    refine ⟨?_, trivial⟩
    exact e9
  rintro r9 w9 ⟨rfl, e9⟩
  replace E := Ext.trans E e9
  replace k2 := k2.ext e9
  replace k3 := k3.ext e9
  refine DrawT.one (n := 9) [] rfl rfl rfl (by kernel_rfl) (OpC.plain (Eff.call rfl rfl ent114 (tCompare_ret _)) rfl) ?_ ?_
  · rintro r14 w14 ⟨rfl, e14⟩
    refine ⟨?_, trivial⟩
    exact e14
  rintro r14 w14 ⟨rfl, e14⟩
  replace E := Ext.trans E e14
  replace k2 := k2.ext e14
  replace k3 := k3.ext e14
  refine DrawT.one (n := 10) [] rfl rfl rfl (by kernel_rfl) (OpC.plain (Eff.buildSl Tryz.underlying27 Tryz.sizeOf3 Tryz.zeroValue3 rfl rfl rfl rfl (by intro u hu; simp only [List.mem_cons, List.not_mem_nil, or_false] at hu; first | (subst hu; rfl) | (rcases hu with rfl | rfl <;> rfl) | (rcases hu with rfl | rfl | rfl <;> rfl))) rfl) ?_ ?_
  · rintro _ _ ⟨_, _, _, _, e, _⟩
    refine ⟨?_, trivial⟩
    exact Chg.mono e (fun _ _ h => h.elim)
  rintro _ w15 ⟨b15, rfl, hb15, hs15, e15, k15⟩
  have qE15 := E.size
  replace E := Ext.trans E e15
  replace k2 := k2.ext e15
  replace k3 := k3.ext e15
  refine DrawT.one (n := 11) [] rfl rfl rfl (by kernel_rfl) (OpC.plain (Eff.call rfl rfl ent59 (Or_ret _ (RSl.mk (enc := encInt) (xs := [termCmp a.s b.s, termCmp a.p b.p]) encInt_len k15.cells (fun i u hu => hu) (by simp) (by simp)))) rfl) ?_ ?_
  · rintro r16 w16 ⟨rfl, e16⟩
    refine ⟨?_, trivial⟩
    exact e16
  rintro r16 w16 ⟨rfl, e16⟩
  replace E := Ext.trans E e16
  replace k2 := k2.ext e16
  replace k3 := k3.ext e16
  replace k15 := k15.ext e16
  refine DrawT.quiet 12 rfl rfl (fun W eW => OpOk.r (R.assign rfl) rfl) ?_
  refine DrawT.fin rfl ?_
  show St _ _ _ _ _
  refine St.weak [(4, _)] ⟨rfl, trivial⟩ ?_
  refine St.then_n ?_
  refine St.go hK1 ?_
  clear hK1
  refine St.ret ?_
  refine St.ret1 Tryz.results165 rfl ?_
  exact ⟨_, rfl, by rw [firstI2]; rfl, E⟩

theorem of_ret {l : List Triple} {v : Value} (w0 : World) (hv : RTriples w0 v l) (hn : l.length ≤ 1000000000) : Ret Tryz.prog 104 [v] w0 fun r w' => ∃ b ms, r = .map (some b) ∧ MapB vf176 Hd.val w' b ms ∧ SidesO 100 w0.heap.size w' l ms ∧ w0.heap.size ≤ b ∧ ms.length ≤ l.length ∧ Ext w0 w' := by
  obtain ⟨A, c, rfl, hc1, hc2⟩ := hv.form
  have E : Ext w0 w0 := Ext.refl w0
  refine St.enter (N := 29) Tryz.func104 rfl Tryz.ntmps104 rfl ?_
  refine St.seq fun K0 hK0 => ?_
  refine St.region ?_
  refine St.r (R.assign rfl) rfl rfl ?_
  refine St.nil ?_
  refine St.weak [(0, _)] ⟨rfl, trivial⟩ ?_
  refine St.then_n ?_
  refine St.go hK0 ?_
  clear hK0
  refine St.seq fun K1 hK1 => ?_
  refine St.region ?_
  refine St.turn (Eff.makeMap (vf176) (Hd.val)) rfl rfl ?_
  rintro _ w7 ⟨b7, rfl, hb7, hs7, e7, m7⟩
  have qE7 := E.size
  replace E := Ext.trans E e7
  refine St.r (R.assign rfl) rfl rfl ?_
  refine St.nil ?_
  refine St.weak [(0, _), (3, _)] ⟨rfl, rfl, trivial⟩ ?_
  refine St.then_n ?_
  refine St.go hK1 ?_
  clear hK1
  refine St.seq fun K2 hK2 => ?_
  refine St.seq fun K3 hK3 => ?_
  refine St.region ?_
  refine St.r (R.move rfl) rfl rfl ?_
  refine St.r (R.lenSl Tryz.underlying22 rfl) rfl rfl ?_
  refine St.r (R.move rfl) rfl rfl ?_
  refine St.nil ?_
  refine St.weak [(3, _), (8, _), (9, _), (10, _)] ⟨rfl, rfl, rfl, rfl, trivial⟩ ?_
  refine St.then_n ?_
  refine St.go hK3 ?_
  clear hK3
  refine St.block ?_
  refine St.loop (fun (x : Nat × List (Clash × Hd)) => match x with | (k, ms) => [(3, .map (some b7)), (8, .slice A l.length c), (9, .int .i64 (l.length : Int)), (10, .int .i64 (k : Int))])
      (fun (x : Nat × List (Clash × Hd)) w => match x with | (k, ms) => k ≤ l.length ∧ Ext w0 w ∧ MapB vf176 Hd.val w b7 ms ∧ SidesO 100 w0.heap.size w (l.take k) ms ∧ ms.length ≤ k)
      (fun (x : Nat × List (Clash × Hd)) => match x with | (k, ms) => l.length - k) (0, []) ⟨rfl, rfl, rfl, rfl, trivial⟩ ?_ ?_
  · exact ⟨Nat.zero_le _, E, m7, SidesO.start _ _ _, Nat.le_refl _⟩
  rintro ⟨k, ms⟩ w ⟨hk, E, m7, q0, hml⟩
  show St _ _ [(3, .map (some b7)), (8, .slice A l.length c), (9, .int .i64 (l.length : Int)), (10, .int .i64 (k : Int))] _ _
  refine St.seq fun K4 hK4 => ?_
  refine St.region ?_
  refine St.r (R.lss rfl rfl) rfl rfl ?_
  refine St.nil ?_
  refine St.weak [(3, _), (8, _), (9, _), (10, _), (11, _)] ⟨rfl, rfl, rfl, rfl, rfl, trivial⟩ ?_
  refine St.then_n ?_
  refine St.go hK4 ?_
  clear hK4
  refine St.seq fun K5 hK5 => ?_
  refine St.condD rfl (fun h11 => ?_) (fun h11 => ?_)
  ·
    obtain ⟨x, hx⟩ := get_of_lt (xs := l) (k := k) (by omega)
    obtain ⟨xb, xo, rfl, hxc⟩ := hv.get' hx
    have ql := q0.lt
    have zm := m7.lt
    have hof0 := q0.off m7.isMap
    refine St.skip ?_
    refine St.then_n ?_
    refine St.go hK5 ?_
    clear hK5
    refine St.seq fun K6 hK6 => ?_
    refine St.block ?_
    refine St.seq fun K7 hK7 => ?_
    refine St.region ?_
    refine St.r (R.indexS k Tryz.underlying22 Tryz.sizeOf100 rfl rfl rfl (by omega)) rfl rfl ?_
    refine St.r (R.loadA Tryz.isAgg100 Tryz.sizeOf100 rfl (E.cells hxc) rfl) rfl rfl ?_
    refine St.alloc Tryz.zeroValue100 rfl ?_
    intro w5 b5 hb5 hs5 e5 k5
    have qE5 := E.size
    replace E := Ext.trans E e5
    replace m7 := m7.ext e5
    replace q0 := q0.ext e5
    refine St.store Tryz.sizeOf100 rfl rfl k5 rfl (by simp [Value.cells, encTriple, encTerm]) (one_triple x) ?_
    intro ws0 ks0 gs0 zs0
    replace E := Ext.then E gs0 (by intro j hj; omega)
    replace m7 := m7.chg gs0 (by omega)
    replace q0 := q0.chg gs0 (fun k hd hk y hy e => by have := ql k hd hk y hy; omega)
    clear k5; have k5 := ks0; clear ks0
    replace k5 : Blk ws0 b5 100 (encTriple x) := k5
    refine St.nil ?_
    refine St.weak [(3, _), (5, _), (8, _), (9, _), (10, _)] ⟨rfl, rfl, rfl, rfl, rfl, trivial⟩ ?_
    refine St.then_n ?_
    refine St.go hK7 ?_
    clear hK7
    refine St.seq fun K8 hK8 => ?_
    refine St.region ?_
    refine St.r (R.fieldA Tryz.underlying100 rfl Tryz.sizeOf44 rfl rfl rfl) rfl rfl ?_
    refine St.r (R.loadA Tryz.isAgg44 Tryz.sizeOf44 rfl (triple_s k5) rfl) rfl rfl ?_
    refine St.r (R.fieldA Tryz.underlying100 rfl Tryz.sizeOf44 rfl rfl rfl) rfl rfl ?_
    refine St.r (R.loadA Tryz.isAgg44 Tryz.sizeOf44 rfl (triple_p k5) rfl) rfl rfl ?_
    refine St.r (R.build Tryz.underlying176 (places176 _ Tryz.underlying176) Tryz.zeroValue176 rfl rfl rfl) rfl rfl ?_
    refine St.alloc Tryz.zeroValue176 rfl ?_
    intro w6 b6 hb6 hs6 e6 k6
    have qE6 := E.size
    replace E := Ext.trans E e6
    replace m7 := m7.ext e6
    replace q0 := q0.ext e6
    replace k5 := k5.ext e6
    refine St.store Tryz.sizeOf176 rfl rfl k6 rfl (by simp [Value.cells, encTerm]) (one_clash (keyOf x)) ?_
    intro ws1 ks1 gs1 zs1
    replace E := Ext.then E gs1 (by intro j hj; omega)
    replace m7 := m7.chg gs1 (by omega)
    replace q0 := q0.chg gs1 (fun k hd hk y hy e => by have := ql k hd hk y hy; omega)
    replace k5 := k5.chg gs1 (by omega)
    clear k6; have k6 := ks1; clear ks1
    replace k6 : Blk ws1 b6 176 (encClash (keyOf x)) := k6
    refine St.nil ?_
    refine St.weak [(3, _), (5, _), (6, _), (8, _), (9, _), (10, _)] ⟨rfl, rfl, rfl, rfl, rfl, rfl, trivial⟩ ?_
    refine St.then_n ?_
    refine St.go hK8 ?_
    clear hK8
    refine St.region ?_
    refine St.r (R.move rfl) rfl rfl ?_
    refine St.r (R.loadA Tryz.isAgg176 Tryz.sizeOf176 rfl k6.cells rfl) rfl rfl ?_
    refine St.r (R.loadA Tryz.isAgg100 Tryz.sizeOf100 rfl k5.cells rfl) rfl rfl ?_
    refine St.buildSl Tryz.underlying22 Tryz.sizeOf100 Tryz.zeroValue100 rfl rfl rfl rfl (by intro u hu; simp only [List.mem_cons, List.not_mem_nil, or_false] at hu; first | (subst hu; rfl) | (rcases hu with rfl | rfl <;> rfl) | (rcases hu with rfl | rfl | rfl <;> rfl) | (rcases hu with rfl | rfl | rfl | rfl <;> rfl)) rfl ?_
    intro w23 b23 hb23 hs23 e23 k23
    have qE23 := E.size
    replace E := Ext.trans E e23
    replace m7 := m7.ext e23
    replace q0 := q0.ext e23
    replace k5 := k5.ext e23
    replace k6 := k6.ext e23
    have hof := q0.off m7.isMap
    refine St.turn (Eff.mapEntry (z := (⟨none, 0, 0⟩ : Hd)) (kenc176) Tryz.underlying179 Tryz.zeroValue22 m7 rfl rfl) rfl rfl ?_
    rintro _ w24 ⟨st24, rfl, ms24, gm24, zm24⟩
    replace E := Ext.then E gm24 (by intro j hj; omega)
    clear m7
    replace q0 := q0.chg gm24 hof
    replace k23 := k23.chg gm24 (by omega)
    have hof2 := q0.off ms24.isMap
    refine St.r (R.extract rfl rfl) rfl rfl ?_
    have o25 := q0.at (keyOf x)
    have hlx : (sideOf (l.take k) (keyOf x)).length ≤ l.length := Nat.le_trans (List.length_filter_le _ _) (by rw [List.length_take]; omega)
    refine St.append (enc := encTriple) (fun _ => rfl) one_triple Tryz.underlying22 info100 rfl rfl rfl rfl o25 (RSl.mk (enc := encTriple) (xs := [x]) encTriple_len k23.cells (fun i u hu => hu) (by simp) (by simp)) (by simp; omega) (by simp; omega) E.size rfl ?_
    intro v25 w25 a25 g25 at25
    replace E := Ext.then E g25 (by intro j hj hk; have := (o25.base hk).1; omega)
    replace ms24 := ms24.chg g25 (fun hk => (o25.notMap ms24.isMap hk) rfl)
    obtain ⟨A25, c25, rfl, -, -⟩ := a25.form
    have q1 := q0.step (h' := ⟨A25, (sideOf (l.take k) (keyOf x) ++ [x]).length, c25⟩) q0.lt a25 g25 (at25.imp id fun e => ⟨_, e, Nat.le_refl _⟩)
    have hof3 := q1.off ms24.isMap
    refine St.r (R.extract rfl rfl) rfl rfl ?_
    refine St.turn (Eff.entryStore (v := ⟨A25, (sideOf (l.take k) (keyOf x) ++ [x]).length, c25⟩) ms24 rfl rfl rfl) rfl rfl ?_
    rintro _ wm0 ⟨rfl, mm0, gm0, zm0⟩
    replace E := Ext.then E gm0 (by intro j hj; omega)
    clear ms24; have m7 := mm0; clear mm0
    rw [putM_putM] at m7
    replace q1 := q1.chg gm0 hof3
    refine St.nil ?_
    refine St.weak [(3, _), (8, _), (9, _), (10, _)] ⟨rfl, rfl, rfl, rfl, trivial⟩ ?_
    refine St.in_n ?_
    refine St.then_n ?_
    refine St.go hK6 ?_
    clear hK6
    refine St.region ?_
    refine St.r (R.add rfl rfl (by omega) (by omega)) rfl rfl ?_
    refine St.r (R.move rfl) rfl rfl ?_
    refine St.nil ?_
    refine St.weak [(3, _), (8, _), (9, _), (10, _)] ⟨rfl, rfl, rfl, rfl, trivial⟩ ?_
    refine St.then_n ?_
    refine St.round (k + 1, putM ms (keyOf x) ⟨A25, (sideOf (l.take k) (keyOf x) ++ [x]).length, c25⟩) ⟨rfl, rfl, rfl, rfl, trivial⟩ ?_ ?_
    · try dsimp only
      refine ⟨by omega, E, m7, ?_, by rw [putM_length]; split <;> omega⟩
      rw [take_snoc hx]
      exact q1
    · try dsimp only
      omega
  ·
    refine St.exit ?_
    refine St.then_x ?_
    refine St.then_x ?_
    refine St.in_x ?_
    refine St.then_n ?_
    refine St.go hK2 ?_
    clear hK2
    refine St.seq fun K9 hK9 => ?_
    refine St.region ?_
    refine St.r (R.move rfl) rfl rfl ?_
    refine St.r (R.assign rfl) rfl rfl ?_
    refine St.nil ?_
    refine St.weak [(2, _)] ⟨rfl, trivial⟩ ?_
    refine St.then_n ?_
    refine St.go hK9 ?_
    clear hK9
    refine St.ret ?_
    refine St.ret1 Tryz.results104 rfl ?_
    rw [List.take_of_length_le (by omega)] at q0
    exact ⟨_, rfl, b7, ms, rfl, m7, q0, by omega, by omega, E⟩

end Go.Proofs.YtjgcmpondbocfaaGreatDoor

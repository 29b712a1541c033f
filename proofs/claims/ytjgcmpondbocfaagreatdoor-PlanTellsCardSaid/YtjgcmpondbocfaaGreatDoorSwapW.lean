/- What plan.Swap and plan.Cost come to, and whether two questions are alike. Walked, under the reading of the arguments. -/
import Derived.Test.YtjgcmpondbocfaaGreatDoorProg
import Derived.Test.YtjgcmpondbocfaaGreatDoorPlanW
import Derived.Test.YtjgcmpondbocfaaGreatDoorSwapPure
import Derived.Test.YtjgcmpondbocfaaGreatDoorCap
namespace Go.Proofs.YtjgcmpondbocfaaGreatDoor
open Go.RowKit 
theorem ent25 : Ent Tryz.prog 25 := Ent.of Tryz.func25 (by kernel_rfl) rfl
theorem ent68 : Ent Tryz.prog 68 := Ent.of Tryz.func68 (by kernel_rfl) rfl
theorem ent69 : Ent Tryz.prog 69 := Ent.of Tryz.func69 (by kernel_rfl) rfl
theorem ent70 : Ent Tryz.prog 70 := Ent.of Tryz.func70 (by kernel_rfl) rfl
theorem places26 : ∀ fs, Tryz.prog.underlying 26 = some (.struct fs) → Places Tryz.prog fs [(0, 1), (1, 1), (2, 1), (3, 1), (4, 1), (5, 1)] := by
  intro fs h
  rw [Tryz.underlying26] at h
  cases h
  intro w
  simp [go_sem, Tryz.sizeOf23, Tryz.sizeOf24, Tryz.sizeOf3, Tryz.sizeOf4, Tryz.sizeOf9]
theorem info4 : (Tryz.prog.info? 4).map (fun i => (i.zero, i.size, i.bytes)) = some (some (.bool false), 1, 1) := by kernel_rfl
theorem info48 : (Tryz.prog.info? 48).map (fun i => (i.zero, i.size, i.bytes)) = some (some (.agg #[.string ⟨#[]⟩, .int .i64 0, .string ⟨#[]⟩, .string ⟨#[]⟩, .string ⟨#[]⟩, .int .i64 0, .string ⟨#[]⟩, .string ⟨#[]⟩, .string ⟨#[]⟩, .int .i64 0, .string ⟨#[]⟩, .string ⟨#[]⟩]), 12, 168) := by kernel_rfl
theorem Cost_ret {l : List Triple} {q : Query} {cs : List Value} {v : Value} (w0 : World) (hv : RTriples w0 v l) (hq : RQuery w0 cs q) : Ret Tryz.prog 14 [v, .agg cs.toArray] w0 fun r w' => r = .tuple #[.int .i64 (if (allErr l q).isSome then 0 else (lookedN l [[]] q.parts : Int)), errV 119 (allErr l q)] ∧ Ext w0 w' := by
  have hq0 := hq
  obtain ⟨vv, pv, rfl, hvv, hpv⟩ := hq
  have E : Ext w0 w0 := Ext.refl w0
  refine St.enter (N := 18) Tryz.func14 rfl Tryz.ntmps14 rfl ?_
  refine St.seq fun K0 hK0 => ?_
  refine St.region ?_
  refine St.box rfl rfl ?_
  intro w3 b3 hb3 hs3 e3 k3
  have qE3 := E.size
  replace E := Ext.trans E e3
  refine St.r (R.assign rfl) rfl rfl ?_
  refine St.r (R.assign rfl) rfl rfl ?_
  refine St.nil ?_
  refine St.weak [(0, _), (3, _)] ⟨rfl, rfl, trivial⟩ ?_
  refine St.then_n ?_
  refine St.go hK0 ?_
  clear hK0
  refine St.seq fun K1 hK1 => ?_
  refine St.region ?_
  refine St.r (R.move rfl) rfl rfl ?_
  refine St.r (R.loadA Tryz.isAgg26 Tryz.sizeOf26 rfl k3.cells rfl) rfl rfl ?_
  refine St.call rfl rfl ent68 (All_ret _ (hv.ext (REnc.firm _) E) (RQuery.firm _ _ _ _ E hq0)) rfl ?_
  rintro r12 w12 ⟨fv, bs, rfl, o12, m12, e12⟩
  replace E := Ext.trans E e12
  replace k3 := k3.ext e12
  refine St.r (R.move rfl) rfl rfl ?_
  refine St.r (R.extract rfl rfl) rfl rfl ?_
  refine St.r (R.extract rfl rfl) rfl rfl ?_
  refine St.r (R.extract rfl rfl) rfl rfl ?_
  refine St.r (R.assign rfl) rfl rfl ?_
  refine St.r (R.assign rfl) rfl rfl ?_
  refine St.r (R.assign rfl) rfl rfl ?_
  refine St.nil ?_
  refine St.weak [(7, _), (8, _)] ⟨rfl, rfl, trivial⟩ ?_
  refine St.then_n ?_
  refine St.go hK1 ?_
  clear hK1
  refine St.seq fun K2 hK2 => ?_
  refine St.region ?_
  refine St.r (R.move rfl) rfl rfl ?_
  refine St.r (R.move rfl) rfl rfl ?_
  refine St.r (R.assign rfl) rfl rfl ?_
  refine St.r (R.assign rfl) rfl rfl ?_
  refine St.nil ?_
  refine St.weak [(4, _), (5, _)] ⟨rfl, rfl, trivial⟩ ?_
  refine St.then_n ?_
  refine St.go hK2 ?_
  clear hK2
  refine St.ret ?_
  refine St.ret2 Tryz.results14 rfl rfl ?_
  exact ⟨_, rfl, rfl, E⟩

theorem str_Clone {xs : List ByteArray} {v : Value} (w0 : World) (hv : RSl (REnc encStr) 1 w0 v xs) (hl : xs.length * 16 ≤ 140737488351232) :
    Ret Tryz.prog 69 [v] w0 fun r w' => Own encStr 1 w0.heap.size 9 w' r xs ∧ Ext w0 w' := by
  obtain ⟨A, c, rfl, hc1, hc2⟩ := hv.form
  have E : Ext w0 w0 := Ext.refl w0
  refine St.enter (N := 8) Tryz.func69 rfl Tryz.ntmps69 rfl ?_
  refine St.seq fun K0 hK0 => ?_
  refine St.region ?_
  refine St.r (R.assign rfl) rfl rfl ?_
  refine St.nil ?_
  refine St.weak [(0, _)] ⟨rfl, trivial⟩ ?_
  refine St.then_n ?_
  refine St.go hK0 ?_
  clear hK0
  refine St.seq fun K1 hK1 => ?_
  refine St.seq fun K2 hK2 => ?_
  refine St.region ?_
  refine St.r (R.move rfl) rfl rfl ?_
  refine St.r (R.eqNilSl Tryz.underlying23 rfl) rfl rfl ?_
  refine St.nil ?_
  refine St.weak [(0, _), (4, _)] ⟨rfl, rfl, trivial⟩ ?_
  refine St.then_n ?_
  refine St.go hK2 ?_
  clear hK2
  refine St.cond rfl (fun h4 => ?_) (fun h4 => ?_)
  ·
    have h0 : xs = [] := by
      rcases Nat.eq_zero_or_pos xs.length with h | h
      · exact List.eq_nil_of_length_eq_zero h
      · obtain ⟨b, o, c', heq, -⟩ := hv.at h
        cases heq
        simp at h4
    subst h0
    refine St.seq fun K3 hK3 => ?_
    refine St.region ?_
    refine St.r (R.assign rfl) rfl rfl ?_
    refine St.nil ?_
    refine St.weak [(2, _)] ⟨rfl, trivial⟩ ?_
    refine St.then_n ?_
    refine St.go hK3 ?_
    clear hK3
    refine St.ret ?_
    refine St.then_r ?_
    refine St.ret1 Tryz.results69 rfl ?_
    exact ⟨_, rfl, Own.nil _ _ _ _ _, E⟩
  ·
    refine St.skip ?_
    refine St.then_n ?_
    refine St.go hK1 ?_
    clear hK1
    refine St.seq fun K4 hK4 => ?_
    refine St.region ?_
    refine St.buildSl0 Tryz.underlying23 Tryz.sizeOf9 rfl ?_
    intro w5 b5 hb5 hs5 e5 k5
    have qE5 := E.size
    replace E := Ext.trans E e5
    refine St.r (R.move rfl) rfl rfl ?_
    refine St.append (enc := encStr) (fun _ => rfl) one_str Tryz.underlying23 info9 rfl rfl rfl rfl (Own.empty (enc := encStr) (size := 1) k5 (base := w0.heap.size) (by omega)) (hv.ext (REnc.firm _) E) (by simp; omega) (by simp; omega) (by omega) rfl ?_
    intro v7 w7 a7 g7 at7
    replace E := Ext.then E g7 (by intro j hj hk; have := ((Own.empty (enc := encStr) (size := 1) k5 (base := w0.heap.size) (by omega)).base hk).1; omega)
    refine St.r (R.assign rfl) rfl rfl ?_
    refine St.nil ?_
    refine St.weak [(2, _)] ⟨rfl, trivial⟩ ?_
    refine St.then_n ?_
    refine St.go hK4 ?_
    clear hK4
    refine St.ret ?_
    refine St.ret1 Tryz.results69 rfl ?_
    exact ⟨_, rfl, a7, E⟩


theorem part_slot (off : Nat) (xs : Array Value) (t : Slot) (h : xs.extract off (off + 4) = (encSlot t).toArray) (w : World) : (part 46 xs off).run Tryz.prog w = .ok (.agg (encSlot t).toArray) w := by
  simp only [part, Sem.run_bind, Tryz.isAgg46, Result.andThen_ok, if_true, Tryz.sizeOf46, h]; rfl
theorem eqStr (n : Nat) (a b : ByteArray) (w : World) : (Op.equalIn (n + 1) 9 (.string a) (.string b)).run Tryz.prog w = .ok (decide (a = b)) w := by
  have u9 := Tryz.underlying9
  go_simp
  by_cases h : a = b <;> simp [h, toList_iff]
theorem eqSlot (d : Nat) (a b : Slot) (w : World) : (Op.equalIn (d + 3) 46 (.agg (encSlot a).toArray) (.agg (encSlot b).toArray)).run Tryz.prog w = .ok (decide (a = b)) w := by
  have hS : Tryz.prog.underlying 46 = some (.struct (Tryz.prog.fieldsOf 46)) := by kernel_rfl
  have hp : Tryz.prog.stoodInHeld 46 = false := by kernel_rfl
  rw [show d + 3 = (d + 2) + 1 from rfl, run_equalIn_agg w (d + 2) 46 _ _ hS hp]
  simp only [Program.fieldsOf, Tryz.underlying46]
  have p1 := fun t : Slot => (show (part 9 (encSlot t).toArray 0).run Tryz.prog w = .ok (.string t.var) w by simp only [part, Sem.run_bind, Tryz.isAgg9, Result.andThen_ok]; rfl)
  have p2 := fun t : Slot => part_term 1 (encSlot t).toArray t.term rfl
  have q := eqTerm d
  have q2 := eqStr (d + 1)
  obtain ⟨s, p⟩ := a
  obtain ⟨s', p'⟩ := b
  simp only [Op.eqFields, Sem.run_bind, p1, p2, q, q2, Result.andThen_ok, Sem.run_ite, Sem.run_pure]
  by_cases h1 : s = s' <;> by_cases h2 : p = p' <;> simp [h1, h2]
theorem eqPat (a b : Pat) (w : World) : (Op.equalIn 10000 48 (.agg (encPat a).toArray) (.agg (encPat b).toArray)).run Tryz.prog w = .ok (decide (a = b)) w := by
  have hS : Tryz.prog.underlying 48 = some (.struct (Tryz.prog.fieldsOf 48)) := by kernel_rfl
  have hp : Tryz.prog.stoodInHeld 48 = false := by kernel_rfl
  rw [show (10000 : Nat) = 9999 + 1 from rfl, run_equalIn_agg w 9999 48 _ _ hS hp]
  simp only [Program.fieldsOf, Tryz.underlying48]
  have p1 := fun t : Pat => part_slot 0 (encPat t).toArray t.s rfl
  have p2 := fun t : Pat => part_slot 4 (encPat t).toArray t.p rfl
  have p3 := fun t : Pat => part_slot 8 (encPat t).toArray t.o rfl
  have q := eqSlot 9996
  obtain ⟨s, p, o⟩ := a
  obtain ⟨s', p', o'⟩ := b
  simp only [Op.eqFields, Sem.run_bind, p1, p2, p3, q, Result.andThen_ok, Sem.run_ite, Sem.run_pure]
  by_cases h1 : s = s' <;> by_cases h2 : p = p' <;> by_cases h3 : o = o' <;> simp [h1, h2, h3]

theorem Texts_ret {xs ys : List ByteArray} {v u : Value} (w0 : World) (hv : RStrs w0 v xs) (hu : RStrs w0 u ys) : Ret Tryz.prog 25 [v, u] w0 fun r w' => r = .bool (decide (xs = ys)) ∧ Ext w0 w' := by
  obtain ⟨A, c, rfl, hc1, hc2⟩ := hv.form
  obtain ⟨A2, c2, rfl, hd1, hd2⟩ := hu.form
  have E : Ext w0 w0 := Ext.refl w0
  refine St.enter (N := 26) Tryz.func25 rfl Tryz.ntmps25 rfl ?_
  refine St.seq fun K0 hK0 => ?_
  refine St.region ?_
  refine St.r (R.assign rfl) rfl rfl ?_
  refine St.nil ?_
  refine St.weak [(0, _), (1, _)] ⟨rfl, rfl, trivial⟩ ?_
  refine St.then_n ?_
  refine St.go hK0 ?_
  clear hK0
  refine St.seq fun K1 hK1 => ?_
  refine St.seq fun K2 hK2 => ?_
  refine St.region ?_
  refine St.r (R.move rfl) rfl rfl ?_
  refine St.r (R.lenSl Tryz.underlying23 rfl) rfl rfl ?_
  refine St.r (R.move rfl) rfl rfl ?_
  refine St.r (R.lenSl Tryz.underlying23 rfl) rfl rfl ?_
  refine St.r (R.neq rfl rfl) rfl rfl ?_
  refine St.nil ?_
  refine St.weak [(0, _), (1, _), (10, _)] ⟨rfl, rfl, rfl, trivial⟩ ?_
  refine St.then_n ?_
  refine St.go hK2 ?_
  clear hK2
  refine St.condD rfl (fun h10 => ?_) (fun h10 => ?_)
  ·
    refine St.seq fun K3 hK3 => ?_
    refine St.region ?_
    refine St.r (R.assign rfl) rfl rfl ?_
    refine St.nil ?_
    refine St.weak [(4, _)] ⟨rfl, trivial⟩ ?_
    refine St.then_n ?_
    refine St.go hK3 ?_
    clear hK3
    refine St.ret ?_
    refine St.then_r ?_
    refine St.ret1 Tryz.results25 rfl ?_
    exact ⟨_, rfl, by rw [decide_eq_false (fun e => h10 (by rw [e]))], E⟩
  ·
    refine St.skip ?_
    refine St.then_n ?_
    refine St.go hK1 ?_
    clear hK1
    refine St.seq fun K4 hK4 => ?_
    refine St.seq fun K5 hK5 => ?_
    refine St.region ?_
    refine St.r (R.assign rfl) rfl rfl ?_
    refine St.nil ?_
    refine St.weak [(0, _), (1, _), (5, _)] ⟨rfl, rfl, rfl, trivial⟩ ?_
    refine St.then_n ?_
    refine St.go hK5 ?_
    clear hK5
    refine St.block ?_
    refine St.loop (fun (k : Nat) => [(0, .slice A xs.length c), (1, .slice A2 ys.length c2), (5, .int .i64 (k : Int))])
        (fun (k : Nat) w => k ≤ xs.length ∧ Ext w0 w ∧ xs.take k = ys.take k)
        (fun (k : Nat) => xs.length - k) 0 ⟨rfl, rfl, rfl, trivial⟩ ?_ ?_
    · exact ⟨Nat.zero_le _, E, by simp⟩
    rintro k w ⟨hk, E, hall⟩
    show St _ _ [(0, .slice A xs.length c), (1, .slice A2 ys.length c2), (5, .int .i64 (k : Int))] _ _
    refine St.seq fun K6 hK6 => ?_
    refine St.seq fun K7 hK7 => ?_
    refine St.region ?_
    refine St.r (R.move rfl) rfl rfl ?_
    refine St.r (R.move rfl) rfl rfl ?_
    refine St.r (R.lenSl Tryz.underlying23 rfl) rfl rfl ?_
    refine St.r (R.lss rfl rfl) rfl rfl ?_
    refine St.nil ?_
    refine St.weak [(0, _), (1, _), (5, _), (14, _)] ⟨rfl, rfl, rfl, rfl, trivial⟩ ?_
    refine St.then_n ?_
    refine St.go hK7 ?_
    clear hK7
    refine St.condD rfl (fun h14 => ?_) (fun h14 => ?_)
    ·
      obtain ⟨x, hx⟩ := get_of_lt (xs := xs) (k := k) (by omega)
      obtain ⟨y, hy⟩ := get_of_lt (xs := ys) (k := k) (by omega)
      obtain ⟨b, o, rfl, hxc⟩ := hv.get' hx
      obtain ⟨b2, o2, rfl, hyc⟩ := hu.get' hy
      refine St.skip ?_
      refine St.then_n ?_
      refine St.go hK6 ?_
      clear hK6
      refine St.seq fun K8 hK8 => ?_
      refine St.block ?_
      refine St.seq fun K9 hK9 => ?_
      refine St.weak [(0, _), (1, _), (5, _)] ⟨rfl, rfl, rfl, trivial⟩ ?_
      refine St.draw mixed rfl rfl rfl rfl ?_
      replace E := Ext.trans E (Ext.drew _)
      refine ⟨_, OpOk.r (R.move rfl) rfl, ?_⟩
      refine ⟨_, OpOk.r (R.move rfl) rfl, ?_⟩
      refine ⟨_, OpOk.r (R.indexS k Tryz.underlying23 Tryz.sizeOf9 rfl rfl rfl (by omega)) rfl, ?_⟩
      refine ⟨_, OpOk.r (R.load1 Tryz.isAgg9 rfl ((E.cells hxc).at 0 rfl)) rfl, ?_⟩
      refine ⟨_, OpOk.r (R.move rfl) rfl, ?_⟩
      refine ⟨_, OpOk.r (R.move rfl) rfl, ?_⟩
      refine ⟨_, OpOk.r (R.indexS k Tryz.underlying23 Tryz.sizeOf9 rfl rfl rfl (by omega)) rfl, ?_⟩
      refine ⟨_, OpOk.r (R.load1 Tryz.isAgg9 rfl ((E.cells hyc).at 0 rfl)) rfl, ?_⟩
      refine ⟨_, OpOk.r (R.neS rfl rfl) rfl, ?_⟩
      show St _ _ _ _ _
      refine St.weak [(0, _), (1, _), (5, _), (25, _)] ⟨rfl, rfl, rfl, rfl, trivial⟩ ?_
      refine St.then_n ?_
      refine St.go hK9 ?_
      clear hK9
      refine St.condD rfl (fun h25 => ?_) (fun h25 => ?_)
      ·
        replace h25 : x ≠ y := by simpa using h25
        refine St.seq fun K10 hK10 => ?_
        refine St.region ?_
        refine St.r (R.assign rfl) rfl rfl ?_
        refine St.nil ?_
        refine St.weak [(4, _)] ⟨rfl, trivial⟩ ?_
        refine St.then_n ?_
        refine St.go hK10 ?_
        clear hK10
        refine St.ret ?_
        refine St.in_r ?_
        refine St.then_r ?_
        refine St.then_r ?_
        refine St.in_r ?_
        refine St.then_r ?_
        refine St.ret1 Tryz.results25 rfl ?_
        exact ⟨_, rfl, by rw [decide_eq_false (fun e => h25 (by subst e; rw [hx] at hy; injection hy))], E⟩
      ·
        replace h25 : ¬ x ≠ y := by simpa using h25
        refine St.skip ?_
        refine St.in_n ?_
        refine St.then_n ?_
        refine St.go hK8 ?_
        clear hK8
        refine St.region ?_
        refine St.r (R.move rfl) rfl rfl ?_
        refine St.r (R.add rfl rfl (by omega) (by omega)) rfl rfl ?_
        refine St.r (R.assign rfl) rfl rfl ?_
        refine St.nil ?_
        refine St.weak [(0, _), (1, _), (5, _)] ⟨rfl, rfl, rfl, trivial⟩ ?_
        refine St.then_n ?_
        refine St.round (k + 1) ⟨rfl, rfl, rfl, trivial⟩ ?_ ?_
        · refine ⟨by omega, E, ?_⟩
          rw [take_snoc hx, take_snoc hy, hall]
          congr 2
          exact Decidable.not_not.1 h25
        · omega
    ·
      refine St.exit ?_
      refine St.then_x ?_
      refine St.then_x ?_
      refine St.in_x ?_
      refine St.then_n ?_
      refine St.go hK4 ?_
      clear hK4
      refine St.seq fun K11 hK11 => ?_
      refine St.region ?_
      refine St.r (R.assign rfl) rfl rfl ?_
      refine St.nil ?_
      refine St.weak [(4, _)] ⟨rfl, trivial⟩ ?_
      refine St.then_n ?_
      refine St.go hK11 ?_
      clear hK11
      refine St.ret ?_
      refine St.ret1 Tryz.results25 rfl ?_
      rw [List.take_of_length_le (by omega), List.take_of_length_le (by omega)] at hall
      exact ⟨_, rfl, by rw [decide_eq_true hall], E⟩

theorem Parts_ret {xs ys : List Pat} {v u : Value} (w0 : World) (hv : RPats w0 v xs) (hu : RPats w0 u ys) : Ret Tryz.prog 70 [v, u] w0 fun r w' => r = .bool (decide (xs = ys)) ∧ Ext w0 w' := by
  obtain ⟨A, c, rfl, hc1, hc2⟩ := hv.form
  obtain ⟨A2, c2, rfl, hd1, hd2⟩ := hu.form
  have E : Ext w0 w0 := Ext.refl w0
  refine St.enter (N := 26) Tryz.func70 rfl Tryz.ntmps70 rfl ?_
  refine St.seq fun K0 hK0 => ?_
  refine St.region ?_
  refine St.r (R.assign rfl) rfl rfl ?_
  refine St.nil ?_
  refine St.weak [(0, _), (1, _)] ⟨rfl, rfl, trivial⟩ ?_
  refine St.then_n ?_
  refine St.go hK0 ?_
  clear hK0
  refine St.seq fun K1 hK1 => ?_
  refine St.seq fun K2 hK2 => ?_
  refine St.region ?_
  refine St.r (R.move rfl) rfl rfl ?_
  refine St.r (R.lenSl Tryz.underlying24 rfl) rfl rfl ?_
  refine St.r (R.move rfl) rfl rfl ?_
  refine St.r (R.lenSl Tryz.underlying24 rfl) rfl rfl ?_
  refine St.r (R.neq rfl rfl) rfl rfl ?_
  refine St.nil ?_
  refine St.weak [(0, _), (1, _), (10, _)] ⟨rfl, rfl, rfl, trivial⟩ ?_
  refine St.then_n ?_
  refine St.go hK2 ?_
  clear hK2
  refine St.condD rfl (fun h10 => ?_) (fun h10 => ?_)
  ·
    refine St.seq fun K3 hK3 => ?_
    refine St.region ?_
    refine St.r (R.assign rfl) rfl rfl ?_
    refine St.nil ?_
    refine St.weak [(4, _)] ⟨rfl, trivial⟩ ?_
    refine St.then_n ?_
    refine St.go hK3 ?_
    clear hK3
    refine St.ret ?_
    refine St.then_r ?_
    refine St.ret1 Tryz.results70 rfl ?_
    exact ⟨_, rfl, by rw [decide_eq_false (fun e => h10 (by rw [e]))], E⟩
  ·
    refine St.skip ?_
    refine St.then_n ?_
    refine St.go hK1 ?_
    clear hK1
    refine St.seq fun K4 hK4 => ?_
    refine St.seq fun K5 hK5 => ?_
    refine St.region ?_
    refine St.r (R.assign rfl) rfl rfl ?_
    refine St.nil ?_
    refine St.weak [(0, _), (1, _), (5, _)] ⟨rfl, rfl, rfl, trivial⟩ ?_
    refine St.then_n ?_
    refine St.go hK5 ?_
    clear hK5
    refine St.block ?_
    refine St.loop (fun (k : Nat) => [(0, .slice A xs.length c), (1, .slice A2 ys.length c2), (5, .int .i64 (k : Int))])
        (fun (k : Nat) w => k ≤ xs.length ∧ Ext w0 w ∧ xs.take k = ys.take k)
        (fun (k : Nat) => xs.length - k) 0 ⟨rfl, rfl, rfl, trivial⟩ ?_ ?_
    · exact ⟨Nat.zero_le _, E, by simp⟩
    rintro k w ⟨hk, E, hall⟩
    show St _ _ [(0, .slice A xs.length c), (1, .slice A2 ys.length c2), (5, .int .i64 (k : Int))] _ _
    refine St.seq fun K6 hK6 => ?_
    refine St.seq fun K7 hK7 => ?_
    refine St.region ?_
    refine St.r (R.move rfl) rfl rfl ?_
    refine St.r (R.move rfl) rfl rfl ?_
    refine St.r (R.lenSl Tryz.underlying24 rfl) rfl rfl ?_
    refine St.r (R.lss rfl rfl) rfl rfl ?_
    refine St.nil ?_
    refine St.weak [(0, _), (1, _), (5, _), (14, _)] ⟨rfl, rfl, rfl, rfl, trivial⟩ ?_
    refine St.then_n ?_
    refine St.go hK7 ?_
    clear hK7
    refine St.condD rfl (fun h14 => ?_) (fun h14 => ?_)
    ·
      obtain ⟨x, hx⟩ := get_of_lt (xs := xs) (k := k) (by omega)
      obtain ⟨y, hy⟩ := get_of_lt (xs := ys) (k := k) (by omega)
      obtain ⟨b, o, rfl, hxc⟩ := hv.get' hx
      obtain ⟨b2, o2, rfl, hyc⟩ := hu.get' hy
      refine St.skip ?_
      refine St.then_n ?_
      refine St.go hK6 ?_
      clear hK6
      refine St.seq fun K8 hK8 => ?_
      refine St.block ?_
      refine St.seq fun K9 hK9 => ?_
      refine St.weak [(0, _), (1, _), (5, _)] ⟨rfl, rfl, rfl, trivial⟩ ?_
      refine St.draw mixed rfl rfl rfl rfl ?_
      replace E := Ext.trans E (Ext.drew _)
      refine ⟨_, OpOk.r (R.move rfl) rfl, ?_⟩
      refine ⟨_, OpOk.r (R.move rfl) rfl, ?_⟩
      refine ⟨_, OpOk.r (R.indexS k Tryz.underlying24 Tryz.sizeOf48 rfl rfl rfl (by omega)) rfl, ?_⟩
      refine ⟨_, OpOk.r (R.loadA Tryz.isAgg48 Tryz.sizeOf48 rfl (E.cells hxc) rfl) rfl, ?_⟩
      refine ⟨_, OpOk.r (R.move rfl) rfl, ?_⟩
      refine ⟨_, OpOk.r (R.move rfl) rfl, ?_⟩
      refine ⟨_, OpOk.r (R.indexS k Tryz.underlying24 Tryz.sizeOf48 rfl rfl rfl (by omega)) rfl, ?_⟩
      refine ⟨_, OpOk.r (R.loadA Tryz.isAgg48 Tryz.sizeOf48 rfl (E.cells hyc) rfl) rfl, ?_⟩
      refine ⟨_, OpOk.r (R.neAgg Tryz.eqGuardType48 (eqPat x y) rfl rfl) rfl, ?_⟩
      show St _ _ _ _ _
      refine St.weak [(0, _), (1, _), (5, _), (25, _)] ⟨rfl, rfl, rfl, rfl, trivial⟩ ?_
      refine St.then_n ?_
      refine St.go hK9 ?_
      clear hK9
      refine St.cond rfl (fun h25 => ?_) (fun h25 => ?_)
      ·
        replace h25 : x ≠ y := by simpa using h25
        refine St.seq fun K10 hK10 => ?_
        refine St.region ?_
        refine St.r (R.assign rfl) rfl rfl ?_
        refine St.nil ?_
        refine St.weak [(4, _)] ⟨rfl, trivial⟩ ?_
        refine St.then_n ?_
        refine St.go hK10 ?_
        clear hK10
        refine St.ret ?_
        refine St.in_r ?_
        refine St.then_r ?_
        refine St.then_r ?_
        refine St.in_r ?_
        refine St.then_r ?_
        refine St.ret1 Tryz.results70 rfl ?_
        exact ⟨_, rfl, by rw [decide_eq_false (fun e => h25 (by subst e; rw [hx] at hy; injection hy))], E⟩
      ·
        replace h25 : ¬ x ≠ y := by simpa using h25
        refine St.skip ?_
        refine St.in_n ?_
        refine St.then_n ?_
        refine St.go hK8 ?_
        clear hK8
        refine St.region ?_
        refine St.r (R.move rfl) rfl rfl ?_
        refine St.r (R.add rfl rfl (by omega) (by omega)) rfl rfl ?_
        refine St.r (R.assign rfl) rfl rfl ?_
        refine St.nil ?_
        refine St.weak [(0, _), (1, _), (5, _)] ⟨rfl, rfl, rfl, trivial⟩ ?_
        refine St.then_n ?_
        refine St.round (k + 1) ⟨rfl, rfl, rfl, trivial⟩ ?_ ?_
        · refine ⟨by omega, E, ?_⟩
          rw [take_snoc hx, take_snoc hy, hall]
          congr 2
          exact Decidable.not_not.1 h25
        · omega
    ·
      refine St.exit ?_
      refine St.then_x ?_
      refine St.then_x ?_
      refine St.in_x ?_
      refine St.then_n ?_
      refine St.go hK4 ?_
      clear hK4
      refine St.seq fun K11 hK11 => ?_
      refine St.region ?_
      refine St.r (R.assign rfl) rfl rfl ?_
      refine St.nil ?_
      refine St.weak [(4, _)] ⟨rfl, trivial⟩ ?_
      refine St.then_n ?_
      refine St.go hK11 ?_
      clear hK11
      refine St.ret ?_
      refine St.ret1 Tryz.results70 rfl ?_
      rw [List.take_of_length_le (by omega), List.take_of_length_le (by omega)] at hall
      exact ⟨_, rfl, by rw [decide_eq_true hall], E⟩

set_option maxHeartbeats 1000000 in
theorem sQuery_ret {a b : Query} {cs ds : List Value} (w0 : World) (ha : RQuery w0 cs a) (hb : RQuery w0 ds b) : Ret Tryz.prog 17 [.agg cs.toArray, .agg ds.toArray] w0 fun r w' => r = .bool (sameQ a b) ∧ Ext w0 w' := by
  obtain ⟨va, pa, rfl, hav, hap⟩ := ha
  obtain ⟨vb, pb, rfl, hbv, hbp⟩ := hb
  have E : Ext w0 w0 := Ext.refl w0
  refine St.enter (N := 49) Tryz.func17 rfl Tryz.ntmps17 rfl ?_
  refine St.seq fun K0 hK0 => ?_
  refine St.region ?_
  refine St.box rfl rfl ?_
  intro w2 b2 hb2 hs2 e2 k2
  have qE2 := E.size
  replace E := Ext.trans E e2
  refine St.box rfl rfl ?_
  intro w3 b3 hb3 hs3 e3 k3
  have qE3 := E.size
  replace E := Ext.trans E e3
  replace k2 := k2.ext e3
  refine St.r (R.assign rfl) rfl rfl ?_
  refine St.nil ?_
  refine St.weak [(2, _), (3, _)] ⟨rfl, rfl, trivial⟩ ?_
  refine St.then_n ?_
  refine St.go hK0 ?_
  clear hK0
  refine St.seq fun K1 hK1 => ?_
  refine St.region ?_
  refine St.r (R.fieldA Tryz.underlying26 rfl Tryz.sizeOf23 rfl rfl rfl) rfl rfl ?_
  refine St.r (R.load1 Tryz.isAgg23 rfl (k2.cells.at 0 rfl)) rfl rfl ?_
  refine St.r (R.fieldA Tryz.underlying26 rfl Tryz.sizeOf23 rfl rfl rfl) rfl rfl ?_
  refine St.r (R.load1 Tryz.isAgg23 rfl (k3.cells.at 0 rfl)) rfl rfl ?_
  refine St.call rfl rfl ent25 (Texts_ret _ (hav.ext (REnc.firm _) E) (hbv.ext (REnc.firm _) E)) rfl ?_
  rintro r11 w11 ⟨rfl, e11⟩
  replace E := Ext.trans E e11
  replace k2 := k2.ext e11
  replace k3 := k3.ext e11
  refine St.r (R.assign rfl) rfl rfl ?_
  refine St.nil ?_
  refine St.weak [(2, _), (3, _), (5, _)] ⟨rfl, rfl, rfl, trivial⟩ ?_
  refine St.then_n ?_
  refine St.go hK1 ?_
  clear hK1
  refine St.seq fun K2 hK2 => ?_
  refine St.region ?_
  refine St.r (R.fieldA Tryz.underlying26 rfl Tryz.sizeOf24 rfl rfl rfl) rfl rfl ?_
  refine St.r (R.load1 Tryz.isAgg24 rfl (k2.cells.at 1 rfl)) rfl rfl ?_
  refine St.r (R.fieldA Tryz.underlying26 rfl Tryz.sizeOf24 rfl rfl rfl) rfl rfl ?_
  refine St.r (R.load1 Tryz.isAgg24 rfl (k3.cells.at 1 rfl)) rfl rfl ?_
  refine St.call rfl rfl ent70 (Parts_ret _ (hap.ext (REnc.firm _) E) (hbp.ext (REnc.firm _) E)) rfl ?_
  rintro r16 w16 ⟨rfl, e16⟩
  replace E := Ext.trans E e16
  replace k2 := k2.ext e16
  replace k3 := k3.ext e16
  refine St.r (R.assign rfl) rfl rfl ?_
  refine St.nil ?_
  refine St.weak [(2, _), (3, _), (5, _), (6, _)] ⟨rfl, rfl, rfl, rfl, trivial⟩ ?_
  refine St.then_n ?_
  refine St.go hK2 ?_
  clear hK2
  refine St.seq fun K3 hK3 => ?_
  by_cases h17 : a.vars = b.vars
  ·
    by_cases h19 : a.parts = b.parts
    ·
      by_cases h26 : a.order = b.order
      ·
        by_cases h33 : a.down = b.down
        ·
          by_cases h40 : a.distinct = b.distinct
          ·
            refine St.region ?_
            refine St.r (Runs.lit (c := true) (R.move rfl) (decide_eq_true h17)) rfl rfl ?_
            refine St.r (R.move rfl) rfl rfl ?_
            refine St.take (dg := 18) rfl rfl ?_ rfl
            refine St.r (Runs.lit (c := true) (R.move rfl) (decide_eq_true h19)) rfl rfl ?_
            refine St.r (R.pickT rfl rfl) rfl rfl ?_
            refine St.r (R.move rfl) rfl rfl ?_
            refine St.take (dg := 21) rfl rfl ?_ rfl
            refine St.r (R.fieldA Tryz.underlying26 rfl Tryz.sizeOf9 rfl rfl rfl) rfl rfl ?_
            refine St.take (dg := 21) rfl rfl ?_ rfl
            refine St.r (R.load1 Tryz.isAgg9 rfl (k2.cells.at 2 rfl)) rfl rfl ?_
            refine St.take (dg := 21) rfl rfl ?_ rfl
            refine St.r (R.fieldA Tryz.underlying26 rfl Tryz.sizeOf9 rfl rfl rfl) rfl rfl ?_
            refine St.take (dg := 21) rfl rfl ?_ rfl
            refine St.r (R.load1 Tryz.isAgg9 rfl (k3.cells.at 2 rfl)) rfl rfl ?_
            refine St.take (dg := 21) rfl rfl ?_ rfl
            refine St.r (Runs.lit (c := true) (R.eqS rfl rfl) (decide_eq_true h26)) rfl rfl ?_
            refine St.r (R.pickT rfl rfl) rfl rfl ?_
            refine St.r (R.move rfl) rfl rfl ?_
            refine St.take (dg := 28) rfl rfl ?_ rfl
            refine St.r (R.fieldA Tryz.underlying26 rfl Tryz.sizeOf4 rfl rfl rfl) rfl rfl ?_
            refine St.take (dg := 28) rfl rfl ?_ rfl
            refine St.r (R.load1 Tryz.isAgg4 rfl (k2.cells.at 3 rfl)) rfl rfl ?_
            refine St.take (dg := 28) rfl rfl ?_ rfl
            refine St.r (R.fieldA Tryz.underlying26 rfl Tryz.sizeOf4 rfl rfl rfl) rfl rfl ?_
            refine St.take (dg := 28) rfl rfl ?_ rfl
            refine St.r (R.load1 Tryz.isAgg4 rfl (k3.cells.at 3 rfl)) rfl rfl ?_
            refine St.take (dg := 28) rfl rfl ?_ rfl
            refine St.r (Runs.lit (c := true) (R.eqB Tryz.underlying4 rfl rfl) ((by simp [h33]))) rfl rfl ?_
            refine St.r (R.pickT rfl rfl) rfl rfl ?_
            refine St.r (R.move rfl) rfl rfl ?_
            refine St.take (dg := 35) rfl rfl ?_ rfl
            refine St.r (R.fieldA Tryz.underlying26 rfl Tryz.sizeOf4 rfl rfl rfl) rfl rfl ?_
            refine St.take (dg := 35) rfl rfl ?_ rfl
            refine St.r (R.load1 Tryz.isAgg4 rfl (k2.cells.at 4 rfl)) rfl rfl ?_
            refine St.take (dg := 35) rfl rfl ?_ rfl
            refine St.r (R.fieldA Tryz.underlying26 rfl Tryz.sizeOf4 rfl rfl rfl) rfl rfl ?_
            refine St.take (dg := 35) rfl rfl ?_ rfl
            refine St.r (R.load1 Tryz.isAgg4 rfl (k3.cells.at 4 rfl)) rfl rfl ?_
            refine St.take (dg := 35) rfl rfl ?_ rfl
            refine St.r (Runs.lit (c := true) (R.eqB Tryz.underlying4 rfl rfl) ((by simp [h40]))) rfl rfl ?_
            refine St.r (R.pickT rfl rfl) rfl rfl ?_
            refine St.r (R.move rfl) rfl rfl ?_
            refine St.take (dg := 42) rfl rfl ?_ rfl
            refine St.r (R.fieldA Tryz.underlying26 rfl Tryz.sizeOf3 rfl rfl rfl) rfl rfl ?_
            refine St.take (dg := 42) rfl rfl ?_ rfl
            refine St.r (R.load1 Tryz.isAgg3 rfl (k2.cells.at 5 rfl)) rfl rfl ?_
            refine St.take (dg := 42) rfl rfl ?_ rfl
            refine St.r (R.fieldA Tryz.underlying26 rfl Tryz.sizeOf3 rfl rfl rfl) rfl rfl ?_
            refine St.take (dg := 42) rfl rfl ?_ rfl
            refine St.r (R.load1 Tryz.isAgg3 rfl (k3.cells.at 5 rfl)) rfl rfl ?_
            refine St.take (dg := 42) rfl rfl ?_ rfl
            refine St.r (R.eql rfl rfl) rfl rfl ?_
            refine St.r (R.pickT rfl rfl) rfl rfl ?_
            refine St.r (R.assign rfl) rfl rfl ?_
            refine St.nil ?_
            refine St.weak [(4, _)] ⟨rfl, trivial⟩ ?_
            refine St.then_n ?_
            refine St.go hK3 ?_
            clear hK3
            refine St.ret ?_
            refine St.ret1 Tryz.results17 rfl ?_
            exact ⟨_, rfl, by simp [sameQ, h17, h19, h26, h33, h40], E⟩
          ·
            refine St.region ?_
            refine St.r (Runs.lit (c := true) (R.move rfl) (decide_eq_true h17)) rfl rfl ?_
            refine St.r (R.move rfl) rfl rfl ?_
            refine St.take (dg := 18) rfl rfl ?_ rfl
            refine St.r (Runs.lit (c := true) (R.move rfl) (decide_eq_true h19)) rfl rfl ?_
            refine St.r (R.pickT rfl rfl) rfl rfl ?_
            refine St.r (R.move rfl) rfl rfl ?_
            refine St.take (dg := 21) rfl rfl ?_ rfl
            refine St.r (R.fieldA Tryz.underlying26 rfl Tryz.sizeOf9 rfl rfl rfl) rfl rfl ?_
            refine St.take (dg := 21) rfl rfl ?_ rfl
            refine St.r (R.load1 Tryz.isAgg9 rfl (k2.cells.at 2 rfl)) rfl rfl ?_
            refine St.take (dg := 21) rfl rfl ?_ rfl
            refine St.r (R.fieldA Tryz.underlying26 rfl Tryz.sizeOf9 rfl rfl rfl) rfl rfl ?_
            refine St.take (dg := 21) rfl rfl ?_ rfl
            refine St.r (R.load1 Tryz.isAgg9 rfl (k3.cells.at 2 rfl)) rfl rfl ?_
            refine St.take (dg := 21) rfl rfl ?_ rfl
            refine St.r (Runs.lit (c := true) (R.eqS rfl rfl) (decide_eq_true h26)) rfl rfl ?_
            refine St.r (R.pickT rfl rfl) rfl rfl ?_
            refine St.r (R.move rfl) rfl rfl ?_
            refine St.take (dg := 28) rfl rfl ?_ rfl
            refine St.r (R.fieldA Tryz.underlying26 rfl Tryz.sizeOf4 rfl rfl rfl) rfl rfl ?_
            refine St.take (dg := 28) rfl rfl ?_ rfl
            refine St.r (R.load1 Tryz.isAgg4 rfl (k2.cells.at 3 rfl)) rfl rfl ?_
            refine St.take (dg := 28) rfl rfl ?_ rfl
            refine St.r (R.fieldA Tryz.underlying26 rfl Tryz.sizeOf4 rfl rfl rfl) rfl rfl ?_
            refine St.take (dg := 28) rfl rfl ?_ rfl
            refine St.r (R.load1 Tryz.isAgg4 rfl (k3.cells.at 3 rfl)) rfl rfl ?_
            refine St.take (dg := 28) rfl rfl ?_ rfl
            refine St.r (Runs.lit (c := true) (R.eqB Tryz.underlying4 rfl rfl) ((by simp [h33]))) rfl rfl ?_
            refine St.r (R.pickT rfl rfl) rfl rfl ?_
            refine St.r (R.move rfl) rfl rfl ?_
            refine St.take (dg := 35) rfl rfl ?_ rfl
            refine St.r (R.fieldA Tryz.underlying26 rfl Tryz.sizeOf4 rfl rfl rfl) rfl rfl ?_
            refine St.take (dg := 35) rfl rfl ?_ rfl
            refine St.r (R.load1 Tryz.isAgg4 rfl (k2.cells.at 4 rfl)) rfl rfl ?_
            refine St.take (dg := 35) rfl rfl ?_ rfl
            refine St.r (R.fieldA Tryz.underlying26 rfl Tryz.sizeOf4 rfl rfl rfl) rfl rfl ?_
            refine St.take (dg := 35) rfl rfl ?_ rfl
            refine St.r (R.load1 Tryz.isAgg4 rfl (k3.cells.at 4 rfl)) rfl rfl ?_
            refine St.take (dg := 35) rfl rfl ?_ rfl
            refine St.r (Runs.lit (c := false) (R.eqB Tryz.underlying4 rfl rfl) ((by simp [h40]))) rfl rfl ?_
            refine St.r (R.pickT rfl rfl) rfl rfl ?_
            refine St.r (R.move rfl) rfl rfl ?_
            refine St.pass (dg := 42) rfl rfl rfl rfl rfl ?_
            refine St.pass (dg := 42) rfl rfl rfl rfl rfl ?_
            refine St.pass (dg := 42) rfl rfl rfl rfl rfl ?_
            refine St.pass (dg := 42) rfl rfl rfl rfl rfl ?_
            refine St.pass (dg := 42) rfl rfl rfl rfl rfl ?_
            refine St.r (R.pickF rfl rfl) rfl rfl ?_
            refine St.r (R.assign rfl) rfl rfl ?_
            refine St.nil ?_
            refine St.weak [(4, _)] ⟨rfl, trivial⟩ ?_
            refine St.then_n ?_
            refine St.go hK3 ?_
            clear hK3
            refine St.ret ?_
            refine St.ret1 Tryz.results17 rfl ?_
            exact ⟨_, rfl, by simp [sameQ, h40], E⟩
        ·
          refine St.region ?_
          refine St.r (Runs.lit (c := true) (R.move rfl) (decide_eq_true h17)) rfl rfl ?_
          refine St.r (R.move rfl) rfl rfl ?_
          refine St.take (dg := 18) rfl rfl ?_ rfl
          refine St.r (Runs.lit (c := true) (R.move rfl) (decide_eq_true h19)) rfl rfl ?_
          refine St.r (R.pickT rfl rfl) rfl rfl ?_
          refine St.r (R.move rfl) rfl rfl ?_
          refine St.take (dg := 21) rfl rfl ?_ rfl
          refine St.r (R.fieldA Tryz.underlying26 rfl Tryz.sizeOf9 rfl rfl rfl) rfl rfl ?_
          refine St.take (dg := 21) rfl rfl ?_ rfl
          refine St.r (R.load1 Tryz.isAgg9 rfl (k2.cells.at 2 rfl)) rfl rfl ?_
          refine St.take (dg := 21) rfl rfl ?_ rfl
          refine St.r (R.fieldA Tryz.underlying26 rfl Tryz.sizeOf9 rfl rfl rfl) rfl rfl ?_
          refine St.take (dg := 21) rfl rfl ?_ rfl
          refine St.r (R.load1 Tryz.isAgg9 rfl (k3.cells.at 2 rfl)) rfl rfl ?_
          refine St.take (dg := 21) rfl rfl ?_ rfl
          refine St.r (Runs.lit (c := true) (R.eqS rfl rfl) (decide_eq_true h26)) rfl rfl ?_
          refine St.r (R.pickT rfl rfl) rfl rfl ?_
          refine St.r (R.move rfl) rfl rfl ?_
          refine St.take (dg := 28) rfl rfl ?_ rfl
          refine St.r (R.fieldA Tryz.underlying26 rfl Tryz.sizeOf4 rfl rfl rfl) rfl rfl ?_
          refine St.take (dg := 28) rfl rfl ?_ rfl
          refine St.r (R.load1 Tryz.isAgg4 rfl (k2.cells.at 3 rfl)) rfl rfl ?_
          refine St.take (dg := 28) rfl rfl ?_ rfl
          refine St.r (R.fieldA Tryz.underlying26 rfl Tryz.sizeOf4 rfl rfl rfl) rfl rfl ?_
          refine St.take (dg := 28) rfl rfl ?_ rfl
          refine St.r (R.load1 Tryz.isAgg4 rfl (k3.cells.at 3 rfl)) rfl rfl ?_
          refine St.take (dg := 28) rfl rfl ?_ rfl
          refine St.r (Runs.lit (c := false) (R.eqB Tryz.underlying4 rfl rfl) ((by simp [h33]))) rfl rfl ?_
          refine St.r (R.pickT rfl rfl) rfl rfl ?_
          refine St.r (R.move rfl) rfl rfl ?_
          refine St.pass (dg := 35) rfl rfl rfl rfl rfl ?_
          refine St.pass (dg := 35) rfl rfl rfl rfl rfl ?_
          refine St.pass (dg := 35) rfl rfl rfl rfl rfl ?_
          refine St.pass (dg := 35) rfl rfl rfl rfl rfl ?_
          refine St.pass (dg := 35) rfl rfl rfl rfl rfl ?_
          refine St.r (R.pickF rfl rfl) rfl rfl ?_
          refine St.r (R.move rfl) rfl rfl ?_
          refine St.pass (dg := 42) rfl rfl rfl rfl rfl ?_
          refine St.pass (dg := 42) rfl rfl rfl rfl rfl ?_
          refine St.pass (dg := 42) rfl rfl rfl rfl rfl ?_
          refine St.pass (dg := 42) rfl rfl rfl rfl rfl ?_
          refine St.pass (dg := 42) rfl rfl rfl rfl rfl ?_
          refine St.r (R.pickF rfl rfl) rfl rfl ?_
          refine St.r (R.assign rfl) rfl rfl ?_
          refine St.nil ?_
          refine St.weak [(4, _)] ⟨rfl, trivial⟩ ?_
          refine St.then_n ?_
          refine St.go hK3 ?_
          clear hK3
          refine St.ret ?_
          refine St.ret1 Tryz.results17 rfl ?_
          exact ⟨_, rfl, by simp [sameQ, h33], E⟩
      ·
        refine St.region ?_
        refine St.r (Runs.lit (c := true) (R.move rfl) (decide_eq_true h17)) rfl rfl ?_
        refine St.r (R.move rfl) rfl rfl ?_
        refine St.take (dg := 18) rfl rfl ?_ rfl
        refine St.r (Runs.lit (c := true) (R.move rfl) (decide_eq_true h19)) rfl rfl ?_
        refine St.r (R.pickT rfl rfl) rfl rfl ?_
        refine St.r (R.move rfl) rfl rfl ?_
        refine St.take (dg := 21) rfl rfl ?_ rfl
        refine St.r (R.fieldA Tryz.underlying26 rfl Tryz.sizeOf9 rfl rfl rfl) rfl rfl ?_
        refine St.take (dg := 21) rfl rfl ?_ rfl
        refine St.r (R.load1 Tryz.isAgg9 rfl (k2.cells.at 2 rfl)) rfl rfl ?_
        refine St.take (dg := 21) rfl rfl ?_ rfl
        refine St.r (R.fieldA Tryz.underlying26 rfl Tryz.sizeOf9 rfl rfl rfl) rfl rfl ?_
        refine St.take (dg := 21) rfl rfl ?_ rfl
        refine St.r (R.load1 Tryz.isAgg9 rfl (k3.cells.at 2 rfl)) rfl rfl ?_
        refine St.take (dg := 21) rfl rfl ?_ rfl
        refine St.r (Runs.lit (c := false) (R.eqS rfl rfl) (decide_eq_false h26)) rfl rfl ?_
        refine St.r (R.pickT rfl rfl) rfl rfl ?_
        refine St.r (R.move rfl) rfl rfl ?_
        refine St.pass (dg := 28) rfl rfl rfl rfl rfl ?_
        refine St.pass (dg := 28) rfl rfl rfl rfl rfl ?_
        refine St.pass (dg := 28) rfl rfl rfl rfl rfl ?_
        refine St.pass (dg := 28) rfl rfl rfl rfl rfl ?_
        refine St.pass (dg := 28) rfl rfl rfl rfl rfl ?_
        refine St.r (R.pickF rfl rfl) rfl rfl ?_
        refine St.r (R.move rfl) rfl rfl ?_
        refine St.pass (dg := 35) rfl rfl rfl rfl rfl ?_
        refine St.pass (dg := 35) rfl rfl rfl rfl rfl ?_
        refine St.pass (dg := 35) rfl rfl rfl rfl rfl ?_
        refine St.pass (dg := 35) rfl rfl rfl rfl rfl ?_
        refine St.pass (dg := 35) rfl rfl rfl rfl rfl ?_
        refine St.r (R.pickF rfl rfl) rfl rfl ?_
        refine St.r (R.move rfl) rfl rfl ?_
        refine St.pass (dg := 42) rfl rfl rfl rfl rfl ?_
        refine St.pass (dg := 42) rfl rfl rfl rfl rfl ?_
        refine St.pass (dg := 42) rfl rfl rfl rfl rfl ?_
        refine St.pass (dg := 42) rfl rfl rfl rfl rfl ?_
        refine St.pass (dg := 42) rfl rfl rfl rfl rfl ?_
        refine St.r (R.pickF rfl rfl) rfl rfl ?_
        refine St.r (R.assign rfl) rfl rfl ?_
        refine St.nil ?_
        refine St.weak [(4, _)] ⟨rfl, trivial⟩ ?_
        refine St.then_n ?_
        refine St.go hK3 ?_
        clear hK3
        refine St.ret ?_
        refine St.ret1 Tryz.results17 rfl ?_
        exact ⟨_, rfl, by simp [sameQ, h26], E⟩
    ·
      refine St.region ?_
      refine St.r (Runs.lit (c := true) (R.move rfl) (decide_eq_true h17)) rfl rfl ?_
      refine St.r (R.move rfl) rfl rfl ?_
      refine St.take (dg := 18) rfl rfl ?_ rfl
      refine St.r (Runs.lit (c := false) (R.move rfl) (decide_eq_false h19)) rfl rfl ?_
      refine St.r (R.pickT rfl rfl) rfl rfl ?_
      refine St.r (R.move rfl) rfl rfl ?_
      refine St.pass (dg := 21) rfl rfl rfl rfl rfl ?_
      refine St.pass (dg := 21) rfl rfl rfl rfl rfl ?_
      refine St.pass (dg := 21) rfl rfl rfl rfl rfl ?_
      refine St.pass (dg := 21) rfl rfl rfl rfl rfl ?_
      refine St.pass (dg := 21) rfl rfl rfl rfl rfl ?_
      refine St.r (R.pickF rfl rfl) rfl rfl ?_
      refine St.r (R.move rfl) rfl rfl ?_
      refine St.pass (dg := 28) rfl rfl rfl rfl rfl ?_
      refine St.pass (dg := 28) rfl rfl rfl rfl rfl ?_
      refine St.pass (dg := 28) rfl rfl rfl rfl rfl ?_
      refine St.pass (dg := 28) rfl rfl rfl rfl rfl ?_
      refine St.pass (dg := 28) rfl rfl rfl rfl rfl ?_
      refine St.r (R.pickF rfl rfl) rfl rfl ?_
      refine St.r (R.move rfl) rfl rfl ?_
      refine St.pass (dg := 35) rfl rfl rfl rfl rfl ?_
      refine St.pass (dg := 35) rfl rfl rfl rfl rfl ?_
      refine St.pass (dg := 35) rfl rfl rfl rfl rfl ?_
      refine St.pass (dg := 35) rfl rfl rfl rfl rfl ?_
      refine St.pass (dg := 35) rfl rfl rfl rfl rfl ?_
      refine St.r (R.pickF rfl rfl) rfl rfl ?_
      refine St.r (R.move rfl) rfl rfl ?_
      refine St.pass (dg := 42) rfl rfl rfl rfl rfl ?_
      refine St.pass (dg := 42) rfl rfl rfl rfl rfl ?_
      refine St.pass (dg := 42) rfl rfl rfl rfl rfl ?_
      refine St.pass (dg := 42) rfl rfl rfl rfl rfl ?_
      refine St.pass (dg := 42) rfl rfl rfl rfl rfl ?_
      refine St.r (R.pickF rfl rfl) rfl rfl ?_
      refine St.r (R.assign rfl) rfl rfl ?_
      refine St.nil ?_
      refine St.weak [(4, _)] ⟨rfl, trivial⟩ ?_
      refine St.then_n ?_
      refine St.go hK3 ?_
      clear hK3
      refine St.ret ?_
      refine St.ret1 Tryz.results17 rfl ?_
      exact ⟨_, rfl, by simp [sameQ, h19], E⟩
  ·
    refine St.region ?_
    refine St.r (Runs.lit (c := false) (R.move rfl) (decide_eq_false h17)) rfl rfl ?_
    refine St.r (R.move rfl) rfl rfl ?_
    refine St.pass (dg := 18) rfl rfl rfl rfl rfl ?_
    refine St.r (R.pickF rfl rfl) rfl rfl ?_
    refine St.r (R.move rfl) rfl rfl ?_
    refine St.pass (dg := 21) rfl rfl rfl rfl rfl ?_
    refine St.pass (dg := 21) rfl rfl rfl rfl rfl ?_
    refine St.pass (dg := 21) rfl rfl rfl rfl rfl ?_
    refine St.pass (dg := 21) rfl rfl rfl rfl rfl ?_
    refine St.pass (dg := 21) rfl rfl rfl rfl rfl ?_
    refine St.r (R.pickF rfl rfl) rfl rfl ?_
    refine St.r (R.move rfl) rfl rfl ?_
    refine St.pass (dg := 28) rfl rfl rfl rfl rfl ?_
    refine St.pass (dg := 28) rfl rfl rfl rfl rfl ?_
    refine St.pass (dg := 28) rfl rfl rfl rfl rfl ?_
    refine St.pass (dg := 28) rfl rfl rfl rfl rfl ?_
    refine St.pass (dg := 28) rfl rfl rfl rfl rfl ?_
    refine St.r (R.pickF rfl rfl) rfl rfl ?_
    refine St.r (R.move rfl) rfl rfl ?_
    refine St.pass (dg := 35) rfl rfl rfl rfl rfl ?_
    refine St.pass (dg := 35) rfl rfl rfl rfl rfl ?_
    refine St.pass (dg := 35) rfl rfl rfl rfl rfl ?_
    refine St.pass (dg := 35) rfl rfl rfl rfl rfl ?_
    refine St.pass (dg := 35) rfl rfl rfl rfl rfl ?_
    refine St.r (R.pickF rfl rfl) rfl rfl ?_
    refine St.r (R.move rfl) rfl rfl ?_
    refine St.pass (dg := 42) rfl rfl rfl rfl rfl ?_
    refine St.pass (dg := 42) rfl rfl rfl rfl rfl ?_
    refine St.pass (dg := 42) rfl rfl rfl rfl rfl ?_
    refine St.pass (dg := 42) rfl rfl rfl rfl rfl ?_
    refine St.pass (dg := 42) rfl rfl rfl rfl rfl ?_
    refine St.r (R.pickF rfl rfl) rfl rfl ?_
    refine St.r (R.assign rfl) rfl rfl ?_
    refine St.nil ?_
    refine St.weak [(4, _)] ⟨rfl, trivial⟩ ?_
    refine St.then_n ?_
    refine St.go hK3 ?_
    clear hK3
    refine St.ret ?_
    refine St.ret1 Tryz.results17 rfl ?_
    exact ⟨_, rfl, by simp [sameQ, h17], E⟩

set_option maxHeartbeats 4000000 in
set_option maxRecDepth 100000 in
theorem Swap_ret {q : Query} {cs : List Value} {o : List Int} {ov : Value} (w0 : World) (hq : RQuery w0 cs q) (ho : RInts w0 ov o) (np : q.parts.length * 168 ≤ 140737488351232) (nv : q.vars.length * 16 ≤ 140737488351232) : Ret Tryz.prog 16 [.agg cs.toArray, ov] w0 fun r w' => ∃ cs', r = .tuple #[.agg cs'.toArray, errV 119 (swapErr q o)] ∧ RQuery w' cs' (if (swapErr q o).isSome then zeroQ else swapQ q o) ∧ Ext w0 w' := by
  obtain ⟨vv, pv, rfl, hvv, hpv⟩ := hq
  obtain ⟨PA, PC, rfl, -, -⟩ := hpv.form
  obtain ⟨OA, OC, rfl, -, -⟩ := ho.form
  have E : Ext w0 w0 := Ext.refl w0
  refine St.enter (N := 64) Tryz.func16 rfl Tryz.ntmps16 rfl ?_
  refine St.seq fun K0 hK0 => ?_
  refine St.region ?_
  refine St.box rfl rfl ?_
  intro w2 b2 hb2 hs2 e2 k2
  have qE2 := E.size
  replace E := Ext.trans E e2
  refine St.alloc Tryz.zeroValue26 rfl ?_
  intro w4 b4 hb4 hs4 e4 k4
  have qE4 := E.size
  replace E := Ext.trans E e4
  replace k2 := k2.ext e4
  refine St.r (R.assign rfl) rfl rfl ?_
  refine St.nil ?_
  refine St.weak [(1, _), (2, _), (4, _)] ⟨rfl, rfl, rfl, trivial⟩ ?_
  refine St.then_n ?_
  refine St.go hK0 ?_
  clear hK0
  refine St.seq fun K1 hK1 => ?_
  refine St.region ?_
  refine St.r (R.fieldA Tryz.underlying26 rfl Tryz.sizeOf24 rfl rfl rfl) rfl rfl ?_
  refine St.r (R.load1 Tryz.isAgg24 rfl (k2.cells.at 1 rfl)) rfl rfl ?_
  refine St.r (R.lenSl Tryz.underlying24 rfl) rfl rfl ?_
  refine St.r (R.assign rfl) rfl rfl ?_
  refine St.nil ?_
  refine St.weak [(1, _), (2, _), (4, _), (6, _)] ⟨rfl, rfl, rfl, rfl, trivial⟩ ?_
  refine St.then_n ?_
  refine St.go hK1 ?_
  clear hK1
  refine St.seq fun K2 hK2 => ?_
  refine St.region ?_
  refine St.r (R.move rfl) rfl rfl ?_
  refine St.makeSl (n := q.parts.length) Tryz.underlying125 info4 rfl rfl rfl rfl (by omega) (by omega) rfl ?_
  intro w15 b15 hb15 hs15 e15 k15
  have qE15 := E.size
  replace E := Ext.trans E e15
  replace k2 := k2.ext e15
  replace k4 := k4.ext e15
  rw [marks_nil] at k15
  refine St.r (R.assign rfl) rfl rfl ?_
  refine St.nil ?_
  refine St.weak [(1, _), (2, _), (4, _), (6, _), (7, _)] ⟨rfl, rfl, rfl, rfl, rfl, trivial⟩ ?_
  refine St.then_n ?_
  refine St.go hK2 ?_
  clear hK2
  refine St.seq fun K3 hK3 => ?_
  refine St.seq fun K4 hK4 => ?_
  refine St.region ?_
  refine St.r (R.move rfl) rfl rfl ?_
  refine St.r (R.lenSl Tryz.underlying27 rfl) rfl rfl ?_
  refine St.r (R.move rfl) rfl rfl ?_
  refine St.r (R.neq rfl rfl) rfl rfl ?_
  refine St.nil ?_
  refine St.weak [(1, _), (2, _), (4, _), (6, _), (7, _), (19, _)] ⟨rfl, rfl, rfl, rfl, rfl, rfl, trivial⟩ ?_
  refine St.then_n ?_
  refine St.go hK4 ?_
  clear hK4
  refine St.condD rfl (fun h19 => ?_) (fun h19 => ?_)
  ·
    have hse : swapErr q o = some 3 := by rw [swapErr, if_pos h19]
    refine St.seq fun K5 hK5 => ?_
    refine St.region ?_
    refine St.r (R.build Tryz.underlying26 (places26 _ Tryz.underlying26) Tryz.zeroValue26 rfl rfl rfl) rfl rfl ?_
    refine St.r (R.iface Tryz.underlying119 rfl rfl) rfl rfl ?_
    refine St.store Tryz.sizeOf26 rfl rfl k4 rfl (by simp [Value.cells]) (by intro u hu; simp [Value.cells] at hu; rcases hu with rfl | rfl | rfl | rfl | rfl | rfl <;> rfl) ?_
    intro ws0 ks0 gs0 zs0
    replace E := Ext.then E gs0 (by intro j hj; omega)
    replace k2 := k2.chg gs0 (by omega)
    replace k15 := k15.chg gs0 (by omega)
    clear k4; have k4 := ks0; clear ks0
    replace k4 : Blk ws0 b4 26 [.slice none 0 0, .slice none 0 0, .string ⟨#[]⟩, .bool false, .bool false, .int .i64 0] := k4
    refine St.r (R.assign rfl) rfl rfl ?_
    refine St.nil ?_
    refine St.weak [(4, _), (5, _)] ⟨rfl, rfl, trivial⟩ ?_
    refine St.then_n ?_
    refine St.go hK5 ?_
    clear hK5
    refine St.ret ?_
    refine St.then_r ?_
    refine St.retAE Tryz.results16 Tryz.isAgg26 Tryz.sizeOf26 rfl rfl k4.cells rfl ?_
    exact ⟨_, rfl, [.slice none 0 0, .slice none 0 0, .string ⟨#[]⟩, .bool false, .bool false, .int .i64 0], by rw [hse]; rfl, by rw [hse]; exact ⟨_, _, rfl, RSl.nil _ _ _, RSl.nil _ _ _⟩, E⟩
  ·
    refine St.skip ?_
    refine St.then_n ?_
    refine St.go hK3 ?_
    clear hK3
    refine St.seq fun K6 hK6 => ?_
    refine St.region ?_
    refine St.r (R.move rfl) rfl rfl ?_
    have hk15 := k15.lt
    refine St.makeCap (enc := encPat) encPat_len (n := q.parts.length) Tryz.underlying24 info48 rfl rfl rfl (by omega) (by omega) rfl ?_
    intro w23 b23 hb23 hs23 e23 ow23
    have qE23 := E.size
    replace E := Ext.trans E e23
    replace k2 := k2.ext e23
    replace k4 := k4.ext e23
    replace k15 := k15.ext e23
    have o8 := ow23 (b15 + 1) (by omega)
    clear ow23
    refine St.r (R.assign rfl) rfl rfl ?_
    refine St.nil ?_
    refine St.weak [(1, _), (2, _), (4, _), (6, _), (7, _), (8, _)] ⟨rfl, rfl, rfl, rfl, rfl, rfl, trivial⟩ ?_
    refine St.then_n ?_
    refine St.go hK6 ?_
    clear hK6
    refine St.seq fun K7 hK7 => ?_
    refine St.seq fun K8 hK8 => ?_
    refine St.region ?_
    refine St.r (R.move rfl) rfl rfl ?_
    refine St.r (R.lenSl Tryz.underlying27 rfl) rfl rfl ?_
    refine St.r (R.move rfl) rfl rfl ?_
    refine St.nil ?_
    refine St.weak [(2, _), (4, _), (6, _), (7, _), (8, _), (24, _), (25, _), (26, _)] ⟨rfl, rfl, rfl, rfl, rfl, rfl, rfl, rfl, trivial⟩ ?_
    refine St.then_n ?_
    refine St.go hK8 ?_
    clear hK8
    refine St.block ?_
    have hb415 : b2 < b15 ∧ b4 < b15 ∧ w0.heap.size ≤ b2 ∧ w0.heap.size ≤ b4 ∧ w0.heap.size ≤ b15 ∧ b2 ≠ b4 := by omega
    replace k4 : Blk _ b4 26 [.slice none 0 0, .slice none 0 0, .string ⟨#[]⟩, .bool false, .bool false, .int .i64 0] := k4
    have zz : b15 + 1 ≤ w23.heap.size := by omega
    refine St.loop (fun (x : Nat × Value) => match x with | (k, pw) => [(2, .pointer (some ⟨b2, 0, none⟩)), (4, .pointer (some ⟨b4, 0, none⟩)), (6, .int .i64 (q.parts.length : Int)), (7, .slice (some ⟨b15, 0, none⟩) q.parts.length q.parts.length), (8, pw), (24, .slice OA o.length OC), (25, .int .i64 (o.length : Int)), (26, .int .i64 (k : Int))])
        (fun (x : Nat × Value) w => match x with | (k, pw) => k ≤ o.length ∧ Ext w0 w ∧ Blk w b2 26 [vv, .slice PA q.parts.length PC, .string q.order, .bool q.down, .bool q.distinct, .int .i64 q.limit] ∧ Blk w b4 26 [.slice none 0 0, .slice none 0 0, .string ⟨#[]⟩, .bool false, .bool false, .int .i64 0] ∧ Blk w b15 4 (marks q.parts.length (o.take k)) ∧ Own encPat 12 (b15 + 1) 48 w pw ((o.take k).map (partAt q.parts)) ∧ (∀ i x, i < k → o[i]? = some x → (0 ≤ x ∧ x < (q.parts.length : Int)) ∧ ¬ x ∈ o.take i) ∧ b15 + 1 ≤ w.heap.size)
        (fun (x : Nat × Value) => match x with | (k, pw) => o.length - k) (0, _) ⟨rfl, rfl, rfl, rfl, rfl, rfl, rfl, rfl, trivial⟩ ?_ ?_
    · exact ⟨Nat.zero_le _, E, k2, k4, k15, o8, fun i x h => by omega, zz⟩
    rintro ⟨k, pw⟩ w ⟨hk, E, k2, k4, k15, o8, hall, zz⟩
    show St _ _ [(2, .pointer (some ⟨b2, 0, none⟩)), (4, .pointer (some ⟨b4, 0, none⟩)), (6, .int .i64 (q.parts.length : Int)), (7, .slice (some ⟨b15, 0, none⟩) q.parts.length q.parts.length), (8, pw), (24, .slice OA o.length OC), (25, .int .i64 (o.length : Int)), (26, .int .i64 (k : Int))] _ _
    refine St.seq fun K9 hK9 => ?_
    refine St.region ?_
    refine St.r (R.lss rfl rfl) rfl rfl ?_
    refine St.nil ?_
    refine St.weak [(2, _), (4, _), (6, _), (7, _), (8, _), (24, _), (25, _), (26, _), (27, _)] ⟨rfl, rfl, rfl, rfl, rfl, rfl, rfl, rfl, rfl, trivial⟩ ?_
    refine St.then_n ?_
    refine St.go hK9 ?_
    clear hK9
    refine St.seq fun K10 hK10 => ?_
    refine St.condD rfl (fun h27 => ?_) (fun h27 => ?_)
    ·
      obtain ⟨x, hx⟩ := get_of_lt (xs := o) (k := k) (by omega)
      obtain ⟨ob, oo, rfl, hxc⟩ := ho.get' hx
      have hzz := zz
      have hlt : (o.take k).length ≤ o.length := by rw [List.length_take]; omega
      refine St.skip ?_
      refine St.then_n ?_
      refine St.go hK10 ?_
      clear hK10
      refine St.seq fun K11 hK11 => ?_
      refine St.block ?_
      refine St.seq fun K12 hK12 => ?_
      refine St.region ?_
      refine St.r (R.indexS k Tryz.underlying27 Tryz.sizeOf3 rfl rfl rfl (by omega)) rfl rfl ?_
      refine St.r (R.load1 Tryz.isAgg3 rfl ((E.cells hxc).at 0 rfl)) rfl rfl ?_
      refine St.r (R.assign rfl) rfl rfl ?_
      refine St.nil ?_
      refine St.weak [(2, _), (4, _), (6, _), (7, _), (8, _), (10, _), (24, _), (25, _), (26, _)] ⟨rfl, rfl, rfl, rfl, rfl, rfl, rfl, rfl, rfl, trivial⟩ ?_
      refine St.then_n ?_
      refine St.go hK12 ?_
      clear hK12
      refine St.seq fun K13 hK13 => ?_
      refine St.seq fun K14 hK14 => ?_
      by_cases h31 : x < 0
      ·
        refine St.region ?_
        refine St.r (R.move rfl) rfl rfl ?_
        refine St.r (Runs.lit (c := true) (R.lss rfl rfl) (decide_eq_true h31)) rfl rfl ?_
        refine St.r (R.move rfl) rfl rfl ?_
        refine St.pass (dg := 32) rfl rfl rfl rfl rfl ?_
        refine St.pass (dg := 32) rfl rfl rfl rfl rfl ?_
        refine St.pass (dg := 32) rfl rfl rfl rfl rfl ?_
        refine St.r (R.pickT rfl rfl) rfl rfl ?_
        refine St.r (R.move rfl) rfl rfl ?_
        refine St.pass (dg := 37) rfl rfl rfl rfl rfl ?_
        refine St.pass (dg := 37) rfl rfl rfl rfl rfl ?_
        refine St.pass (dg := 37) rfl rfl rfl rfl rfl ?_
        refine St.pass (dg := 37) rfl rfl rfl rfl rfl ?_
        refine St.r (R.pickT rfl rfl) rfl rfl ?_
        refine St.nil ?_
        refine St.weak [(2, _), (4, _), (6, _), (7, _), (8, _), (10, _), (24, _), (25, _), (26, _), (42, _)] ⟨rfl, rfl, rfl, rfl, rfl, rfl, rfl, rfl, rfl, rfl, trivial⟩ ?_
        refine St.then_n ?_
        refine St.go hK14 ?_
        clear hK14
        refine St.condT rfl ?_
        refine St.seq fun K15 hK15 => ?_
        refine St.region ?_
        refine St.r (R.build Tryz.underlying26 (places26 _ Tryz.underlying26) Tryz.zeroValue26 rfl rfl rfl) rfl rfl ?_
        refine St.r (R.iface Tryz.underlying119 rfl rfl) rfl rfl ?_
        refine St.store Tryz.sizeOf26 rfl rfl k4 rfl (by simp [Value.cells]) (by intro u hu; simp [Value.cells] at hu; rcases hu with rfl | rfl | rfl | rfl | rfl | rfl <;> rfl) ?_
        intro ws1 ks1 gs1 zs1
        replace E := Ext.then E gs1 (by intro j hj; omega)
        replace k2 := k2.chg gs1 (by omega)
        replace k15 := k15.chg gs1 (by omega)
        replace o8 := o8.chg gs1 (by intro k hk h; have := (o8.base hk).1; omega)
        replace zz := Nat.le_trans zz (Chg.size gs1)
        clear k4; have k4 := ks1; clear ks1
        replace k4 : Blk ws1 b4 26 [.slice none 0 0, .slice none 0 0, .string ⟨#[]⟩, .bool false, .bool false, .int .i64 0] := k4
        refine St.r (R.assign rfl) rfl rfl ?_
        refine St.nil ?_
        refine St.weak [(4, _), (5, _)] ⟨rfl, rfl, trivial⟩ ?_
        refine St.then_n ?_
        refine St.go hK15 ?_
        clear hK15
        refine St.ret ?_
        refine St.then_r ?_
        refine St.in_r ?_
        refine St.then_r ?_
        refine St.then_r ?_
        refine St.in_r ?_
        refine St.then_r ?_
        refine St.retAE Tryz.results16 Tryz.isAgg26 Tryz.sizeOf26 rfl rfl k4.cells rfl ?_
        have hse : swapErr q o = some 3 := by rw [swapErr, if_neg h19, swapB_false hx (.inl (by omega))]; rfl
        exact ⟨_, rfl, [.slice none 0 0, .slice none 0 0, .string ⟨#[]⟩, .bool false, .bool false, .int .i64 0], by rw [hse]; rfl, by rw [hse]; exact ⟨_, _, rfl, RSl.nil _ _ _, RSl.nil _ _ _⟩, E⟩
      ·
        by_cases h35 : (q.parts.length : Int) ≤ x
        ·
          refine St.region ?_
          refine St.r (R.move rfl) rfl rfl ?_
          refine St.r (Runs.lit (c := false) (R.lss rfl rfl) (decide_eq_false h31)) rfl rfl ?_
          refine St.r (R.move rfl) rfl rfl ?_
          refine St.take (dg := 32) rfl rfl ?_ rfl
          refine St.r (R.move rfl) rfl rfl ?_
          refine St.take (dg := 32) rfl rfl ?_ rfl
          refine St.r (R.move rfl) rfl rfl ?_
          refine St.take (dg := 32) rfl rfl ?_ rfl
          refine St.r (Runs.lit (c := true) (R.geq rfl rfl) (decide_eq_true h35)) rfl rfl ?_
          refine St.r (R.pickF rfl rfl) rfl rfl ?_
          refine St.r (R.move rfl) rfl rfl ?_
          refine St.pass (dg := 37) rfl rfl rfl rfl rfl ?_
          refine St.pass (dg := 37) rfl rfl rfl rfl rfl ?_
          refine St.pass (dg := 37) rfl rfl rfl rfl rfl ?_
          refine St.pass (dg := 37) rfl rfl rfl rfl rfl ?_
          refine St.r (R.pickT rfl rfl) rfl rfl ?_
          refine St.nil ?_
          refine St.weak [(2, _), (4, _), (6, _), (7, _), (8, _), (10, _), (24, _), (25, _), (26, _), (42, _)] ⟨rfl, rfl, rfl, rfl, rfl, rfl, rfl, rfl, rfl, rfl, trivial⟩ ?_
          refine St.then_n ?_
          refine St.go hK14 ?_
          clear hK14
          refine St.condT rfl ?_
          refine St.seq fun K16 hK16 => ?_
          refine St.region ?_
          refine St.r (R.build Tryz.underlying26 (places26 _ Tryz.underlying26) Tryz.zeroValue26 rfl rfl rfl) rfl rfl ?_
          refine St.r (R.iface Tryz.underlying119 rfl rfl) rfl rfl ?_
          refine St.store Tryz.sizeOf26 rfl rfl k4 rfl (by simp [Value.cells]) (by intro u hu; simp [Value.cells] at hu; rcases hu with rfl | rfl | rfl | rfl | rfl | rfl <;> rfl) ?_
          intro ws1 ks1 gs1 zs1
          replace E := Ext.then E gs1 (by intro j hj; omega)
          replace k2 := k2.chg gs1 (by omega)
          replace k15 := k15.chg gs1 (by omega)
          replace o8 := o8.chg gs1 (by intro k hk h; have := (o8.base hk).1; omega)
          replace zz := Nat.le_trans zz (Chg.size gs1)
          clear k4; have k4 := ks1; clear ks1
          replace k4 : Blk ws1 b4 26 [.slice none 0 0, .slice none 0 0, .string ⟨#[]⟩, .bool false, .bool false, .int .i64 0] := k4
          refine St.r (R.assign rfl) rfl rfl ?_
          refine St.nil ?_
          refine St.weak [(4, _), (5, _)] ⟨rfl, rfl, trivial⟩ ?_
          refine St.then_n ?_
          refine St.go hK16 ?_
          clear hK16
          refine St.ret ?_
          refine St.then_r ?_
          refine St.in_r ?_
          refine St.then_r ?_
          refine St.then_r ?_
          refine St.in_r ?_
          refine St.then_r ?_
          refine St.retAE Tryz.results16 Tryz.isAgg26 Tryz.sizeOf26 rfl rfl k4.cells rfl ?_
          have hse : swapErr q o = some 3 := by rw [swapErr, if_neg h19, swapB_false hx (.inl (by omega))]; rfl
          exact ⟨_, rfl, [.slice none 0 0, .slice none 0 0, .string ⟨#[]⟩, .bool false, .bool false, .int .i64 0], by rw [hse]; rfl, by rw [hse]; exact ⟨_, _, rfl, RSl.nil _ _ _, RSl.nil _ _ _⟩, E⟩
        ·
          refine St.region ?_
          refine St.r (R.move rfl) rfl rfl ?_
          refine St.r (Runs.lit (c := false) (R.lss rfl rfl) (decide_eq_false h31)) rfl rfl ?_
          refine St.r (R.move rfl) rfl rfl ?_
          refine St.take (dg := 32) rfl rfl ?_ rfl
          refine St.r (R.move rfl) rfl rfl ?_
          refine St.take (dg := 32) rfl rfl ?_ rfl
          refine St.r (R.move rfl) rfl rfl ?_
          refine St.take (dg := 32) rfl rfl ?_ rfl
          refine St.r (Runs.lit (c := false) (R.geq rfl rfl) (decide_eq_false h35)) rfl rfl ?_
          refine St.r (R.pickF rfl rfl) rfl rfl ?_
          refine St.r (R.move rfl) rfl rfl ?_
          refine St.take (dg := 37) rfl rfl ?_ rfl
          refine St.r (R.move rfl) rfl rfl ?_
          refine St.take (dg := 37) rfl rfl ?_ rfl
          refine St.r (R.move rfl) rfl rfl ?_
          refine St.take (dg := 37) rfl rfl ?_ rfl
          refine St.r (R.indexS x.toNat Tryz.underlying125 Tryz.sizeOf4 rfl rfl (by omega) (by omega)) rfl rfl ?_
          refine St.take (dg := 37) rfl rfl ?_ rfl
          refine St.r (R.load1 Tryz.isAgg4 rfl (k15.cells.at (0 + x.toNat) (by rw [Nat.zero_add]; exact marks_at (by omega)))) rfl rfl ?_
          refine St.r (R.pickF rfl rfl) rfl rfl ?_
          refine St.nil ?_
          refine St.weak [(2, _), (4, _), (6, _), (7, _), (8, _), (10, _), (24, _), (25, _), (26, _), (42, _)] ⟨rfl, rfl, rfl, rfl, rfl, rfl, rfl, rfl, rfl, rfl, trivial⟩ ?_
          refine St.then_n ?_
          refine St.go hK14 ?_
          clear hK14
          refine St.cond rfl (fun h41 => ?_) (fun h41 => ?_)
          ·
            replace h41 : x ∈ o.take k := (by
              have hxx : ((x.toNat : Nat) : Int) = x := by omega
              simpa [hxx] using h41)
            refine St.seq fun K17 hK17 => ?_
            refine St.region ?_
            refine St.r (R.build Tryz.underlying26 (places26 _ Tryz.underlying26) Tryz.zeroValue26 rfl rfl rfl) rfl rfl ?_
            refine St.r (R.iface Tryz.underlying119 rfl rfl) rfl rfl ?_
            refine St.store Tryz.sizeOf26 rfl rfl k4 rfl (by simp [Value.cells]) (by intro u hu; simp [Value.cells] at hu; rcases hu with rfl | rfl | rfl | rfl | rfl | rfl <;> rfl) ?_
            intro ws1 ks1 gs1 zs1
            replace E := Ext.then E gs1 (by intro j hj; omega)
            replace k2 := k2.chg gs1 (by omega)
            replace k15 := k15.chg gs1 (by omega)
            replace o8 := o8.chg gs1 (by intro k hk h; have := (o8.base hk).1; omega)
            replace zz := Nat.le_trans zz (Chg.size gs1)
            clear k4; have k4 := ks1; clear ks1
            replace k4 : Blk ws1 b4 26 [.slice none 0 0, .slice none 0 0, .string ⟨#[]⟩, .bool false, .bool false, .int .i64 0] := k4
            refine St.r (R.assign rfl) rfl rfl ?_
            refine St.nil ?_
            refine St.weak [(4, _), (5, _)] ⟨rfl, rfl, trivial⟩ ?_
            refine St.then_n ?_
            refine St.go hK17 ?_
            clear hK17
            refine St.ret ?_
            refine St.then_r ?_
            refine St.in_r ?_
            refine St.then_r ?_
            refine St.then_r ?_
            refine St.in_r ?_
            refine St.then_r ?_
            refine St.retAE Tryz.results16 Tryz.isAgg26 Tryz.sizeOf26 rfl rfl k4.cells rfl ?_
            have hse : swapErr q o = some 3 := by rw [swapErr, if_neg h19, swapB_false hx (.inr h41)]; rfl
            exact ⟨_, rfl, [.slice none 0 0, .slice none 0 0, .string ⟨#[]⟩, .bool false, .bool false, .int .i64 0], by rw [hse]; rfl, by rw [hse]; exact ⟨_, _, rfl, RSl.nil _ _ _, RSl.nil _ _ _⟩, E⟩
          ·
            replace h41 : ¬ x ∈ o.take k := by
              have hxx : ((x.toNat : Nat) : Int) = x := by omega
              simpa [hxx] using h41
            obtain ⟨px, hpx0⟩ := get_of_lt (xs := q.parts) (k := x.toNat) (by omega)
            have hpx := partAt_get hpx0
            obtain ⟨pb, po, rfl, hpc⟩ := hpv.get' hpx0
            refine St.skip ?_
            refine St.then_n ?_
            refine St.go hK13 ?_
            clear hK13
            refine St.seq fun K18 hK18 => ?_
            refine St.region ?_
            refine St.r (R.move rfl) rfl rfl ?_
            refine St.r (R.move rfl) rfl rfl ?_
            refine St.r (R.indexS x.toNat Tryz.underlying125 Tryz.sizeOf4 rfl rfl (by omega) (by omega)) rfl rfl ?_
            refine St.store Tryz.sizeOf4 rfl rfl k15 rfl (by simp [Value.cells, marks_len]; omega) (by simp [Value.cells, Value.oneCell']) ?_
            intro ws2 ks2 gs2 zs2
            replace E := Ext.then E gs2 (by intro j hj; omega)
            replace k2 := k2.chg gs2 (by omega)
            replace k4 := k4.chg gs2 (by omega)
            replace o8 := o8.chg gs2 (by intro k hk h; have := (o8.base hk).1; omega)
            replace zz := Nat.le_trans zz (Chg.size gs2)
            clear k15; have k15 := ks2; clear ks2
            replace k15 : Blk ws2 b15 4 (marks q.parts.length (o.take k ++ [x])) := by
              have h := k15
              rw [Nat.zero_add, Nat.mul_one] at h
              rw [← marks_set (by omega), ← splice_one (by rw [marks_len]; omega)]
              exact h
            refine St.nil ?_
            refine St.weak [(2, _), (4, _), (6, _), (7, _), (8, _), (10, _), (24, _), (25, _), (26, _)] ⟨rfl, rfl, rfl, rfl, rfl, rfl, rfl, rfl, rfl, trivial⟩ ?_
            refine St.then_n ?_
            refine St.go hK18 ?_
            clear hK18
            refine St.region ?_
            refine St.r (R.move rfl) rfl rfl ?_
            refine St.r (R.fieldA Tryz.underlying26 rfl Tryz.sizeOf24 rfl rfl rfl) rfl rfl ?_
            refine St.r (R.load1 Tryz.isAgg24 rfl (k2.cells.at 1 rfl)) rfl rfl ?_
            refine St.r (R.move rfl) rfl rfl ?_
            refine St.r (R.indexS x.toNat Tryz.underlying24 Tryz.sizeOf48 rfl rfl (by omega) (by omega)) rfl rfl ?_
            refine St.r (R.loadA Tryz.isAgg48 Tryz.sizeOf48 rfl (E.cells hpc) rfl) rfl rfl ?_
            refine St.buildSl Tryz.underlying24 Tryz.sizeOf48 Tryz.zeroValue48 rfl rfl rfl rfl (by intro u hu; simp only [List.mem_cons, List.not_mem_nil, or_false] at hu; first | (subst hu; rfl) | (rcases hu with rfl | rfl <;> rfl) | (rcases hu with rfl | rfl | rfl <;> rfl) | (rcases hu with rfl | rfl | rfl | rfl <;> rfl)) rfl ?_
            intro w54 b54 hb54 hs54 e54 k54
            have qE54 := E.size
            replace E := Ext.trans E e54
            replace k2 := k2.ext e54
            replace k4 := k4.ext e54
            replace k15 := k15.ext e54
            replace o8 := o8.ext e54
            replace zz := Nat.le_trans zz (Chg.size e54)
            refine St.append (enc := encPat) (fun _ => rfl) one_pat Tryz.underlying24 info48 rfl rfl rfl rfl o8 (RSl.mk (enc := encPat) (xs := [px]) encPat_len k54.cells (fun i u hu => hu) (by simp) (by simp)) (by simp; omega) (by simp; omega) (by omega) rfl ?_
            intro v55 w55 a55 g55 at55
            replace E := Ext.then E g55 (by intro j hj hk; have := (o8.base hk).1; omega)
            replace k2 := k2.chg g55 (by intro hk; have := (o8.base hk).1; omega)
            replace k4 := k4.chg g55 (by intro hk; have := (o8.base hk).1; omega)
            replace k15 := k15.chg g55 (by intro hk; have := (o8.base hk).1; omega)
            replace zz := Nat.le_trans zz (Chg.size g55)
            clear o8; have o8 := a55; clear a55
            refine St.r (R.assign rfl) rfl rfl ?_
            refine St.nil ?_
            refine St.weak [(2, _), (4, _), (6, _), (7, _), (8, _), (24, _), (25, _), (26, _)] ⟨rfl, rfl, rfl, rfl, rfl, rfl, rfl, rfl, trivial⟩ ?_
            refine St.in_n ?_
            refine St.then_n ?_
            refine St.go hK11 ?_
            clear hK11
            refine St.region ?_
            refine St.r (R.add rfl rfl (by omega) (by omega)) rfl rfl ?_
            refine St.r (R.move rfl) rfl rfl ?_
            refine St.nil ?_
            refine St.weak [(2, _), (4, _), (6, _), (7, _), (8, _), (24, _), (25, _), (26, _)] ⟨rfl, rfl, rfl, rfl, rfl, rfl, rfl, rfl, trivial⟩ ?_
            refine St.then_n ?_
            refine St.round (k + 1, v55) ⟨rfl, rfl, rfl, rfl, rfl, rfl, rfl, rfl, trivial⟩ ?_ ?_
            · try dsimp only
              refine ⟨by omega, E, k2, k4, by rw [take_snoc hx]; exact k15, by rw [take_snoc hx, List.map_append]; simpa [hpx] using o8, nodup_snoc (P := fun x => 0 ≤ x ∧ x < (q.parts.length : Int)) hx hall (by omega) h41, zz⟩
            · try dsimp only
              omega
    ·
      refine St.exit ?_
      refine St.then_x ?_
      refine St.then_x ?_
      refine St.in_x ?_
      refine St.then_n ?_
      refine St.go hK7 ?_
      clear hK7
      refine St.seq fun K19 hK19 => ?_
      refine St.region ?_
      refine St.r (R.fieldA Tryz.underlying26 rfl Tryz.sizeOf23 rfl rfl rfl) rfl rfl ?_
      have yk2 := k2.lt
      have yk4 := k4.lt
      rw [List.take_of_length_le (show o.length ≤ k by omega)] at o8
      obtain ⟨WA, WC, rfl, -, -⟩ := o8.form
      refine St.r (R.load1 Tryz.isAgg23 rfl (k2.cells.at 0 rfl)) rfl rfl ?_
      refine St.call rfl rfl ent69 (str_Clone _ (hvv.ext (REnc.firm _) E) (by omega)) rfl ?_
      rintro r59 w59 ⟨o59, e59⟩
      replace E := Ext.trans E e59
      replace k2 := k2.ext e59
      replace k4 := k4.ext e59
      replace k15 := k15.ext e59
      replace o8 := o8.ext e59
      replace zz := Nat.le_trans zz (Chg.size e59)
      obtain ⟨CA, CC, rfl, -, -⟩ := o59.form
      refine St.r (R.fieldA Tryz.underlying26 rfl Tryz.sizeOf23 rfl rfl rfl) rfl rfl ?_
      refine St.store Tryz.sizeOf23 rfl rfl k2 rfl (by simp) (by simp [Value.cells, Value.oneCell']) ?_
      intro ws3 ks3 gs3 zs3
      replace E := Ext.then E gs3 (by intro j hj; omega)
      replace k4 := k4.chg gs3 (by omega)
      replace k15 := k15.chg gs3 (by omega)
      replace o8 := o8.chg gs3 (by intro k hk h; have := (o8.base hk).1; omega)
      replace zz := Nat.le_trans zz (Chg.size gs3)
      replace o59 := o59.chg gs3 (by intro k hk h; have := (o59.base hk).1; omega)
      clear k2; have k2 := ks3; clear ks3
      replace k2 : Blk ws3 b2 26 [.slice CA q.vars.length CC, .slice PA q.parts.length PC, .string q.order, .bool q.down, .bool q.distinct, .int .i64 q.limit] := k2
      refine St.nil ?_
      refine St.weak [(2, _), (4, _), (8, _)] ⟨rfl, rfl, rfl, trivial⟩ ?_
      refine St.then_n ?_
      refine St.go hK19 ?_
      clear hK19
      refine St.seq fun K20 hK20 => ?_
      refine St.region ?_
      refine St.r (R.move rfl) rfl rfl ?_
      refine St.r (R.fieldA Tryz.underlying26 rfl Tryz.sizeOf24 rfl rfl rfl) rfl rfl ?_
      refine St.store Tryz.sizeOf24 rfl rfl k2 rfl (by simp) (by simp [Value.cells, Value.oneCell']) ?_
      intro ws4 ks4 gs4 zs4
      replace E := Ext.then E gs4 (by intro j hj; omega)
      replace k4 := k4.chg gs4 (by omega)
      replace k15 := k15.chg gs4 (by omega)
      replace o8 := o8.chg gs4 (by intro k hk h; have := (o8.base hk).1; omega)
      replace zz := Nat.le_trans zz (Chg.size gs4)
      replace o59 := o59.chg gs4 (by intro k hk h; have := (o59.base hk).1; omega)
      clear k2; have k2 := ks4; clear ks4
      replace k2 : Blk ws4 b2 26 [.slice CA q.vars.length CC, .slice WA (o.map (partAt q.parts)).length WC, .string q.order, .bool q.down, .bool q.distinct, .int .i64 q.limit] := k2
      refine St.nil ?_
      refine St.weak [(2, _), (4, _)] ⟨rfl, rfl, trivial⟩ ?_
      refine St.then_n ?_
      refine St.go hK20 ?_
      clear hK20
      refine St.seq fun K21 hK21 => ?_
      refine St.region ?_
      refine St.r (R.loadA Tryz.isAgg26 Tryz.sizeOf26 rfl k2.cells rfl) rfl rfl ?_
      refine St.store Tryz.sizeOf26 rfl rfl k4 rfl (by simp [Value.cells]) (by intro u hu; simp [Value.cells] at hu; rcases hu with rfl | rfl | rfl | rfl | rfl | rfl <;> rfl) ?_
      intro ws5 ks5 gs5 zs5
      replace E := Ext.then E gs5 (by intro j hj; omega)
      replace k2 := k2.chg gs5 (by omega)
      replace k15 := k15.chg gs5 (by omega)
      replace o8 := o8.chg gs5 (by intro k hk h; have := (o8.base hk).1; omega)
      replace zz := Nat.le_trans zz (Chg.size gs5)
      replace o59 := o59.chg gs5 (by intro k hk h; have := (o59.base hk).1; omega)
      clear k4; have k4 := ks5; clear ks5
      replace k4 : Blk ws5 b4 26 [.slice CA q.vars.length CC, .slice WA (o.map (partAt q.parts)).length WC, .string q.order, .bool q.down, .bool q.distinct, .int .i64 q.limit] := k4
      refine St.r (R.assign rfl) rfl rfl ?_
      refine St.nil ?_
      refine St.weak [(4, _), (5, _)] ⟨rfl, rfl, trivial⟩ ?_
      refine St.then_n ?_
      refine St.go hK21 ?_
      clear hK21
      refine St.ret ?_
      refine St.retAE Tryz.results16 Tryz.isAgg26 Tryz.sizeOf26 rfl rfl k4.cells rfl ?_
      have hse : swapErr q o = none := by rw [swapErr, if_neg h19, swapB_true (fun i x hx => hall i x (by have := lt_of_get hx; omega) hx)]; rfl
      exact ⟨_, rfl, [.slice CA q.vars.length CC, .slice WA (o.map (partAt q.parts)).length WC, .string q.order, .bool q.down, .bool q.distinct, .int .i64 q.limit], by rw [hse]; rfl, by rw [hse]; exact ⟨_, _, rfl, o59.reads encStr_len, o8.reads encPat_len⟩, E⟩

end Go.Proofs.YtjgcmpondbocfaaGreatDoor

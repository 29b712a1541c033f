/- What the small functions of package repo come to, each walked once. Under the reading of the arguments. -/
import Derived.Test.YtjgcmpondbocfaaProg
import Derived.Test.YtjgcmpondbocfaaCodeW
import Derived.Test.YtjgcmpondbocfaaStoreW
import Derived.Test.YtjgcmpondbocfaaRepoM
namespace Go.Proofs.Ytjgcmpondbocfaa
open Go.RowKit 
theorem ent19 : Ent Try.prog 19 := Ent.of Try.func19 (by kernel_rfl) rfl
theorem ent37 : Ent Try.prog 37 := Ent.of Try.func37 (by kernel_rfl) rfl
theorem ent43 : Ent Try.prog 43 := Ent.of Try.func43 (by kernel_rfl) rfl
theorem ent70 : Ent Try.prog 70 := Ent.of Try.func70 (by kernel_rfl) rfl
theorem places87 : ∀ fs, Try.prog.underlying 87 = some (.struct fs) → Places Try.prog fs [(0, 1), (1, 1), (2, 1), (3, 1)] := by
  intro fs h
  rw [Try.underlying87] at h
  cases h
  intro w
  simp [go_sem, Try.sizeOf22, Try.sizeOf36, Try.sizeOf50, Try.sizeOf85]
theorem int_Clone {xs : List Int} {v : Value} (w0 : World) (hv : RSl (REnc encInt) 1 w0 v xs) (hl : xs.length ≤ 1000000000) :
    Ret Try.prog 42 [v] w0 fun r w' => Own encInt 1 w0.heap.size 3 w' r xs ∧ Ext w0 w' := by
  obtain ⟨A, c, rfl, hc1, hc2⟩ := hv.form
  have E : Ext w0 w0 := Ext.refl w0
  refine St.enter (N := 8) Try.func42 rfl Try.ntmps42 rfl ?_
  refine St.seq fun K0 hK0 => ?_
  refine St.region ?_
  refine St.r (R.assign rfl) rfl rfl ?_
  refine St.nil ?_
  refine St.weak [(0, _)] ⟨rfl, trivial⟩ ?_
  refine St.then_n ?_
  refine St.go hK0 ?_
  clear hK0
  refine St.seq fun K1 hK1 => ?_
  refine St.seq fun K2 hK2 => ?_
  refine St.region ?_
  refine St.r (R.move rfl) rfl rfl ?_
  refine St.r (R.eqNilSl Try.underlying23 rfl) rfl rfl ?_
  refine St.nil ?_
  refine St.weak [(0, _), (4, _)] ⟨rfl, rfl, trivial⟩ ?_
  refine St.then_n ?_
  refine St.go hK2 ?_
  clear hK2
  refine St.cond rfl (fun h4 => ?_) (fun h4 => ?_)
  ·
    have h0 : xs = [] := by
      rcases Nat.eq_zero_or_pos xs.length with h | h
      · exact List.eq_nil_of_length_eq_zero h
      · obtain ⟨b, o, c', heq, -⟩ := hv.at h
        cases heq
        simp at h4
    subst h0
    refine St.seq fun K3 hK3 => ?_
    refine St.region ?_
    refine St.r (R.assign rfl) rfl rfl ?_
    refine St.nil ?_
    refine St.weak [(2, _)] ⟨rfl, trivial⟩ ?_
    refine St.then_n ?_
    refine St.go hK3 ?_
    clear hK3
    refine St.ret ?_
    refine St.then_r ?_
    refine St.ret1 Try.results42 rfl ?_
    exact ⟨_, rfl, Own.nil _ _ _ _ _, E⟩
  ·
    refine St.skip ?_
    refine St.then_n ?_
    refine St.go hK1 ?_
    clear hK1
    refine St.seq fun K4 hK4 => ?_
    refine St.region ?_
    refine St.buildSl0 Try.underlying23 Try.sizeOf3 rfl ?_
    intro w5 b5 hb5 hs5 e5 k5
    have qE5 := E.size
    replace E := Ext.trans E e5
    refine St.r (R.move rfl) rfl rfl ?_
    refine St.append (enc := encInt) (fun _ => rfl) one_int Try.underlying23 info3 rfl rfl rfl rfl (Own.empty (enc := encInt) (size := 1) k5 (base := w0.heap.size) (by omega)) (hv.ext (REnc.firm _) E) (by simp; omega) (by simp; omega) (by omega) rfl ?_
    intro v7 w7 a7 g7 at7
    replace E := Ext.then E g7 (by intro j hj hk; have := ((Own.empty (enc := encInt) (size := 1) k5 (base := w0.heap.size) (by omega)).base hk).1; omega)
    refine St.r (R.assign rfl) rfl rfl ?_
    refine St.nil ?_
    refine St.weak [(2, _)] ⟨rfl, trivial⟩ ?_
    refine St.then_n ?_
    refine St.go hK4 ?_
    clear hK4
    refine St.ret ?_
    refine St.ret1 Try.results42 rfl ?_
    exact ⟨_, rfl, a7, E⟩

theorem int_Equal {xs ys : List Int} {v u : Value} (w0 : World) (hv : RSl (REnc encInt) 1 w0 v xs) (hu : RSl (REnc encInt) 1 w0 u ys) :
    Ret Try.prog 73 [v, u] w0 fun r w' => r = .bool (decide (xs = ys)) ∧ Ext w0 w' := by
  obtain ⟨A, c, rfl, hc1, hc2⟩ := hv.form
  obtain ⟨A2, c2, rfl, hd1, hd2⟩ := hu.form
  have E : Ext w0 w0 := Ext.refl w0
  refine St.enter (N := 26) Try.func73 rfl Try.ntmps73 rfl ?_
  refine St.seq fun K0 hK0 => ?_
  refine St.region ?_
  refine St.r (R.assign rfl) rfl rfl ?_
  refine St.nil ?_
  refine St.weak [(0, _), (1, _)] ⟨rfl, rfl, trivial⟩ ?_
  refine St.then_n ?_
  refine St.go hK0 ?_
  clear hK0
  refine St.seq fun K1 hK1 => ?_
  refine St.seq fun K2 hK2 => ?_
  refine St.region ?_
  refine St.r (R.move rfl) rfl rfl ?_
  refine St.r (R.lenSl Try.underlying23 rfl) rfl rfl ?_
  refine St.r (R.move rfl) rfl rfl ?_
  refine St.r (R.lenSl Try.underlying23 rfl) rfl rfl ?_
  refine St.r (R.neq rfl rfl) rfl rfl ?_
  refine St.nil ?_
  refine St.weak [(0, _), (1, _), (10, _)] ⟨rfl, rfl, rfl, trivial⟩ ?_
  refine St.then_n ?_
  refine St.go hK2 ?_
  clear hK2
  refine St.condD rfl (fun h10 => ?_) (fun h10 => ?_)
  ·
    refine St.seq fun K3 hK3 => ?_
    refine St.region ?_
    refine St.r (R.assign rfl) rfl rfl ?_
    refine St.nil ?_
    refine St.weak [(4, _)] ⟨rfl, trivial⟩ ?_
    refine St.then_n ?_
    refine St.go hK3 ?_
    clear hK3
    refine St.ret ?_
    refine St.then_r ?_
    refine St.ret1 Try.results73 rfl ?_
    exact ⟨_, rfl, by rw [decide_eq_false (fun e => h10 (by rw [e]))], E⟩
  ·
    refine St.skip ?_
    refine St.then_n ?_
    refine St.go hK1 ?_
    clear hK1
    refine St.seq fun K4 hK4 => ?_
    refine St.seq fun K5 hK5 => ?_
    refine St.region ?_
    refine St.r (R.move rfl) rfl rfl ?_
    refine St.r (R.lenSl Try.underlying23 rfl) rfl rfl ?_
    refine St.r (R.move rfl) rfl rfl ?_
    refine St.nil ?_
    refine St.weak [(0, _), (1, _), (12, _), (13, _)] ⟨rfl, rfl, rfl, rfl, trivial⟩ ?_
    refine St.then_n ?_
    refine St.go hK5 ?_
    clear hK5
    refine St.block ?_
    refine St.loop (fun (k : Nat) => [(0, .slice A xs.length c), (1, .slice A2 ys.length c2), (12, .int .i64 (xs.length : Int)), (13, .int .i64 (k : Int))])
        (fun (k : Nat) w => k ≤ xs.length ∧ Ext w0 w ∧ xs.take k = ys.take k)
        (fun (k : Nat) => xs.length - k) 0 ⟨rfl, rfl, rfl, rfl, trivial⟩ ?_ ?_
    · exact ⟨Nat.zero_le _, E, by simp⟩
    rintro k w ⟨hk, E, hall⟩
    show St _ _ [(0, .slice A xs.length c), (1, .slice A2 ys.length c2), (12, .int .i64 (xs.length : Int)), (13, .int .i64 (k : Int))] _ _
    refine St.seq fun K6 hK6 => ?_
    refine St.region ?_
    refine St.r (R.lss rfl rfl) rfl rfl ?_
    refine St.nil ?_
    refine St.weak [(0, _), (1, _), (12, _), (13, _), (14, _)] ⟨rfl, rfl, rfl, rfl, rfl, trivial⟩ ?_
    refine St.then_n ?_
    refine St.go hK6 ?_
    clear hK6
    refine St.seq fun K7 hK7 => ?_
    refine St.condD rfl (fun h14 => ?_) (fun h14 => ?_)
    ·
      obtain ⟨x, hx⟩ := get_of_lt (xs := xs) (k := k) (by omega)
      obtain ⟨y, hy⟩ := get_of_lt (xs := ys) (k := k) (by omega)
      obtain ⟨b, o, rfl, hxc⟩ := hv.get' hx
      obtain ⟨b2, o2, rfl, hyc⟩ := hu.get' hy
      refine St.skip ?_
      refine St.then_n ?_
      refine St.go hK7 ?_
      clear hK7
      refine St.seq fun K8 hK8 => ?_
      refine St.block ?_
      refine St.seq fun K9 hK9 => ?_
      refine St.region ?_
      refine St.r (R.move rfl) rfl rfl ?_
      refine St.r (R.assign rfl) rfl rfl ?_
      refine St.nil ?_
      refine St.weak [(0, _), (1, _), (5, _), (12, _), (13, _)] ⟨rfl, rfl, rfl, rfl, rfl, trivial⟩ ?_
      refine St.then_n ?_
      refine St.go hK9 ?_
      clear hK9
      refine St.seq fun K10 hK10 => ?_
      refine St.weak [(0, _), (1, _), (5, _), (12, _), (13, _)] ⟨rfl, rfl, rfl, rfl, rfl, trivial⟩ ?_
      refine St.draw mixed rfl rfl rfl rfl ?_
      replace E := Ext.trans E (Ext.drew _)
      refine ⟨_, OpOk.r (R.move rfl) rfl, ?_⟩
      refine ⟨_, OpOk.r (R.move rfl) rfl, ?_⟩
      refine ⟨_, OpOk.r (R.indexS k Try.underlying23 Try.sizeOf3 rfl rfl rfl (by omega)) rfl, ?_⟩
      refine ⟨_, OpOk.r (R.load1 Try.isAgg3 rfl ((E.cells hxc).at 0 rfl)) rfl, ?_⟩
      refine ⟨_, OpOk.r (R.move rfl) rfl, ?_⟩
      refine ⟨_, OpOk.r (R.move rfl) rfl, ?_⟩
      refine ⟨_, OpOk.r (R.indexS k Try.underlying23 Try.sizeOf3 rfl rfl rfl (by omega)) rfl, ?_⟩
      refine ⟨_, OpOk.r (R.load1 Try.isAgg3 rfl ((E.cells hyc).at 0 rfl)) rfl, ?_⟩
      refine ⟨_, OpOk.r (R.neq rfl rfl) rfl, ?_⟩
      show St _ _ _ _ _
      refine St.weak [(0, _), (1, _), (12, _), (13, _), (24, _)] ⟨rfl, rfl, rfl, rfl, rfl, trivial⟩ ?_
      refine St.then_n ?_
      refine St.go hK10 ?_
      clear hK10
      refine St.condD rfl (fun h24 => ?_) (fun h24 => ?_)
      ·
        refine St.seq fun K11 hK11 => ?_
        refine St.region ?_
        refine St.r (R.assign rfl) rfl rfl ?_
        refine St.nil ?_
        refine St.weak [(4, _)] ⟨rfl, trivial⟩ ?_
        refine St.then_n ?_
        refine St.go hK11 ?_
        clear hK11
        refine St.ret ?_
        refine St.in_r ?_
        refine St.then_r ?_
        refine St.then_r ?_
        refine St.in_r ?_
        refine St.then_r ?_
        refine St.ret1 Try.results73 rfl ?_
        exact ⟨_, rfl, by rw [decide_eq_false (fun e => h24 (by subst e; rw [hx] at hy; injection hy))], E⟩
      ·
        refine St.skip ?_
        refine St.in_n ?_
        refine St.then_n ?_
        refine St.go hK8 ?_
        clear hK8
        refine St.region ?_
        refine St.r (R.add rfl rfl (by omega) (by omega)) rfl rfl ?_
        refine St.r (R.move rfl) rfl rfl ?_
        refine St.nil ?_
        refine St.weak [(0, _), (1, _), (12, _), (13, _)] ⟨rfl, rfl, rfl, rfl, trivial⟩ ?_
        refine St.then_n ?_
        refine St.round (k + 1) ⟨rfl, rfl, rfl, rfl, trivial⟩ ?_ ?_
        · refine ⟨by omega, E, ?_⟩
          rw [take_snoc hx, take_snoc hy, hall]
          congr 2
          exact Decidable.not_not.1 h24
        · omega
    ·
      refine St.exit ?_
      refine St.then_x ?_
      refine St.then_x ?_
      refine St.in_x ?_
      refine St.then_n ?_
      refine St.go hK4 ?_
      clear hK4
      refine St.seq fun K12 hK12 => ?_
      refine St.region ?_
      refine St.r (R.assign rfl) rfl rfl ?_
      refine St.nil ?_
      refine St.weak [(4, _)] ⟨rfl, trivial⟩ ?_
      refine St.then_n ?_
      refine St.go hK12 ?_
      clear hK12
      refine St.ret ?_
      refine St.ret1 Try.results73 rfl ?_
      rw [List.take_of_length_le (by omega), List.take_of_length_le (by omega)] at hall
      exact ⟨_, rfl, by rw [decide_eq_true hall], E⟩


abbrev rt : RTy := ⟨101, 87, 25, 44⟩

theorem repoNew_ret (w0 : World) : Ret Try.prog 12 [] w0 fun r w' => ∃ n, r = .pointer (some ⟨n.g, 0, none⟩) ∧ RepoB rt w' n Repo.empty ∧ (∀ k, n.V k → w0.heap.size ≤ k) ∧ Ext w0 w' := by
  have E : Ext w0 w0 := Ext.refl w0
  refine St.enter (N := 5) Try.func12 rfl Try.ntmps12 rfl ?_
  refine St.seq fun K0 hK0 => ?_
  refine St.region ?_
  refine St.r (R.assign rfl) rfl rfl ?_
  refine St.nil ?_
  refine St.weak [] trivial ?_
  refine St.then_n ?_
  refine St.go hK0 ?_
  clear hK0
  refine St.seq fun K1 hK1 => ?_
  refine St.region ?_
  refine St.call rfl rfl ent19 (New_ret _) rfl ?_
  rintro r1 w1 ⟨g, bi, ba, rfl, st, z1, z2, z3, e1⟩
  replace E := Ext.trans E e1
  have y1 := st.blk.lt
  have y2 := st.ids.lt
  have y3 := st.all.lt
  refine St.turn (Eff.makeMap (fun s : ByteArray => Value.string s) (fun n : Int => Value.int .i64 n)) rfl rfl ?_
  rintro _ w2 ⟨b2, rfl, hb2, hs2, e2, m2⟩
  have qE2 := E.size
  replace E := Ext.trans E e2
  replace st := st.ext e2
  refine St.r (R.build Try.underlying87 (places87 _ Try.underlying87) Try.zeroValue87 rfl rfl rfl) rfl rfl ?_
  refine St.box rfl rfl ?_
  intro w4 b4 hb4 hs4 e4 k4
  have qE4 := E.size
  replace E := Ext.trans E e4
  replace st := st.ext e4
  replace m2 := m2.ext e4
  refine St.r (R.assign rfl) rfl rfl ?_
  refine St.nil ?_
  refine St.weak [(0, _)] ⟨rfl, trivial⟩ ?_
  refine St.then_n ?_
  refine St.go hK1 ?_
  clear hK1
  refine St.ret ?_
  refine St.ret1 Try.results12 rfl ?_
  refine ⟨_, rfl, ⟨b4, g, bi, ba, b2, .slice none 0 0, .slice none 0 0, fun k => k = b4 ∨ k = g ∨ k = bi ∨ k = ba ∨ k = b2⟩, rfl, ?_, ?_, E⟩
  · have d1 := st.one; have d2 := st.two; have d3 := st.three
    have y4 := st.blk.lt; have y5 := st.ids.lt; have y6 := st.all.lt; have y7 := k4.lt; have y8 := m2.lt
    refine { blk := k4, sto := st, map := m2, rows := ⟨[], [], Own.nil _ _ _ _ _, Own.nil _ _ _ _ _, ⟨rfl, fun k x y h => by simp at h⟩, ⟨rfl, fun k x y h => by simp at h⟩⟩, sub := ?_, lt := ?_, s1 := ⟨by dsimp only; omega, by dsimp only; omega, by dsimp only; omega, by dsimp only; omega⟩, s2 := ⟨by dsimp only; omega, by dsimp only; omega, by dsimp only; omega⟩, s3 := fun k h => (by cases h), s4 := fun k h => (by cases h) }
    · rintro k (h | h | h | h | h | h | h)
      · exact .inl h
      · exact .inr (.inl h)
      · exact .inr (.inr (.inl h))
      · exact .inr (.inr (.inr (.inl h)))
      · exact .inr (.inr (.inr (.inr h)))
      · cases h
      · cases h
    · rintro k (h | h | h | h | h) <;> (subst h; assumption)
  · rintro k (h | h | h | h | h) <;> (subst h; omega)

theorem Word1_ret {c : UInt8} (w0 : World) : Ret Try.prog 70 [.int .u8 (c.toNat : Int)] w0 fun r w' => r = .bool (notL c) ∧ Ext w0 w' := by
  refine St.enter (N := 9) Try.func70 rfl Try.ntmps70 rfl ?_
  refine St.seq fun K0 hK0 => ?_
  refine St.region ?_
  refine St.r (R.assign rfl) rfl rfl ?_
  refine St.nil ?_
  refine St.weak [(0, _)] ⟨rfl, trivial⟩ ?_
  refine St.then_n ?_
  refine St.go hK0 ?_
  clear hK0
  refine St.seq fun K1 hK1 => ?_
  by_cases h4 : (c.toNat : Int) < 97
  ·
    refine St.region ?_
    refine St.r (R.move rfl) rfl rfl ?_
    refine St.r (Runs.lit (c := true) (R.lss rfl rfl) (decide_eq_true h4)) rfl rfl ?_
    refine St.r (R.move rfl) rfl rfl ?_
    refine St.pass (dg := 5) rfl rfl rfl rfl rfl ?_
    refine St.pass (dg := 5) rfl rfl rfl rfl rfl ?_
    refine St.r (R.pickT rfl rfl) rfl rfl ?_
    refine St.r (R.assign rfl) rfl rfl ?_
    refine St.nil ?_
    refine St.weak [(2, _)] ⟨rfl, trivial⟩ ?_
    refine St.then_n ?_
    refine St.go hK1 ?_
    clear hK1
    refine St.ret ?_
    refine St.ret1 Try.results70 rfl ?_
    exact ⟨_, rfl, by rw [notL, decide_eq_true h4]; rfl, Ext.refl _⟩
  ·
    refine St.region ?_
    refine St.r (R.move rfl) rfl rfl ?_
    refine St.r (Runs.lit (c := false) (R.lss rfl rfl) (decide_eq_false h4)) rfl rfl ?_
    refine St.r (R.move rfl) rfl rfl ?_
    refine St.take (dg := 5) rfl rfl ?_ rfl
    refine St.r (R.move rfl) rfl rfl ?_
    refine St.take (dg := 5) rfl rfl ?_ rfl
    refine St.r (R.gtr rfl rfl) rfl rfl ?_
    refine St.r (R.pickF rfl rfl) rfl rfl ?_
    refine St.r (R.assign rfl) rfl rfl ?_
    refine St.nil ?_
    refine St.weak [(2, _)] ⟨rfl, trivial⟩ ?_
    refine St.then_n ?_
    refine St.go hK1 ?_
    clear hK1
    refine St.ret ?_
    refine St.ret1 Try.results70 rfl ?_
    exact ⟨_, rfl, by rw [notL, decide_eq_false h4]; rfl, Ext.refl _⟩

theorem Word_ret {s : ByteArray} (w0 : World) : Ret Try.prog 37 [.string s] w0 fun r w' => r = errV 91 (wordErr s) ∧ Ext w0 w' := by
  have E : Ext w0 w0 := Ext.refl w0
  refine St.enter (N := 16) Try.func37 rfl Try.ntmps37 rfl ?_
  refine St.seq fun K0 hK0 => ?_
  refine St.region ?_
  refine St.r (R.assign rfl) rfl rfl ?_
  refine St.nil ?_
  refine St.weak [(0, _)] ⟨rfl, trivial⟩ ?_
  refine St.then_n ?_
  refine St.go hK0 ?_
  clear hK0
  refine St.seq fun K1 hK1 => ?_
  refine St.seq fun K2 hK2 => ?_
  by_cases h4 : s = ⟨#[]⟩
  ·
    refine St.region ?_
    refine St.r (R.move rfl) rfl rfl ?_
    refine St.r (Runs.lit (c := true) (R.eqS rfl rfl) (decide_eq_true h4)) rfl rfl ?_
    refine St.r (R.move rfl) rfl rfl ?_
    refine St.pass (dg := 5) rfl rfl rfl rfl rfl ?_
    refine St.pass (dg := 5) rfl rfl rfl rfl rfl ?_
    refine St.pass (dg := 5) rfl rfl rfl rfl rfl ?_
    refine St.r (R.pickT rfl rfl) rfl rfl ?_
    refine St.r (R.move rfl) rfl rfl ?_
    refine St.pass (dg := 10) rfl rfl rfl rfl rfl ?_
    refine St.pass (dg := 10) rfl rfl rfl rfl rfl ?_
    refine St.pass (dg := 10) rfl rfl rfl rfl rfl ?_
    refine St.r (R.pickT rfl rfl) rfl rfl ?_
    refine St.nil ?_
    refine St.weak [(14, _)] ⟨rfl, trivial⟩ ?_
    refine St.then_n ?_
    refine St.go hK2 ?_
    clear hK2
    refine St.condT rfl ?_
    refine St.seq fun K3 hK3 => ?_
    refine St.region ?_
    refine St.r (R.iface Try.underlying91 rfl rfl) rfl rfl ?_
    refine St.r (R.assign rfl) rfl rfl ?_
    refine St.nil ?_
    refine St.weak [(2, _)] ⟨rfl, trivial⟩ ?_
    refine St.then_n ?_
    refine St.go hK3 ?_
    clear hK3
    refine St.ret ?_
    refine St.then_r ?_
    refine St.ret1 Try.results37 rfl ?_
    exact ⟨_, rfl, by rw [wordErr, wordB, decide_eq_true h4]; rfl, E⟩
  ·
    by_cases h8 : 10 < (s.size : Int)
    ·
      refine St.region ?_
      refine St.r (R.move rfl) rfl rfl ?_
      refine St.r (Runs.lit (c := false) (R.eqS rfl rfl) (decide_eq_false h4)) rfl rfl ?_
      refine St.r (R.move rfl) rfl rfl ?_
      refine St.take (dg := 5) rfl rfl ?_ rfl
      refine St.r (R.move rfl) rfl rfl ?_
      refine St.take (dg := 5) rfl rfl ?_ rfl
      refine St.r (R.lenStr Try.underlying9 rfl) rfl rfl ?_
      refine St.take (dg := 5) rfl rfl ?_ rfl
      refine St.r (Runs.lit (c := true) (R.gtr rfl rfl) (decide_eq_true h8)) rfl rfl ?_
      refine St.r (R.pickF rfl rfl) rfl rfl ?_
      refine St.r (R.move rfl) rfl rfl ?_
      refine St.pass (dg := 10) rfl rfl rfl rfl rfl ?_
      refine St.pass (dg := 10) rfl rfl rfl rfl rfl ?_
      refine St.pass (dg := 10) rfl rfl rfl rfl rfl ?_
      refine St.r (R.pickT rfl rfl) rfl rfl ?_
      refine St.nil ?_
      refine St.weak [(14, _)] ⟨rfl, trivial⟩ ?_
      refine St.then_n ?_
      refine St.go hK2 ?_
      clear hK2
      refine St.condT rfl ?_
      refine St.seq fun K4 hK4 => ?_
      refine St.region ?_
      refine St.r (R.iface Try.underlying91 rfl rfl) rfl rfl ?_
      refine St.r (R.assign rfl) rfl rfl ?_
      refine St.nil ?_
      refine St.weak [(2, _)] ⟨rfl, trivial⟩ ?_
      refine St.then_n ?_
      refine St.go hK4 ?_
      clear hK4
      refine St.ret ?_
      refine St.then_r ?_
      refine St.ret1 Try.results37 rfl ?_
      exact ⟨_, rfl, by rw [wordErr, wordB, decide_eq_true h8]; simp; rfl, E⟩
    ·
      refine St.region ?_
      refine St.r (R.move rfl) rfl rfl ?_
      refine St.r (Runs.lit (c := false) (R.eqS rfl rfl) (decide_eq_false h4)) rfl rfl ?_
      refine St.r (R.move rfl) rfl rfl ?_
      refine St.take (dg := 5) rfl rfl ?_ rfl
      refine St.r (R.move rfl) rfl rfl ?_
      refine St.take (dg := 5) rfl rfl ?_ rfl
      refine St.r (R.lenStr Try.underlying9 rfl) rfl rfl ?_
      refine St.take (dg := 5) rfl rfl ?_ rfl
      refine St.r (Runs.lit (c := false) (R.gtr rfl rfl) (decide_eq_false h8)) rfl rfl ?_
      refine St.r (R.pickF rfl rfl) rfl rfl ?_
      refine St.r (R.move rfl) rfl rfl ?_
      refine St.take (dg := 10) rfl rfl ?_ rfl
      refine St.r (R.move rfl) rfl rfl ?_
      refine St.take (dg := 10) rfl rfl ?_ rfl
      refine St.bytes Try.underlying9 Try.underlying131 Try.underlying5 rfl (by omega) rfl ?_
      intro w12 b12 c12 hb12 hs12 e12 r12 k12
      replace E := Ext.trans E e12
      refine St.take (dg := 10) rfl rfl ?_ rfl
      refine St.call rfl rfl ent69 (byte_ContainsFunc (p := notL) _ r12 ent70 (fun W x eW _ => Word1_ret W)) rfl ?_
      rintro r13 w13 ⟨rfl, e13⟩
      replace E := Ext.trans E e13
      refine St.r (R.pickF rfl rfl) rfl rfl ?_
      refine St.nil ?_
      refine St.weak [(14, _)] ⟨rfl, trivial⟩ ?_
      refine St.then_n ?_
      refine St.go hK2 ?_
      clear hK2
      refine St.cond rfl (fun h14 => ?_) (fun h14 => ?_)
      ·
        refine St.seq fun K5 hK5 => ?_
        refine St.region ?_
        refine St.r (R.iface Try.underlying91 rfl rfl) rfl rfl ?_
        refine St.r (R.assign rfl) rfl rfl ?_
        refine St.nil ?_
        refine St.weak [(2, _)] ⟨rfl, trivial⟩ ?_
        refine St.then_n ?_
        refine St.go hK5 ?_
        clear hK5
        refine St.ret ?_
        refine St.then_r ?_
        refine St.ret1 Try.results37 rfl ?_
        exact ⟨_, rfl, by rw [wordErr, wordB, h14]; simp; rfl, E⟩
      ·
        refine St.skip ?_
        refine St.then_n ?_
        refine St.go hK1 ?_
        clear hK1
        refine St.seq fun K6 hK6 => ?_
        refine St.region ?_
        refine St.r (R.assign rfl) rfl rfl ?_
        refine St.nil ?_
        refine St.weak [(2, _)] ⟨rfl, trivial⟩ ?_
        refine St.then_n ?_
        refine St.go hK6 ?_
        clear hK6
        refine St.ret ?_
        refine St.ret1 Try.results37 rfl ?_
        exact ⟨_, rfl, by rw [wordErr, wordB, h14, decide_eq_false h4, decide_eq_false h8]; rfl, E⟩

theorem rCheck_ret {ts : List Triple} {v : Value} {m : ByteArray} (w0 : World) (hv : RTriples w0 v ts) : Ret Try.prog 38 [v, .string m] w0 fun r w' => r = errV 91 (chkErr ts m) ∧ Ext w0 w' := by
  obtain ⟨VA, VC, rfl, -, -⟩ := hv.form
  have E : Ext w0 w0 := Ext.refl w0
  refine St.enter (N := 14) Try.func38 rfl Try.ntmps38 rfl ?_
  refine St.seq fun K0 hK0 => ?_
  refine St.region ?_
  refine St.r (R.assign rfl) rfl rfl ?_
  refine St.nil ?_
  refine St.weak [(0, _), (1, _)] ⟨rfl, rfl, trivial⟩ ?_
  refine St.then_n ?_
  refine St.go hK0 ?_
  clear hK0
  refine St.seq fun K1 hK1 => ?_
  refine St.seq fun K2 hK2 => ?_
  refine St.region ?_
  refine St.r (R.move rfl) rfl rfl ?_
  refine St.buildSl Try.underlying36 Try.sizeOf44 Try.zeroValue44 rfl rfl rfl rfl (by intro u hu; simp only [List.mem_cons, List.not_mem_nil, or_false] at hu; first | (subst hu; rfl) | (rcases hu with rfl | rfl <;> rfl) | (rcases hu with rfl | rfl | rfl <;> rfl) | (rcases hu with rfl | rfl | rfl | rfl <;> rfl)) rfl ?_
  intro w7 b7 hb7 hs7 e7 k7
  have qE7 := E.size
  replace E := Ext.trans E e7
  refine St.call rfl rfl ent71 (Right_ret _ (RTL.one k7 (hv.ext (REnc.firm _) E))) rfl ?_
  rintro r8 w8 ⟨rfl, e8⟩
  replace E := Ext.trans E e8
  have hr1 : rightErr [ts] = setErr ts := by cases h : setErr ts <;> simp [rightErr, firstE, h]
  rw [hr1]
  refine St.r (R.assign rfl) rfl rfl ?_
  refine St.nil ?_
  refine St.weak [(1, _), (5, _)] ⟨rfl, rfl, trivial⟩ ?_
  refine St.then_n ?_
  refine St.go hK2 ?_
  clear hK2
  refine St.seq fun K3 hK3 => ?_
  refine St.region ?_
  refine St.r (R.move rfl) rfl rfl ?_
  refine St.r (R.notNil (et := 91) (e := _) Try.underlying27 rfl) rfl rfl ?_
  refine St.nil ?_
  refine St.weak [(1, _), (5, _), (10, _)] ⟨rfl, rfl, rfl, trivial⟩ ?_
  refine St.then_n ?_
  refine St.go hK3 ?_
  clear hK3
  refine St.cond rfl (fun h10 => ?_) (fun h10 => ?_)
  ·
    refine St.seq fun K4 hK4 => ?_
    refine St.region ?_
    refine St.r (R.move rfl) rfl rfl ?_
    refine St.r (R.assign rfl) rfl rfl ?_
    refine St.nil ?_
    refine St.weak [(4, _)] ⟨rfl, trivial⟩ ?_
    refine St.then_n ?_
    refine St.go hK4 ?_
    clear hK4
    refine St.ret ?_
    refine St.then_r ?_
    refine St.ret1 Try.results38 rfl ?_
    exact ⟨_, rfl, by rw [chkErr]; cases h : setErr ts <;> simp [h] at h10 ⊢, E⟩
  ·
    refine St.skip ?_
    refine St.then_n ?_
    refine St.go hK1 ?_
    clear hK1
    refine St.seq fun K5 hK5 => ?_
    refine St.region ?_
    refine St.r (R.move rfl) rfl rfl ?_
    refine St.call rfl rfl ent72 (Message_ret _) rfl ?_
    rintro r13 w13 ⟨rfl, e13⟩
    replace E := Ext.trans E e13
    refine St.r (R.assign rfl) rfl rfl ?_
    refine St.nil ?_
    refine St.weak [(4, _)] ⟨rfl, trivial⟩ ?_
    refine St.then_n ?_
    refine St.go hK5 ?_
    clear hK5
    refine St.ret ?_
    refine St.ret1 Try.results38 rfl ?_
    exact ⟨_, rfl, by rw [chkErr, isSome_false h10], E⟩

theorem Full_ret {r : Repo} {n : RNames} {b : ByteArray} (w0 : World) (h : RepoB rt w0 n r) : Ret Try.prog 39 [.pointer (some ⟨n.g, 0, none⟩), .string b] w0 fun x w' => x = .bool (fullB r b) ∧ w' = w0 := by
  refine St.enter (N := 26) Try.func39 rfl Try.ntmps39 rfl ?_
  refine St.seq fun K0 hK0 => ?_
  refine St.region ?_
  refine St.r (R.assign rfl) rfl rfl ?_
  refine St.nil ?_
  refine St.weak [(0, _), (1, _)] ⟨rfl, rfl, trivial⟩ ?_
  refine St.then_n ?_
  refine St.go hK0 ?_
  clear hK0
  refine St.seq fun K1 hK1 => ?_
  refine St.region ?_
  refine St.r (R.move rfl) rfl rfl ?_
  refine St.r (R.nilOk rfl) rfl rfl ?_
  refine St.r (R.fieldA Try.underlying87 rfl Try.sizeOf85 rfl rfl rfl) rfl rfl ?_
  refine St.r (R.load1 Try.isAgg85 rfl (h.blk.cells.at 3 rfl)) rfl rfl ?_
  refine St.r (R.move rfl) rfl rfl ?_
  refine St.r (R.lookupOk (KEnc.str Try.underlying9) Try.underlying85 Try.zeroValue3 h.map rfl rfl) rfl rfl ?_
  refine St.r (R.move rfl) rfl rfl ?_
  refine St.r (R.extract rfl rfl) rfl rfl ?_
  refine St.r (R.extract rfl rfl) rfl rfl ?_
  refine St.r (R.assign rfl) rfl rfl ?_
  refine St.r (R.assign rfl) rfl rfl ?_
  refine St.nil ?_
  refine St.weak [(0, _), (6, _)] ⟨rfl, rfl, trivial⟩ ?_
  refine St.then_n ?_
  refine St.go hK1 ?_
  clear hK1
  refine St.seq fun K2 hK2 => ?_
  rcases Bool.eq_false_or_eq_true (!(getM r.heads b).isSome) with h17 | h17
  ·
    refine St.region ?_
    refine St.r (R.move rfl) rfl rfl ?_
    refine St.r (Runs.lit (c := true) (R.not rfl) (h17)) rfl rfl ?_
    refine St.r (R.move rfl) rfl rfl ?_
    refine St.take (dg := 18) rfl rfl ?_ rfl
    refine St.r (R.move rfl) rfl rfl ?_
    refine St.take (dg := 18) rfl rfl ?_ rfl
    refine St.r (R.nilOk rfl) rfl rfl ?_
    refine St.take (dg := 18) rfl rfl ?_ rfl
    refine St.r (R.fieldA Try.underlying87 rfl Try.sizeOf85 rfl rfl rfl) rfl rfl ?_
    refine St.take (dg := 18) rfl rfl ?_ rfl
    refine St.r (R.load1 Try.isAgg85 rfl (h.blk.cells.at 3 rfl)) rfl rfl ?_
    refine St.take (dg := 18) rfl rfl ?_ rfl
    refine St.r (R.lenMap Try.underlying85 h.map rfl) rfl rfl ?_
    refine St.take (dg := 18) rfl rfl ?_ rfl
    refine St.r (R.geq rfl rfl) rfl rfl ?_
    refine St.r (R.pickT rfl rfl) rfl rfl ?_
    refine St.r (R.assign rfl) rfl rfl ?_
    refine St.nil ?_
    refine St.weak [(4, _)] ⟨rfl, trivial⟩ ?_
    refine St.then_n ?_
    refine St.go hK2 ?_
    clear hK2
    refine St.ret ?_
    refine St.ret1 Try.results39 rfl ?_
    exact ⟨_, rfl, by rw [fullB, h17]; rfl, rfl⟩
  ·
    refine St.region ?_
    refine St.r (R.move rfl) rfl rfl ?_
    refine St.r (Runs.lit (c := false) (R.not rfl) (h17)) rfl rfl ?_
    refine St.r (R.move rfl) rfl rfl ?_
    refine St.pass (dg := 18) rfl rfl rfl rfl rfl ?_
    refine St.pass (dg := 18) rfl rfl rfl rfl rfl ?_
    refine St.pass (dg := 18) rfl rfl rfl rfl rfl ?_
    refine St.pass (dg := 18) rfl rfl rfl rfl rfl ?_
    refine St.pass (dg := 18) rfl rfl rfl rfl rfl ?_
    refine St.pass (dg := 18) rfl rfl rfl rfl rfl ?_
    refine St.r (R.pickF rfl rfl) rfl rfl ?_
    refine St.r (R.assign rfl) rfl rfl ?_
    refine St.nil ?_
    refine St.weak [(4, _)] ⟨rfl, trivial⟩ ?_
    refine St.then_n ?_
    refine St.go hK2 ?_
    clear hK2
    refine St.ret ?_
    refine St.ret1 Try.results39 rfl ?_
    exact ⟨_, rfl, by rw [fullB, h17]; rfl, rfl⟩

theorem has_ret {r : Repo} {n : RNames} {i : Int} (w0 : World) (h : RepoB rt w0 n r) : Ret Try.prog 43 [.pointer (some ⟨n.g, 0, none⟩), .int .i64 i] w0 fun x w' => x = .bool (hasB r i) ∧ w' = w0 := by
  obtain ⟨g, gs, bi, ba, bm, cv, gv, V⟩ := n
  obtain ⟨rc, rg, hoc, hog, hrc, hrg⟩ := h.rows
  obtain ⟨CA, CC, hcf, -, -⟩ := hoc.form
  dsimp only at hcf
  subst hcf
  have hrl := hrc.1
  refine St.enter (N := 16) Try.func43 rfl Try.ntmps43 rfl ?_
  refine St.seq fun K0 hK0 => ?_
  refine St.region ?_
  refine St.r (R.assign rfl) rfl rfl ?_
  refine St.nil ?_
  refine St.weak [(0, _), (1, _)] ⟨rfl, rfl, trivial⟩ ?_
  refine St.then_n ?_
  refine St.go hK0 ?_
  clear hK0
  refine St.seq fun K1 hK1 => ?_
  by_cases h6 : 0 ≤ i
  ·
    refine St.region ?_
    refine St.r (R.move rfl) rfl rfl ?_
    refine St.r (Runs.lit (c := true) (R.geq rfl rfl) (decide_eq_true h6)) rfl rfl ?_
    refine St.r (R.move rfl) rfl rfl ?_
    refine St.take (dg := 7) rfl rfl ?_ rfl
    refine St.r (R.move rfl) rfl rfl ?_
    refine St.take (dg := 7) rfl rfl ?_ rfl
    refine St.r (R.move rfl) rfl rfl ?_
    refine St.take (dg := 7) rfl rfl ?_ rfl
    refine St.r (R.nilOk rfl) rfl rfl ?_
    refine St.take (dg := 7) rfl rfl ?_ rfl
    refine St.r (R.fieldA Try.underlying87 rfl Try.sizeOf22 rfl rfl rfl) rfl rfl ?_
    refine St.take (dg := 7) rfl rfl ?_ rfl
    refine St.r (R.load1 Try.isAgg22 rfl (h.blk.cells.at 1 rfl)) rfl rfl ?_
    refine St.take (dg := 7) rfl rfl ?_ rfl
    refine St.r (R.lenSl Try.underlying22 rfl) rfl rfl ?_
    refine St.take (dg := 7) rfl rfl ?_ rfl
    refine St.r (R.lss rfl rfl) rfl rfl ?_
    refine St.r (R.pickT rfl rfl) rfl rfl ?_
    refine St.r (R.assign rfl) rfl rfl ?_
    refine St.nil ?_
    refine St.weak [(4, _)] ⟨rfl, trivial⟩ ?_
    refine St.then_n ?_
    refine St.go hK1 ?_
    clear hK1
    refine St.ret ?_
    refine St.ret1 Try.results43 rfl ?_
    exact ⟨_, rfl, by rw [hasB, decide_eq_true h6, hrl]; rfl, rfl⟩
  ·
    refine St.region ?_
    refine St.r (R.move rfl) rfl rfl ?_
    refine St.r (Runs.lit (c := false) (R.geq rfl rfl) (decide_eq_false h6)) rfl rfl ?_
    refine St.r (R.move rfl) rfl rfl ?_
    refine St.pass (dg := 7) rfl rfl rfl rfl rfl ?_
    refine St.pass (dg := 7) rfl rfl rfl rfl rfl ?_
    refine St.pass (dg := 7) rfl rfl rfl rfl rfl ?_
    refine St.pass (dg := 7) rfl rfl rfl rfl rfl ?_
    refine St.pass (dg := 7) rfl rfl rfl rfl rfl ?_
    refine St.pass (dg := 7) rfl rfl rfl rfl rfl ?_
    refine St.pass (dg := 7) rfl rfl rfl rfl rfl ?_
    refine St.r (R.pickF rfl rfl) rfl rfl ?_
    refine St.r (R.assign rfl) rfl rfl ?_
    refine St.nil ?_
    refine St.weak [(4, _)] ⟨rfl, trivial⟩ ?_
    refine St.then_n ?_
    refine St.go hK1 ?_
    clear hK1
    refine St.ret ?_
    refine St.ret1 Try.results43 rfl ?_
    exact ⟨_, rfl, by rw [hasB, decide_eq_false h6]; rfl, rfl⟩

theorem Head_ret {r : Repo} {n : RNames} {b : ByteArray} (w0 : World) (h : RepoB rt w0 n r) : Ret Try.prog 14 [.pointer (some ⟨n.g, 0, none⟩), .string b] w0 fun x w' => x = .tuple #[.int .i64 (headR r b).1, errV 91 (headR r b).2] ∧ Ext w0 w' := by
  have E : Ext w0 w0 := Ext.refl w0
  refine St.enter (N := 27) Try.func14 rfl Try.ntmps14 rfl ?_
  refine St.seq fun K0 hK0 => ?_
  refine St.region ?_
  refine St.r (R.assign rfl) rfl rfl ?_
  refine St.r (R.assign rfl) rfl rfl ?_
  refine St.nil ?_
  refine St.weak [(0, _), (1, _)] ⟨rfl, rfl, trivial⟩ ?_
  refine St.then_n ?_
  refine St.go hK0 ?_
  clear hK0
  refine St.seq fun K1 hK1 => ?_
  refine St.seq fun K2 hK2 => ?_
  refine St.region ?_
  refine St.r (R.move rfl) rfl rfl ?_
  refine St.call rfl rfl ent37 (Word_ret _) rfl ?_
  rintro r10 w10 ⟨rfl, e10⟩
  replace E := Ext.trans E e10
  refine St.r (R.assign rfl) rfl rfl ?_
  refine St.nil ?_
  refine St.weak [(0, _), (1, _), (6, _)] ⟨rfl, rfl, rfl, trivial⟩ ?_
  refine St.then_n ?_
  refine St.go hK2 ?_
  clear hK2
  refine St.seq fun K3 hK3 => ?_
  refine St.region ?_
  refine St.r (R.move rfl) rfl rfl ?_
  refine St.r (R.notNil (et := 91) (e := _) Try.underlying27 rfl) rfl rfl ?_
  refine St.nil ?_
  refine St.weak [(0, _), (1, _), (6, _), (12, _)] ⟨rfl, rfl, rfl, rfl, trivial⟩ ?_
  refine St.then_n ?_
  refine St.go hK3 ?_
  clear hK3
  refine St.cond rfl (fun h12 => ?_) (fun h12 => ?_)
  ·
    have hw : wordB b = false := by cases hb : wordB b <;> simp [wordErr, hb] at h12 ⊢
    refine St.seq fun K4 hK4 => ?_
    refine St.region ?_
    refine St.r (R.move rfl) rfl rfl ?_
    refine St.r (R.assign rfl) rfl rfl ?_
    refine St.r (R.assign rfl) rfl rfl ?_
    refine St.nil ?_
    refine St.weak [(4, _), (5, _)] ⟨rfl, rfl, trivial⟩ ?_
    refine St.then_n ?_
    refine St.go hK4 ?_
    clear hK4
    refine St.ret ?_
    refine St.then_r ?_
    refine St.ret2 Try.results14 rfl rfl ?_
    exact ⟨_, rfl, by rw [headR, hw, wordErr, hw]; rfl, E⟩
  ·
    have hw : wordB b = true := by cases hb : wordB b <;> simp [wordErr, hb] at h12 ⊢
    refine St.skip ?_
    refine St.then_n ?_
    refine St.go hK1 ?_
    clear hK1
    refine St.seq fun K5 hK5 => ?_
    refine St.region ?_
    refine St.r (R.move rfl) rfl rfl ?_
    refine St.r (R.nilOk rfl) rfl rfl ?_
    refine St.r (R.fieldA Try.underlying87 rfl Try.sizeOf85 rfl rfl rfl) rfl rfl ?_
    refine St.r (R.load1 Try.isAgg85 rfl ((h.ext E).blk.cells.at 3 rfl)) rfl rfl ?_
    refine St.r (R.move rfl) rfl rfl ?_
    refine St.r (R.lookupOk (KEnc.str Try.underlying9) Try.underlying85 Try.zeroValue3 (h.ext E).map rfl rfl) rfl rfl ?_
    refine St.r (R.move rfl) rfl rfl ?_
    refine St.r (R.extract rfl rfl) rfl rfl ?_
    refine St.r (R.extract rfl rfl) rfl rfl ?_
    refine St.r (R.assign rfl) rfl rfl ?_
    refine St.r (R.assign rfl) rfl rfl ?_
    refine St.nil ?_
    refine St.weak [(7, _), (8, _)] ⟨rfl, rfl, trivial⟩ ?_
    refine St.then_n ?_
    refine St.go hK5 ?_
    clear hK5
    refine St.seq fun K6 hK6 => ?_
    refine St.seq fun K7 hK7 => ?_
    refine St.region ?_
    refine St.r (R.move rfl) rfl rfl ?_
    refine St.r (R.not rfl) rfl rfl ?_
    refine St.nil ?_
    refine St.weak [(7, _), (24, _)] ⟨rfl, rfl, trivial⟩ ?_
    refine St.then_n ?_
    refine St.go hK7 ?_
    clear hK7
    refine St.cond rfl (fun h24 => ?_) (fun h24 => ?_)
    ·
      have hg : (getM r.heads b).isSome = false := by simpa using h24
      refine St.seq fun K8 hK8 => ?_
      refine St.region ?_
      refine St.r (R.iface Try.underlying91 rfl rfl) rfl rfl ?_
      refine St.r (R.assign rfl) rfl rfl ?_
      refine St.r (R.assign rfl) rfl rfl ?_
      refine St.nil ?_
      refine St.weak [(4, _), (5, _)] ⟨rfl, rfl, trivial⟩ ?_
      refine St.then_n ?_
      refine St.go hK8 ?_
      clear hK8
      refine St.ret ?_
      refine St.then_r ?_
      refine St.ret2 Try.results14 rfl rfl ?_
      have hn : getM r.heads b = none := by simpa using hg
      exact ⟨_, rfl, by rw [headR, hw, hg, hn]; rfl, E⟩
    ·
      have hg : (getM r.heads b).isSome = true := by simpa using h24
      refine St.skip ?_
      refine St.then_n ?_
      refine St.go hK6 ?_
      clear hK6
      refine St.seq fun K9 hK9 => ?_
      refine St.region ?_
      refine St.r (R.move rfl) rfl rfl ?_
      refine St.r (R.assign rfl) rfl rfl ?_
      refine St.r (R.assign rfl) rfl rfl ?_
      refine St.nil ?_
      refine St.weak [(4, _), (5, _)] ⟨rfl, rfl, trivial⟩ ?_
      refine St.then_n ?_
      refine St.go hK9 ?_
      clear hK9
      refine St.ret ?_
      refine St.ret2 Try.results14 rfl rfl ?_
      exact ⟨_, rfl, by rw [headR, hw, hg]; rfl, E⟩

theorem Graph_ret {r : Repo} {n : RNames} {i : Int} (w0 : World) (h : RepoB rt w0 n r) (hl : r.cs.length = r.gs.length) (hs : ∀ g ∈ r.gs, g.length ≤ 1000000000) : Ret Try.prog 16 [.pointer (some ⟨n.g, 0, none⟩), .int .i64 i] w0 fun x w' =>
    ∃ y, x = .tuple #[y, errV 91 (if hasB r i then none else some 1)] ∧ RTriples w' y (if hasB r i then (r.gs[i.toNat]?).getD [] else []) ∧ Ext w0 w' := by
  obtain ⟨g, gs, bi, ba, bm, cv, gv, V⟩ := n
  obtain ⟨rc, rg, hoc, hog, hrc, hrg⟩ := h.rows
  obtain ⟨GA, GC, hgf, -, -⟩ := hog.form
  dsimp only at hgf
  subst hgf
  have hrl := hrg.1
  have E : Ext w0 w0 := Ext.refl w0
  refine St.enter (N := 19) Try.func16 rfl Try.ntmps16 rfl ?_
  refine St.seq fun K0 hK0 => ?_
  refine St.region ?_
  refine St.r (R.assign rfl) rfl rfl ?_
  refine St.r (R.assign rfl) rfl rfl ?_
  refine St.nil ?_
  refine St.weak [(0, _), (1, _)] ⟨rfl, rfl, trivial⟩ ?_
  refine St.then_n ?_
  refine St.go hK0 ?_
  clear hK0
  refine St.seq fun K1 hK1 => ?_
  refine St.seq fun K2 hK2 => ?_
  refine St.region ?_
  refine St.r (R.move rfl) rfl rfl ?_
  refine St.r (R.move rfl) rfl rfl ?_
  refine St.call rfl rfl ent43 (has_ret _ h) rfl ?_
  rintro r8 w8 ⟨rfl, hw8⟩
  subst w8
  refine St.r (R.not rfl) rfl rfl ?_
  refine St.nil ?_
  refine St.weak [(0, _), (1, _), (9, _)] ⟨rfl, rfl, rfl, trivial⟩ ?_
  refine St.then_n ?_
  refine St.go hK2 ?_
  clear hK2
  refine St.cond rfl (fun h9 => ?_) (fun h9 => ?_)
  ·
    have hh : hasB r i = false := by simpa using h9
    refine St.seq fun K3 hK3 => ?_
    refine St.region ?_
    refine St.r (R.iface Try.underlying91 rfl rfl) rfl rfl ?_
    refine St.r (R.assign rfl) rfl rfl ?_
    refine St.r (R.assign rfl) rfl rfl ?_
    refine St.nil ?_
    refine St.weak [(4, _), (5, _)] ⟨rfl, rfl, trivial⟩ ?_
    refine St.then_n ?_
    refine St.go hK3 ?_
    clear hK3
    refine St.ret ?_
    refine St.then_r ?_
    refine St.ret2 Try.results16 rfl rfl ?_
    exact ⟨_, rfl, _, by rw [hh]; rfl, by rw [hh]; exact RSl.nil _ _ _, E⟩
  ·
    have hh : hasB r i = true := by simpa using h9
    have hh2 := hh
    simp only [hasB, Bool.and_eq_true, decide_eq_true_eq] at hh2
    obtain ⟨k, rfl⟩ : ∃ k : Nat, i = (k : Int) := ⟨i.toNat, by omega⟩
    obtain ⟨y, hy⟩ := get_of_lt (xs := r.gs) (k := k) (by omega)
    obtain ⟨x, hx⟩ := get_of_lt (xs := rg) (k := k) (by omega)
    obtain ⟨xb, xo, hA, hxc⟩ := (hog.reads encHd_len).get' hx
    subst hA
    have hrow := (hrg.2 k x y hx hy).1
    refine St.skip ?_
    refine St.then_n ?_
    refine St.go hK1 ?_
    clear hK1
    refine St.seq fun K4 hK4 => ?_
    refine St.region ?_
    refine St.r (R.move rfl) rfl rfl ?_
    refine St.r (R.nilOk rfl) rfl rfl ?_
    refine St.r (R.fieldA Try.underlying87 rfl Try.sizeOf36 rfl rfl rfl) rfl rfl ?_
    refine St.r (R.load1 Try.isAgg36 rfl (h.blk.cells.at 2 rfl)) rfl rfl ?_
    refine St.r (R.move rfl) rfl rfl ?_
    refine St.r (R.indexS k Try.underlying36 Try.sizeOf44 rfl rfl rfl (by omega)) rfl rfl ?_
    refine St.r (R.load1 Try.isAgg44 rfl (hxc.at 0 rfl)) rfl rfl ?_
    refine St.call rfl rfl ent44 (tri_Clone _ (hrow.ext (REnc.firm _) E) (hs y (List.mem_of_getElem? hy))) rfl ?_
    rintro r18 w18 ⟨o18, e18⟩
    replace E := Ext.trans E e18
    refine St.r (R.assign rfl) rfl rfl ?_
    refine St.r (R.assign rfl) rfl rfl ?_
    refine St.nil ?_
    refine St.weak [(4, _), (5, _)] ⟨rfl, rfl, trivial⟩ ?_
    refine St.then_n ?_
    refine St.go hK4 ?_
    clear hK4
    refine St.ret ?_
    refine St.ret2 Try.results16 rfl rfl ?_
    exact ⟨_, rfl, _, by rw [hh]; rfl, by rw [hh, if_pos rfl, Int.toNat_natCast, hy]; exact o18.reads encTriple_len, E⟩

end Go.Proofs.Ytjgcmpondbocfaa

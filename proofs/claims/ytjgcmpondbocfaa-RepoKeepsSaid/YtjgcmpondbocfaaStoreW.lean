/- What the functions of package store come to: each walked once, against plain Lean. Under the reading of its arguments. -/
import Derived.Test.YtjgcmpondbocfaaProg
import Derived.Test.YtjgcmpondbocfaaDagW
import Derived.Test.YtjgcmpondbocfaaStore
import Derived.Test.YtjgcmpondbocfaaIter
namespace Go.Proofs.Ytjgcmpondbocfaa
open Go.RowKit 
theorem ent46 : Ent Try.prog 46 := Ent.of Try.func46 (by kernel_rfl) rfl
theorem ent49 : Ent Try.prog 49 := Ent.of Try.func49 (by kernel_rfl) rfl
theorem ent50 : Ent Try.prog 50 := Ent.of Try.func50 (by kernel_rfl) rfl
theorem ent51 : Ent Try.prog 51 := Ent.of Try.func51 (by kernel_rfl) rfl
theorem ent81 : Ent Try.prog 81 := Ent.of Try.func81 (by kernel_rfl) rfl
theorem places101 : ∀ fs, Try.prog.underlying 101 = some (.struct fs) → Places Try.prog fs [(0, 1), (1, 1), (2, 1), (3, 1)] := by
  intro fs h
  rw [Try.underlying101] at h
  cases h
  intro w
  simp [go_sem, Try.sizeOf3, Try.sizeOf85, Try.sizeOf99]
theorem int_Index {xs : List Int} {v : Value} {n : Int} (w0 : World) (hv : RSl (REnc encInt) 1 w0 v xs) :
    Ret Try.prog 81 [v, .int .i64 n] w0 fun r w' => r = .int .i64 (idxOf (fun x => decide (n = x)) xs) ∧ Ext w0 w' := by
  obtain ⟨A, c, rfl, hc1, hc2⟩ := hv.form
  have E : Ext w0 w0 := Ext.refl w0
  refine St.enter (N := 19) Try.func81 rfl Try.ntmps81 rfl ?_
  refine St.seq fun K0 hK0 => ?_
  refine St.region ?_
  refine St.r (R.assign rfl) rfl rfl ?_
  refine St.nil ?_
  refine St.weak [(0, _), (1, _)] ⟨rfl, rfl, trivial⟩ ?_
  refine St.then_n ?_
  refine St.go hK0 ?_
  clear hK0
  refine St.seq fun K1 hK1 => ?_
  refine St.seq fun K2 hK2 => ?_
  refine St.region ?_
  refine St.r (R.move rfl) rfl rfl ?_
  refine St.r (R.lenSl Try.underlying23 rfl) rfl rfl ?_
  refine St.r (R.move rfl) rfl rfl ?_
  refine St.nil ?_
  refine St.weak [(0, _), (1, _), (7, _), (8, _)] ⟨rfl, rfl, rfl, rfl, trivial⟩ ?_
  refine St.then_n ?_
  refine St.go hK2 ?_
  clear hK2
  refine St.block ?_
  refine St.loop (fun (k : Nat) => [(0, .slice A xs.length c), (1, .int .i64 n), (7, .int .i64 (xs.length : Int)), (8, .int .i64 (k : Int))])
      (fun (k : Nat) w => k ≤ xs.length ∧ Ext w0 w ∧ ∀ y ∈ xs.take k, decide (n = y) = false)
      (fun (k : Nat) => xs.length - k) 0 ⟨rfl, rfl, rfl, rfl, trivial⟩ ?_ ?_
  · exact ⟨Nat.zero_le _, E, by simp⟩
  rintro k w ⟨hk, E, hall⟩
  show St _ _ [(0, .slice A xs.length c), (1, .int .i64 n), (7, .int .i64 (xs.length : Int)), (8, .int .i64 (k : Int))] _ _
  refine St.seq fun K3 hK3 => ?_
  refine St.region ?_
  refine St.r (R.lss rfl rfl) rfl rfl ?_
  refine St.nil ?_
  refine St.weak [(0, _), (1, _), (7, _), (8, _), (9, _)] ⟨rfl, rfl, rfl, rfl, rfl, trivial⟩ ?_
  refine St.then_n ?_
  refine St.go hK3 ?_
  clear hK3
  refine St.seq fun K4 hK4 => ?_
  refine St.condD rfl (fun h9 => ?_) (fun h9 => ?_)
  ·
    obtain ⟨x, hx⟩ := get_of_lt (xs := xs) (k := k) (by omega)
    obtain ⟨b, o, rfl, hx'⟩ := hv.get' hx
    refine St.skip ?_
    refine St.then_n ?_
    refine St.go hK4 ?_
    clear hK4
    refine St.seq fun K5 hK5 => ?_
    refine St.block ?_
    refine St.seq fun K6 hK6 => ?_
    refine St.region ?_
    refine St.r (R.move rfl) rfl rfl ?_
    refine St.r (R.assign rfl) rfl rfl ?_
    refine St.nil ?_
    refine St.weak [(0, _), (1, _), (5, _), (7, _), (8, _)] ⟨rfl, rfl, rfl, rfl, rfl, trivial⟩ ?_
    refine St.then_n ?_
    refine St.go hK6 ?_
    clear hK6
    refine St.seq fun K7 hK7 => ?_
    refine St.region ?_
    refine St.r (R.move rfl) rfl rfl ?_
    refine St.r (R.move rfl) rfl rfl ?_
    refine St.r (R.move rfl) rfl rfl ?_
    refine St.r (R.indexS k Try.underlying23 Try.sizeOf3 rfl rfl rfl (by omega)) rfl rfl ?_
    refine St.r (R.load1 Try.isAgg3 rfl ((E.cells hx').at 0 rfl)) rfl rfl ?_
    refine St.r (R.eql rfl rfl) rfl rfl ?_
    refine St.nil ?_
    refine St.weak [(0, _), (1, _), (5, _), (7, _), (8, _), (16, _)] ⟨rfl, rfl, rfl, rfl, rfl, rfl, trivial⟩ ?_
    refine St.then_n ?_
    refine St.go hK7 ?_
    clear hK7
    refine St.condD rfl (fun h16 => ?_) (fun h16 => ?_)
    ·
      refine St.seq fun K8 hK8 => ?_
      refine St.region ?_
      refine St.r (R.move rfl) rfl rfl ?_
      refine St.r (R.assign rfl) rfl rfl ?_
      refine St.nil ?_
      refine St.weak [(4, _)] ⟨rfl, trivial⟩ ?_
      refine St.then_n ?_
      refine St.go hK8 ?_
      clear hK8
      refine St.ret ?_
      refine St.in_r ?_
      refine St.then_r ?_
      refine St.then_r ?_
      refine St.in_r ?_
      refine St.then_r ?_
      refine St.ret1 Try.results81 rfl ?_
      exact ⟨_, rfl, by rw [idxOf_found hx (decide_eq_true h16) hall], E⟩
    ·
      refine St.skip ?_
      refine St.in_n ?_
      refine St.then_n ?_
      refine St.go hK5 ?_
      clear hK5
      refine St.region ?_
      refine St.r (R.add rfl rfl (by omega) (by omega)) rfl rfl ?_
      refine St.r (R.move rfl) rfl rfl ?_
      refine St.nil ?_
      refine St.weak [(0, _), (1, _), (7, _), (8, _)] ⟨rfl, rfl, rfl, rfl, trivial⟩ ?_
      refine St.then_n ?_
      refine St.round (k + 1) ⟨rfl, rfl, rfl, rfl, trivial⟩ ?_ ?_
      · refine ⟨by omega, E, ?_⟩
        rw [take_snoc hx]
        intro y hy
        rcases List.mem_append.1 hy with hy | hy
        · exact hall y hy
        · rw [List.mem_singleton] at hy; subst hy; exact decide_eq_false h16
      · omega
  ·
    refine St.exit ?_
    refine St.then_x ?_
    refine St.then_x ?_
    refine St.in_x ?_
    refine St.then_n ?_
    refine St.go hK1 ?_
    clear hK1
    refine St.seq fun K9 hK9 => ?_
    refine St.region ?_
    refine St.r (R.assign rfl) rfl rfl ?_
    refine St.nil ?_
    refine St.weak [(4, _)] ⟨rfl, trivial⟩ ?_
    refine St.then_n ?_
    refine St.go hK9 ?_
    clear hK9
    refine St.ret ?_
    refine St.ret1 Try.results81 rfl ?_
    exact ⟨_, rfl, by rw [idxOf_none (fun x hx => hall x (by rw [List.take_of_length_le (by omega)]; exact hx))], E⟩

theorem int_Contains {xs : List Int} {v : Value} {n : Int} (w0 : World) (hv : RSl (REnc encInt) 1 w0 v xs) :
    Ret Try.prog 51 [v, .int .i64 n] w0 fun r w' => r = .bool (xs.any fun x => decide (n = x)) ∧ Ext w0 w' := by
  have E : Ext w0 w0 := Ext.refl w0
  refine St.enter (N := 9) Try.func51 rfl Try.ntmps51 rfl ?_
  refine St.seq fun K0 hK0 => ?_
  refine St.region ?_
  refine St.r (R.assign rfl) rfl rfl ?_
  refine St.nil ?_
  refine St.weak [(0, _), (1, _)] ⟨rfl, rfl, trivial⟩ ?_
  refine St.then_n ?_
  refine St.go hK0 ?_
  clear hK0
  refine St.seq fun K1 hK1 => ?_
  refine St.region ?_
  refine St.r (R.move rfl) rfl rfl ?_
  refine St.r (R.move rfl) rfl rfl ?_
  refine St.call rfl rfl ent81 (int_Index _ hv) rfl ?_
  rintro r7 w7 ⟨rfl, e7⟩
  replace E := Ext.trans E e7
  refine St.r (Runs.eq (R.geq rfl rfl) ((congrArg Value.bool (idxOf_any _ xs)))) rfl rfl ?_
  refine St.r (R.assign rfl) rfl rfl ?_
  refine St.nil ?_
  refine St.weak [(4, _)] ⟨rfl, trivial⟩ ?_
  refine St.then_n ?_
  refine St.go hK1 ?_
  clear hK1
  refine St.ret ?_
  refine St.ret1 Try.results51 rfl ?_
  exact ⟨_, rfl, rfl, E⟩

theorem New_ret (w0 : World) : Ret Try.prog 19 [] w0 fun r w' => ∃ g bi ba, r = .pointer (some ⟨g, 0, none⟩) ∧ StoB 101 w' g bi ba Sto.empty ∧ w0.heap.size ≤ g ∧ w0.heap.size ≤ bi ∧ w0.heap.size ≤ ba ∧ Ext w0 w' := by
  have E : Ext w0 w0 := Ext.refl w0
  refine St.enter (N := 5) Try.func19 rfl Try.ntmps19 rfl ?_
  refine St.seq fun K0 hK0 => ?_
  refine St.region ?_
  refine St.r (R.assign rfl) rfl rfl ?_
  refine St.nil ?_
  refine St.weak [] trivial ?_
  refine St.then_n ?_
  refine St.go hK0 ?_
  clear hK0
  refine St.seq fun K1 hK1 => ?_
  refine St.region ?_
  refine St.turn (Eff.makeMap (fun s : ByteArray => Value.string s) (fun n : Int => Value.int .i64 n)) rfl rfl ?_
  rintro _ w1 ⟨b1, rfl, hb1, hs1, e1, m1⟩
  have qE1 := E.size
  replace E := Ext.trans E e1
  refine St.turn (Eff.makeMap (fun n : Int => Value.int .i64 n) (fun s : ByteArray => Value.string s)) rfl rfl ?_
  rintro _ w2 ⟨b2, rfl, hb2, hs2, e2, m2⟩
  have qE2 := E.size
  replace E := Ext.trans E e2
  replace m1 := m1.ext e2
  refine St.r (R.build Try.underlying101 (places101 _ Try.underlying101) Try.zeroValue101 rfl rfl rfl) rfl rfl ?_
  refine St.box rfl rfl ?_
  intro w4 b4 hb4 hs4 e4 k4
  have qE4 := E.size
  replace E := Ext.trans E e4
  replace m1 := m1.ext e4
  replace m2 := m2.ext e4
  refine St.r (R.assign rfl) rfl rfl ?_
  refine St.nil ?_
  refine St.weak [(0, _)] ⟨rfl, trivial⟩ ?_
  refine St.then_n ?_
  refine St.go hK1 ?_
  clear hK1
  refine St.ret ?_
  refine St.ret1 Try.results19 rfl ?_
  exact ⟨_, rfl, b4, b1, b2, rfl, ⟨k4, m1, m2, by omega, by omega, by omega⟩, by omega, by omega, by omega, E⟩

theorem Get_ret {s : Sto} {g bi ba : Nat} {n : Int} (w0 : World) (h : StoB 101 w0 g bi ba s) : Ret Try.prog 21 [.pointer (some ⟨g, 0, none⟩), .int .i64 n] w0 fun r w' => r = .tuple #[.string ((getM s.all n).getD ⟨#[]⟩), errV 91 (if (getM s.all n).isSome then none else some 5)] ∧ w' = w0 := by
  refine St.enter (N := 21) Try.func21 rfl Try.ntmps21 rfl ?_
  refine St.seq fun K0 hK0 => ?_
  refine St.region ?_
  refine St.r (R.assign rfl) rfl rfl ?_
  refine St.r (R.assign rfl) rfl rfl ?_
  refine St.nil ?_
  refine St.weak [(0, _), (1, _)] ⟨rfl, rfl, trivial⟩ ?_
  refine St.then_n ?_
  refine St.go hK0 ?_
  clear hK0
  refine St.seq fun K1 hK1 => ?_
  refine St.region ?_
  refine St.r (R.move rfl) rfl rfl ?_
  refine St.r (R.nilOk rfl) rfl rfl ?_
  refine St.r (R.fieldA Try.underlying101 rfl Try.sizeOf99 rfl rfl rfl) rfl rfl ?_
  refine St.r (R.load1 Try.isAgg99 rfl (h.blk.cells.at 3 rfl)) rfl rfl ?_
  refine St.r (R.move rfl) rfl rfl ?_
  refine St.r (R.lookupOk (KEnc.int Try.underlying3) Try.underlying99 Try.zeroValue9 h.all rfl rfl) rfl rfl ?_
  refine St.r (R.move rfl) rfl rfl ?_
  refine St.r (R.extract rfl rfl) rfl rfl ?_
  refine St.r (R.extract rfl rfl) rfl rfl ?_
  refine St.r (R.assign rfl) rfl rfl ?_
  refine St.r (R.assign rfl) rfl rfl ?_
  refine St.nil ?_
  refine St.weak [(6, _), (7, _)] ⟨rfl, rfl, trivial⟩ ?_
  refine St.then_n ?_
  refine St.go hK1 ?_
  clear hK1
  refine St.seq fun K2 hK2 => ?_
  refine St.seq fun K3 hK3 => ?_
  refine St.region ?_
  refine St.r (R.move rfl) rfl rfl ?_
  refine St.r (R.not rfl) rfl rfl ?_
  refine St.nil ?_
  refine St.weak [(6, _), (18, _)] ⟨rfl, rfl, trivial⟩ ?_
  refine St.then_n ?_
  refine St.go hK3 ?_
  clear hK3
  refine St.cond rfl (fun h18 => ?_) (fun h18 => ?_)
  ·
    have hg : getM s.all n = none := by cases hc : getM s.all n <;> simp [hc] at h18 ⊢
    refine St.seq fun K4 hK4 => ?_
    refine St.region ?_
    refine St.r (R.iface Try.underlying91 rfl rfl) rfl rfl ?_
    refine St.r (R.assign rfl) rfl rfl ?_
    refine St.r (R.assign rfl) rfl rfl ?_
    refine St.nil ?_
    refine St.weak [(4, _), (5, _)] ⟨rfl, rfl, trivial⟩ ?_
    refine St.then_n ?_
    refine St.go hK4 ?_
    clear hK4
    refine St.ret ?_
    refine St.then_r ?_
    refine St.ret2 Try.results21 rfl rfl ?_
    exact ⟨_, rfl, by rw [hg]; rfl, rfl⟩
  ·
    obtain ⟨b, hg⟩ : ∃ b, getM s.all n = some b := by cases hc : getM s.all n <;> simp [hc] at h18 ⊢
    refine St.skip ?_
    refine St.then_n ?_
    refine St.go hK2 ?_
    clear hK2
    refine St.seq fun K5 hK5 => ?_
    refine St.region ?_
    refine St.r (R.move rfl) rfl rfl ?_
    refine St.r (R.assign rfl) rfl rfl ?_
    refine St.r (R.assign rfl) rfl rfl ?_
    refine St.nil ?_
    refine St.weak [(4, _), (5, _)] ⟨rfl, rfl, trivial⟩ ?_
    refine St.then_n ?_
    refine St.go hK5 ?_
    clear hK5
    refine St.ret ?_
    refine St.ret2 Try.results21 rfl rfl ?_
    exact ⟨_, rfl, by rw [hg]; rfl, rfl⟩

theorem Find_ret {s : Sto} {g bi ba : Nat} {b : ByteArray} (w0 : World) (h : StoB 101 w0 g bi ba s) : Ret Try.prog 22 [.pointer (some ⟨g, 0, none⟩), .string b] w0 fun r w' => r = .tuple #[.int .i64 ((getM s.ids b).getD 0), errV 91 (if (getM s.ids b).getD 0 = 0 then some 5 else none)] ∧ w' = w0 := by
  refine St.enter (N := 20) Try.func22 rfl Try.ntmps22 rfl ?_
  refine St.seq fun K0 hK0 => ?_
  refine St.region ?_
  refine St.r (R.assign rfl) rfl rfl ?_
  refine St.r (R.assign rfl) rfl rfl ?_
  refine St.nil ?_
  refine St.weak [(0, _), (1, _)] ⟨rfl, rfl, trivial⟩ ?_
  refine St.then_n ?_
  refine St.go hK0 ?_
  clear hK0
  refine St.seq fun K1 hK1 => ?_
  refine St.seq fun K2 hK2 => ?_
  refine St.region ?_
  refine St.r (R.move rfl) rfl rfl ?_
  refine St.r (R.nilOk rfl) rfl rfl ?_
  refine St.r (R.fieldA Try.underlying101 rfl Try.sizeOf85 rfl rfl rfl) rfl rfl ?_
  refine St.r (R.load1 Try.isAgg85 rfl (h.blk.cells.at 2 rfl)) rfl rfl ?_
  refine St.r (R.move rfl) rfl rfl ?_
  refine St.r (R.lookup (KEnc.str Try.underlying9) Try.underlying85 Try.zeroValue3 h.ids rfl rfl) rfl rfl ?_
  refine St.r (R.eql rfl rfl) rfl rfl ?_
  refine St.nil ?_
  refine St.weak [(0, _), (1, _), (12, _)] ⟨rfl, rfl, rfl, trivial⟩ ?_
  refine St.then_n ?_
  refine St.go hK2 ?_
  clear hK2
  refine St.condD rfl (fun h12 => ?_) (fun h12 => ?_)
  ·
    refine St.seq fun K3 hK3 => ?_
    refine St.region ?_
    refine St.r (R.iface Try.underlying91 rfl rfl) rfl rfl ?_
    refine St.r (R.assign rfl) rfl rfl ?_
    refine St.r (R.assign rfl) rfl rfl ?_
    refine St.nil ?_
    refine St.weak [(4, _), (5, _)] ⟨rfl, rfl, trivial⟩ ?_
    refine St.then_n ?_
    refine St.go hK3 ?_
    clear hK3
    refine St.ret ?_
    refine St.then_r ?_
    refine St.ret2 Try.results22 rfl rfl ?_
    exact ⟨_, rfl, by rw [h12, if_pos rfl]; rfl, rfl⟩
  ·
    refine St.skip ?_
    refine St.then_n ?_
    refine St.go hK1 ?_
    clear hK1
    refine St.seq fun K4 hK4 => ?_
    refine St.region ?_
    refine St.r (R.move rfl) rfl rfl ?_
    refine St.r (R.nilOk rfl) rfl rfl ?_
    refine St.r (R.fieldA Try.underlying101 rfl Try.sizeOf85 rfl rfl rfl) rfl rfl ?_
    refine St.r (R.load1 Try.isAgg85 rfl (h.blk.cells.at 2 rfl)) rfl rfl ?_
    refine St.r (R.move rfl) rfl rfl ?_
    refine St.r (R.lookup (KEnc.str Try.underlying9) Try.underlying85 Try.zeroValue3 h.ids rfl rfl) rfl rfl ?_
    refine St.r (R.assign rfl) rfl rfl ?_
    refine St.r (R.assign rfl) rfl rfl ?_
    refine St.nil ?_
    refine St.weak [(4, _), (5, _)] ⟨rfl, rfl, trivial⟩ ?_
    refine St.then_n ?_
    refine St.go hK4 ?_
    clear hK4
    refine St.ret ?_
    refine St.ret2 Try.results22 rfl rfl ?_
    exact ⟨_, rfl, by rw [if_neg h12]; rfl, rfl⟩

theorem Len_ret {s : Sto} {g bi ba : Nat} (w0 : World) (h : StoB 101 w0 g bi ba s) : Ret Try.prog 25 [.pointer (some ⟨g, 0, none⟩)] w0 fun r w' => r = .int .i64 (s.all.length : Int) ∧ w' = w0 := by
  refine St.enter (N := 8) Try.func25 rfl Try.ntmps25 rfl ?_
  refine St.seq fun K0 hK0 => ?_
  refine St.region ?_
  refine St.r (R.assign rfl) rfl rfl ?_
  refine St.nil ?_
  refine St.weak [(0, _)] ⟨rfl, trivial⟩ ?_
  refine St.then_n ?_
  refine St.go hK0 ?_
  clear hK0
  refine St.seq fun K1 hK1 => ?_
  refine St.region ?_
  refine St.r (R.move rfl) rfl rfl ?_
  refine St.r (R.nilOk rfl) rfl rfl ?_
  refine St.r (R.fieldA Try.underlying101 rfl Try.sizeOf99 rfl rfl rfl) rfl rfl ?_
  refine St.r (R.load1 Try.isAgg99 rfl (h.blk.cells.at 3 rfl)) rfl rfl ?_
  refine St.r (R.lenMap Try.underlying99 h.all rfl) rfl rfl ?_
  refine St.r (R.assign rfl) rfl rfl ?_
  refine St.nil ?_
  refine St.weak [(2, _)] ⟨rfl, trivial⟩ ?_
  refine St.then_n ?_
  refine St.go hK1 ?_
  clear hK1
  refine St.ret ?_
  refine St.ret1 Try.results25 rfl ?_
  exact ⟨_, rfl, rfl, rfl⟩

theorem Room_ret {s : Sto} {g bi ba : Nat} {b : ByteArray} {v : Value} (hok : s.Ok) (hb : b.size ≤ 9223372036854000000) (w0 : World) (h : StoB 101 w0 g bi ba s) (hv : RStrs w0 v [b]) :
    Ret Try.prog 46 [.pointer (some ⟨g, 0, none⟩), v] w0 fun r w' => r = .bool (roomB s b) ∧ Ext w0 w' := by
  obtain ⟨vb, vo, vc, rfl, -, -, hvr⟩ := hv.at (by simp)
  have hvc := hv.get (k := 0) rfl
  have hok1 := hok.bytes
  have hok2 := hok.few
  have E : Ext w0 w0 := Ext.refl w0
  refine St.enter (N := 54) Try.func46 rfl Try.ntmps46 rfl ?_
  refine St.seq fun K0 hK0 => ?_
  refine St.region ?_
  refine St.r (R.assign rfl) rfl rfl ?_
  refine St.nil ?_
  refine St.weak [(0, _), (1, _)] ⟨rfl, rfl, trivial⟩ ?_
  refine St.then_n ?_
  refine St.go hK0 ?_
  clear hK0
  refine St.seq fun K1 hK1 => ?_
  refine St.weak [(0, _), (1, _)] ⟨rfl, rfl, trivial⟩ ?_
  refine St.draw mixed rfl rfl rfl rfl ?_
  replace E := Ext.trans E (Ext.drew _)
  refine ⟨_, OpOk.r (R.move rfl) rfl, ?_⟩
  refine ⟨_, OpOk.r (R.nilOk rfl) rfl, ?_⟩
  refine ⟨_, OpOk.r (R.fieldA Try.underlying101 rfl Try.sizeOf99 rfl rfl rfl) rfl, ?_⟩
  refine ⟨_, OpOk.r (R.load1 Try.isAgg99 rfl ((h.blk.ext E).cells.at 3 rfl)) rfl, ?_⟩
  refine ⟨_, OpOk.r (R.lenMap Try.underlying99 (h.all.ext E) rfl) rfl, ?_⟩
  refine ⟨_, OpOk.r (R.move rfl) rfl, ?_⟩
  refine ⟨_, OpOk.r (R.nilOk rfl) rfl, ?_⟩
  refine ⟨_, OpOk.r (R.fieldA Try.underlying101 rfl Try.sizeOf3 rfl rfl rfl) rfl, ?_⟩
  refine ⟨_, OpOk.r (R.load1 Try.isAgg3 rfl ((h.blk.ext E).cells.at 1 rfl)) rfl, ?_⟩
  refine ⟨_, OpOk.r (R.assign rfl) rfl, ?_⟩
  refine ⟨_, OpOk.r (R.assign rfl) rfl, ?_⟩
  show St _ _ _ _ _
  refine St.weak [(0, _), (1, _), (5, _), (6, _)] ⟨rfl, rfl, rfl, rfl, trivial⟩ ?_
  refine St.then_n ?_
  refine St.go hK1 ?_
  clear hK1
  refine St.seq fun K2 hK2 => ?_
  refine St.region ?_
  refine St.turn (Eff.makeMap (fun s : ByteArray => Value.string s) (fun b : Bool => Value.bool b)) rfl rfl ?_
  rintro _ w19 ⟨b19, rfl, hb19, hs19, e19, m19⟩
  have qE19 := E.size
  replace E := Ext.trans E e19
  refine St.r (R.assign rfl) rfl rfl ?_
  refine St.nil ?_
  refine St.weak [(0, _), (1, _), (5, _), (6, _), (7, _)] ⟨rfl, rfl, rfl, rfl, rfl, trivial⟩ ?_
  refine St.then_n ?_
  refine St.go hK2 ?_
  clear hK2
  refine St.seq fun K3 hK3 => ?_
  refine St.seq fun K4 hK4 => ?_
  refine St.region ?_
  refine St.r (R.move rfl) rfl rfl ?_
  refine St.r (R.lenSl Try.underlying37 rfl) rfl rfl ?_
  refine St.r (R.move rfl) rfl rfl ?_
  refine St.nil ?_
  refine St.weak [(0, _), (5, _), (6, _), (7, _), (20, _), (21, _), (22, _)] ⟨rfl, rfl, rfl, rfl, rfl, rfl, rfl, trivial⟩ ?_
  refine St.then_n ?_
  refine St.go hK4 ?_
  clear hK4
  refine St.block ?_
  refine St.loop (fun (x : Nat × List (ByteArray × Bool)) => match x with | (k, sn) => [(0, .pointer (some ⟨g, 0, none⟩)), (5, .int .i64 (if k = 0 then (s.all.length : Int) else roomN s b)), (6, .int .i64 (if k = 0 then s.bytes else roomL s b)), (7, .map (some b19)), (20, .slice (some ⟨vb, vo, none⟩) 1 vc), (21, .int .i64 1), (22, .int .i64 (k : Int))])
      (fun (x : Nat × List (ByteArray × Bool)) w => match x with | (k, sn) => k ≤ 1 ∧ (k = 0 → sn = []) ∧ Ext w0 w ∧ MapB encS (fun b : Bool => Value.bool b) w b19 sn)
      (fun (x : Nat × List (ByteArray × Bool)) => match x with | (k, sn) => 1 - k) (0, []) ⟨rfl, rfl, rfl, rfl, rfl, rfl, rfl, trivial⟩ ?_ ?_
  · exact ⟨Nat.zero_le _, fun _ => rfl, E, m19⟩
  rintro ⟨k, sn⟩ w ⟨hk, hsn, E, m19⟩
  show St _ _ [(0, .pointer (some ⟨g, 0, none⟩)), (5, .int .i64 (if k = 0 then (s.all.length : Int) else roomN s b)), (6, .int .i64 (if k = 0 then s.bytes else roomL s b)), (7, .map (some b19)), (20, .slice (some ⟨vb, vo, none⟩) 1 vc), (21, .int .i64 1), (22, .int .i64 (k : Int))] _ _
  refine St.seq fun K5 hK5 => ?_
  refine St.region ?_
  refine St.r (R.lss rfl rfl) rfl rfl ?_
  refine St.nil ?_
  refine St.weak [(0, _), (5, _), (6, _), (7, _), (20, _), (21, _), (22, _), (23, _)] ⟨rfl, rfl, rfl, rfl, rfl, rfl, rfl, rfl, trivial⟩ ?_
  refine St.then_n ?_
  refine St.go hK5 ?_
  clear hK5
  refine St.seq fun K6 hK6 => ?_
  refine St.condD rfl (fun h23 => ?_) (fun h23 => ?_)
  ·
    obtain rfl : k = 0 := by omega
    obtain rfl := hsn rfl
    refine St.skip ?_
    refine St.then_n ?_
    refine St.go hK6 ?_
    clear hK6
    refine St.seq fun K7 hK7 => ?_
    refine St.block ?_
    refine St.seq fun K8 hK8 => ?_
    refine St.region ?_
    refine St.r (R.indexS 0 Try.underlying37 Try.sizeOf9 rfl rfl rfl (by omega)) rfl rfl ?_
    refine St.r (R.load1 Try.isAgg9 rfl ((E.cells hvc).at 0 rfl)) rfl rfl ?_
    refine St.r (R.assign rfl) rfl rfl ?_
    refine St.nil ?_
    refine St.weak [(0, _), (5, _), (6, _), (7, _), (9, _), (20, _), (21, _), (22, _)] ⟨rfl, rfl, rfl, rfl, rfl, rfl, rfl, rfl, trivial⟩ ?_
    refine St.then_n ?_
    refine St.go hK8 ?_
    clear hK8
    refine St.seq fun K9 hK9 => ?_
    refine St.seq fun K10 hK10 => ?_
    by_cases h32 : (getM s.ids b).getD 0 = 0
    ·
      have hN : (s.all.length : Int) + 1 = roomN s b := by rw [roomN, if_pos h32]
      have hL : s.bytes + (b.size : Int) = roomL s b := by rw [roomL, if_pos h32]
      refine St.region ?_
      refine St.r (R.move rfl) rfl rfl ?_
      refine St.r (R.nilOk rfl) rfl rfl ?_
      refine St.r (R.fieldA Try.underlying101 rfl Try.sizeOf85 rfl rfl rfl) rfl rfl ?_
      refine St.r (R.load1 Try.isAgg85 rfl ((h.blk.ext E).cells.at 2 rfl)) rfl rfl ?_
      refine St.r (R.move rfl) rfl rfl ?_
      refine St.r (R.lookup (KEnc.str Try.underlying9) Try.underlying85 Try.zeroValue3 (h.ids.ext E) rfl rfl) rfl rfl ?_
      refine St.r (Runs.lit (c := true) (R.eql rfl rfl) (decide_eq_true h32)) rfl rfl ?_
      refine St.r (R.move rfl) rfl rfl ?_
      refine St.take (dg := 33) rfl rfl ?_ rfl
      refine St.r (R.move rfl) rfl rfl ?_
      refine St.take (dg := 33) rfl rfl ?_ rfl
      refine St.r (R.move rfl) rfl rfl ?_
      refine St.take (dg := 33) rfl rfl ?_ rfl
      refine St.r (R.lookup (KEnc.str Try.underlying9) Try.underlying138 Try.zeroValue4 m19 rfl rfl) rfl rfl ?_
      refine St.take (dg := 33) rfl rfl ?_ rfl
      refine St.r (Runs.lit (c := true) (R.not rfl) (rfl)) rfl rfl ?_
      refine St.r (R.pickT rfl rfl) rfl rfl ?_
      refine St.nil ?_
      refine St.weak [(0, _), (5, _), (6, _), (7, _), (9, _), (20, _), (21, _), (22, _), (38, _)] ⟨rfl, rfl, rfl, rfl, rfl, rfl, rfl, rfl, rfl, trivial⟩ ?_
      refine St.then_n ?_
      refine St.go hK10 ?_
      clear hK10
      refine St.condT rfl ?_
      refine St.seq fun K11 hK11 => ?_
      refine St.region ?_
      refine St.r (R.move rfl) rfl rfl ?_
      refine St.r (R.add rfl rfl (by omega) (by omega)) rfl rfl ?_
      refine St.r (R.assign rfl) rfl rfl ?_
      refine St.nil ?_
      refine St.weak [(0, _), (5, _), (6, _), (7, _), (9, _), (20, _), (21, _), (22, _)] ⟨rfl, rfl, rfl, rfl, rfl, rfl, rfl, rfl, trivial⟩ ?_
      refine St.then_n ?_
      refine St.go hK11 ?_
      clear hK11
      refine St.region ?_
      refine St.r (R.move rfl) rfl rfl ?_
      refine St.r (R.move rfl) rfl rfl ?_
      refine St.r (R.lenStr Try.underlying9 rfl) rfl rfl ?_
      refine St.r (R.add rfl rfl (by omega) (by omega)) rfl rfl ?_
      refine St.r (R.assign rfl) rfl rfl ?_
      refine St.nil ?_
      refine St.weak [(0, _), (5, _), (6, _), (7, _), (9, _), (20, _), (21, _), (22, _)] ⟨rfl, rfl, rfl, rfl, rfl, rfl, rfl, rfl, trivial⟩ ?_
      refine St.then_n ?_
      refine St.go hK9 ?_
      clear hK9
      refine St.region ?_
      refine St.r (R.move rfl) rfl rfl ?_
      refine St.r (R.move rfl) rfl rfl ?_
      refine St.turn (Eff.mapUpdate (KEnc.str Try.underlying9) Try.underlying138 m19 rfl rfl rfl) rfl rfl ?_
      rintro _ wm0 ⟨rfl, mm0, gm0, zm0⟩
      replace E := Ext.then E gm0 (by intro j hj; omega)
      clear m19; have m19 := mm0; clear mm0
      refine St.nil ?_
      refine St.weak [(0, _), (5, _), (6, _), (7, _), (20, _), (21, _), (22, _)] ⟨rfl, rfl, rfl, rfl, rfl, rfl, rfl, trivial⟩ ?_
      refine St.in_n ?_
      refine St.then_n ?_
      refine St.go hK7 ?_
      clear hK7
      refine St.region ?_
      refine St.r (R.add rfl rfl (by omega) (by omega)) rfl rfl ?_
      refine St.r (R.move rfl) rfl rfl ?_
      refine St.nil ?_
      refine St.weak [(0, _), (5, _), (6, _), (7, _), (20, _), (21, _), (22, _)] ⟨rfl, rfl, rfl, rfl, rfl, rfl, rfl, trivial⟩ ?_
      refine St.then_n ?_
      refine St.round (1, putM [] b true) ⟨rfl, (look_int rfl (by rw [if_pos rfl, if_neg (by omega)]; exact hN)), (look_int rfl (by rw [if_pos rfl, if_neg (by omega)]; exact hL)), rfl, rfl, rfl, rfl, trivial⟩ ?_ ?_
      · try dsimp only
        exact ⟨by omega, fun h => by omega, E, m19⟩
      · try dsimp only
        omega
    ·
      have hN : (s.all.length : Int) = roomN s b := by rw [roomN, if_neg h32]
      have hL : s.bytes = roomL s b := by rw [roomL, if_neg h32]
      refine St.region ?_
      refine St.r (R.move rfl) rfl rfl ?_
      refine St.r (R.nilOk rfl) rfl rfl ?_
      refine St.r (R.fieldA Try.underlying101 rfl Try.sizeOf85 rfl rfl rfl) rfl rfl ?_
      refine St.r (R.load1 Try.isAgg85 rfl ((h.blk.ext E).cells.at 2 rfl)) rfl rfl ?_
      refine St.r (R.move rfl) rfl rfl ?_
      refine St.r (R.lookup (KEnc.str Try.underlying9) Try.underlying85 Try.zeroValue3 (h.ids.ext E) rfl rfl) rfl rfl ?_
      refine St.r (Runs.lit (c := false) (R.eql rfl rfl) (decide_eq_false h32)) rfl rfl ?_
      refine St.r (R.move rfl) rfl rfl ?_
      refine St.pass (dg := 33) rfl rfl rfl rfl rfl ?_
      refine St.pass (dg := 33) rfl rfl rfl rfl rfl ?_
      refine St.pass (dg := 33) rfl rfl rfl rfl rfl ?_
      refine St.pass (dg := 33) rfl rfl rfl rfl rfl ?_
      refine St.r (R.pickF rfl rfl) rfl rfl ?_
      refine St.nil ?_
      refine St.weak [(0, _), (5, _), (6, _), (7, _), (9, _), (20, _), (21, _), (22, _), (38, _)] ⟨rfl, rfl, rfl, rfl, rfl, rfl, rfl, rfl, rfl, trivial⟩ ?_
      refine St.then_n ?_
      refine St.go hK10 ?_
      clear hK10
      refine St.condF rfl ?_
      refine St.skip ?_
      refine St.then_n ?_
      refine St.go hK9 ?_
      clear hK9
      refine St.region ?_
      refine St.r (R.move rfl) rfl rfl ?_
      refine St.r (R.move rfl) rfl rfl ?_
      refine St.turn (Eff.mapUpdate (KEnc.str Try.underlying9) Try.underlying138 m19 rfl rfl rfl) rfl rfl ?_
      rintro _ wm0 ⟨rfl, mm0, gm0, zm0⟩
      replace E := Ext.then E gm0 (by intro j hj; omega)
      clear m19; have m19 := mm0; clear mm0
      refine St.nil ?_
      refine St.weak [(0, _), (5, _), (6, _), (7, _), (20, _), (21, _), (22, _)] ⟨rfl, rfl, rfl, rfl, rfl, rfl, rfl, trivial⟩ ?_
      refine St.in_n ?_
      refine St.then_n ?_
      refine St.go hK7 ?_
      clear hK7
      refine St.region ?_
      refine St.r (R.add rfl rfl (by omega) (by omega)) rfl rfl ?_
      refine St.r (R.move rfl) rfl rfl ?_
      refine St.nil ?_
      refine St.weak [(0, _), (5, _), (6, _), (7, _), (20, _), (21, _), (22, _)] ⟨rfl, rfl, rfl, rfl, rfl, rfl, rfl, trivial⟩ ?_
      refine St.then_n ?_
      refine St.round (1, putM [] b true) ⟨rfl, (look_int rfl (by rw [if_pos rfl, if_neg (by omega)]; exact hN)), (look_int rfl (by rw [if_pos rfl, if_neg (by omega)]; exact hL)), rfl, rfl, rfl, rfl, trivial⟩ ?_ ?_
      · try dsimp only
        exact ⟨by omega, fun h => by omega, E, m19⟩
      · try dsimp only
        omega
  ·
    obtain rfl : k = 1 := by omega
    refine St.exit ?_
    refine St.then_x ?_
    refine St.then_x ?_
    refine St.in_x ?_
    refine St.then_n ?_
    refine St.go hK3 ?_
    clear hK3
    refine St.seq fun K12 hK12 => ?_
    by_cases h49 : roomN s b ≤ 300
    ·
      refine St.region ?_
      refine St.r (R.move rfl) rfl rfl ?_
      refine St.r (Runs.lit (c := true) (R.leq rfl rfl) (decide_eq_true h49)) rfl rfl ?_
      refine St.r (R.move rfl) rfl rfl ?_
      refine St.take (dg := 50) rfl rfl ?_ rfl
      refine St.r (R.move rfl) rfl rfl ?_
      refine St.take (dg := 50) rfl rfl ?_ rfl
      refine St.r (R.leq rfl rfl) rfl rfl ?_
      refine St.r (R.pickT rfl rfl) rfl rfl ?_
      refine St.r (R.assign rfl) rfl rfl ?_
      refine St.nil ?_
      refine St.weak [(4, _)] ⟨rfl, trivial⟩ ?_
      refine St.then_n ?_
      refine St.go hK12 ?_
      clear hK12
      refine St.ret ?_
      refine St.ret1 Try.results46 rfl ?_
      exact ⟨_, rfl, by rw [roomB, decide_eq_true h49]; rfl, E⟩
    ·
      refine St.region ?_
      refine St.r (R.move rfl) rfl rfl ?_
      refine St.r (Runs.lit (c := false) (R.leq rfl rfl) (decide_eq_false h49)) rfl rfl ?_
      refine St.r (R.move rfl) rfl rfl ?_
      refine St.pass (dg := 50) rfl rfl rfl rfl rfl ?_
      refine St.pass (dg := 50) rfl rfl rfl rfl rfl ?_
      refine St.r (R.pickF rfl rfl) rfl rfl ?_
      refine St.r (R.assign rfl) rfl rfl ?_
      refine St.nil ?_
      refine St.weak [(4, _)] ⟨rfl, trivial⟩ ?_
      refine St.then_n ?_
      refine St.go hK12 ?_
      clear hK12
      refine St.ret ?_
      refine St.ret1 Try.results46 rfl ?_
      exact ⟨_, rfl, by rw [roomB, decide_eq_false h49]; rfl, E⟩

theorem Put_ret {s : Sto} {g bi ba : Nat} {b : ByteArray} (hok : s.Ok) (hb : b.size ≤ 9223372036854000000) (w0 : World) (h : StoB 101 w0 g bi ba s) :
    Ret Try.prog 20 [.pointer (some ⟨g, 0, none⟩), .string b] w0 fun r w' => r = .tuple #[.int .i64 (putS s b).1, errV 91 (putS s b).2.1] ∧ StoB 101 w' g bi ba (putS s b).2.2 ∧ Chg (fun k => k = g ∨ k = bi ∨ k = ba) w0 w' := by
  have E : Ext w0 w0 := Ext.refl w0
  refine St.enter (N := 64) Try.func20 rfl Try.ntmps20 rfl ?_
  refine St.seq fun K0 hK0 => ?_
  refine St.region ?_
  refine St.r (R.assign rfl) rfl rfl ?_
  refine St.r (R.assign rfl) rfl rfl ?_
  refine St.nil ?_
  refine St.weak [(0, _), (1, _)] ⟨rfl, rfl, trivial⟩ ?_
  refine St.then_n ?_
  refine St.go hK0 ?_
  clear hK0
  refine St.seq fun K1 hK1 => ?_
  refine St.seq fun K2 hK2 => ?_
  refine St.region ?_
  refine St.r (R.move rfl) rfl rfl ?_
  refine St.r (R.nilOk rfl) rfl rfl ?_
  refine St.r (R.fieldA Try.underlying101 rfl Try.sizeOf85 rfl rfl rfl) rfl rfl ?_
  refine St.r (R.load1 Try.isAgg85 rfl (h.blk.cells.at 2 rfl)) rfl rfl ?_
  refine St.r (R.move rfl) rfl rfl ?_
  refine St.r (R.lookup (KEnc.str Try.underlying9) Try.underlying85 Try.zeroValue3 h.ids rfl rfl) rfl rfl ?_
  refine St.r (R.assign rfl) rfl rfl ?_
  refine St.nil ?_
  refine St.weak [(0, _), (1, _), (6, _)] ⟨rfl, rfl, rfl, trivial⟩ ?_
  refine St.then_n ?_
  refine St.go hK2 ?_
  clear hK2
  refine St.seq fun K3 hK3 => ?_
  refine St.region ?_
  refine St.r (R.move rfl) rfl rfl ?_
  refine St.r (R.gtr rfl rfl) rfl rfl ?_
  refine St.nil ?_
  refine St.weak [(0, _), (1, _), (6, _), (14, _)] ⟨rfl, rfl, rfl, rfl, trivial⟩ ?_
  refine St.then_n ?_
  refine St.go hK3 ?_
  clear hK3
  refine St.condD rfl (fun h14 => ?_) (fun h14 => ?_)
  ·
    refine St.seq fun K4 hK4 => ?_
    refine St.region ?_
    refine St.r (R.move rfl) rfl rfl ?_
    refine St.r (R.assign rfl) rfl rfl ?_
    refine St.r (R.assign rfl) rfl rfl ?_
    refine St.nil ?_
    refine St.weak [(4, _), (5, _)] ⟨rfl, rfl, trivial⟩ ?_
    refine St.then_n ?_
    refine St.go hK4 ?_
    clear hK4
    refine St.ret ?_
    refine St.then_r ?_
    refine St.ret2 Try.results20 rfl rfl ?_
    exact ⟨_, rfl, by rw [putS, if_pos h14]; rfl, by rw [putS, if_pos h14]; exact h, Chg.refl _ _⟩
  ·
    refine St.skip ?_
    refine St.then_n ?_
    refine St.go hK1 ?_
    clear hK1
    refine St.seq fun K5 hK5 => ?_
    refine St.seq fun K6 hK6 => ?_
    refine St.region ?_
    refine St.r (R.move rfl) rfl rfl ?_
    refine St.r (R.move rfl) rfl rfl ?_
    refine St.buildSl Try.underlying37 Try.sizeOf9 Try.zeroValue9 rfl rfl rfl rfl (by intro u hu; simp only [List.mem_cons, List.not_mem_nil, or_false] at hu; first | (subst hu; rfl) | (rcases hu with rfl | rfl <;> rfl) | (rcases hu with rfl | rfl | rfl <;> rfl) | (rcases hu with rfl | rfl | rfl | rfl <;> rfl)) rfl ?_
    intro w18 b18 hb18 hs18 e18 k18
    have qE18 := E.size
    replace E := Ext.trans E e18
    refine St.call rfl rfl ent46 (Room_ret hok hb _ (h.ext E) (RSl.mk (enc := encStr) (xs := [b]) encStr_len k18.cells (fun i u hu => hu) (by simp) (by simp))) rfl ?_
    rintro r19 w19 ⟨rfl, e19⟩
    replace E := Ext.trans E e19
    refine St.r (R.not rfl) rfl rfl ?_
    refine St.nil ?_
    refine St.weak [(0, _), (1, _), (20, _)] ⟨rfl, rfl, rfl, trivial⟩ ?_
    refine St.then_n ?_
    refine St.go hK6 ?_
    clear hK6
    refine St.cond rfl (fun h20 => ?_) (fun h20 => ?_)
    ·
      have hr : roomB s b = false := by cases hc : roomB s b <;> simp [hc] at h20 ⊢
      refine St.seq fun K7 hK7 => ?_
      refine St.region ?_
      refine St.r (R.iface Try.underlying91 rfl rfl) rfl rfl ?_
      refine St.r (R.assign rfl) rfl rfl ?_
      refine St.r (R.assign rfl) rfl rfl ?_
      refine St.nil ?_
      refine St.weak [(4, _), (5, _)] ⟨rfl, rfl, trivial⟩ ?_
      refine St.then_n ?_
      refine St.go hK7 ?_
      clear hK7
      refine St.ret ?_
      refine St.then_r ?_
      refine St.ret2 Try.results20 rfl rfl ?_
      exact ⟨_, rfl, by rw [putS, if_neg h14, if_neg (by rw [hr]; simp)]; rfl, by rw [putS, if_neg h14, if_neg (by rw [hr]; simp)]; exact h.ext E, Chg.mono E fun _ _ h => h.elim⟩
    ·
      have hr : roomB s b = true := by cases hc : roomB s b <;> simp [hc] at h20 ⊢
      obtain ⟨kb, mi, ma, n1, n2, n3⟩ := h.ext E
      have C : Chg (fun k => k = g ∨ k = bi ∨ k = ba) w0 w19 := Chg.mono E fun _ _ h => h.elim
      clear h
      have hl1 := hok.last
      have hl2 := hok.bytes
      refine St.skip ?_
      refine St.then_n ?_
      refine St.go hK5 ?_
      clear hK5
      refine St.seq fun K8 hK8 => ?_
      refine St.region ?_
      refine St.r (R.move rfl) rfl rfl ?_
      refine St.r (R.nilOk rfl) rfl rfl ?_
      refine St.r (R.fieldA Try.underlying101 rfl Try.sizeOf3 rfl rfl rfl) rfl rfl ?_
      refine St.r (R.load1 Try.isAgg3 rfl (kb.cells.at 0 rfl)) rfl rfl ?_
      refine St.r (R.add rfl rfl (by omega) (by omega)) rfl rfl ?_
      refine St.r (R.nilOk rfl) rfl rfl ?_
      refine St.r (R.fieldA Try.underlying101 rfl Try.sizeOf3 rfl rfl rfl) rfl rfl ?_
      refine St.store Try.sizeOf3 rfl rfl kb rfl (by simp [Value.cells]) (by simp [Value.cells, Value.oneCell']) ?_
      intro ws0 ks0 gs0 zs0
      replace mi := mi.chg gs0 (by omega)
      replace ma := ma.chg gs0 (by omega)
      clear kb; have kb := ks0; clear ks0
      replace C := C.then gs0 (fun _ _ h => .inl h)
      replace kb : Blk ws0 g 101 [.int .i64 (s.last + 1), .int .i64 s.bytes, .map (some bi), .map (some ba)] := kb
      refine St.nil ?_
      refine St.weak [(0, _), (1, _)] ⟨rfl, rfl, trivial⟩ ?_
      refine St.then_n ?_
      refine St.go hK8 ?_
      clear hK8
      refine St.seq fun K9 hK9 => ?_
      refine St.region ?_
      refine St.r (R.move rfl) rfl rfl ?_
      refine St.r (R.nilOk rfl) rfl rfl ?_
      refine St.r (R.fieldA Try.underlying101 rfl Try.sizeOf3 rfl rfl rfl) rfl rfl ?_
      refine St.r (R.load1 Try.isAgg3 rfl (kb.cells.at 1 rfl)) rfl rfl ?_
      refine St.r (R.move rfl) rfl rfl ?_
      refine St.r (R.lenStr Try.underlying9 rfl) rfl rfl ?_
      refine St.r (R.add rfl rfl (by omega) (by omega)) rfl rfl ?_
      refine St.r (R.nilOk rfl) rfl rfl ?_
      refine St.r (R.fieldA Try.underlying101 rfl Try.sizeOf3 rfl rfl rfl) rfl rfl ?_
      refine St.store Try.sizeOf3 rfl rfl kb rfl (by simp [Value.cells]) (by simp [Value.cells, Value.oneCell']) ?_
      intro ws1 ks1 gs1 zs1
      replace mi := mi.chg gs1 (by omega)
      replace ma := ma.chg gs1 (by omega)
      clear kb; have kb := ks1; clear ks1
      replace C := C.then gs1 (fun _ _ h => .inl h)
      replace kb : Blk ws1 g 101 [.int .i64 (s.last + 1), .int .i64 (s.bytes + (b.size : Int)), .map (some bi), .map (some ba)] := kb
      refine St.nil ?_
      refine St.weak [(0, _), (1, _)] ⟨rfl, rfl, trivial⟩ ?_
      refine St.then_n ?_
      refine St.go hK9 ?_
      clear hK9
      refine St.seq fun K10 hK10 => ?_
      refine St.weak [(0, _), (1, _)] ⟨rfl, rfl, trivial⟩ ?_
      refine St.drawT (S := fun k => k = bi ∨ k = ba) (eff := [18, 20, 21, 23]) mixed rfl rfl rfl rfl ?_
      replace kb := kb.ext (Ext.drew _)
      replace mi := mi.ext (Ext.drew _)
      replace ma := ma.ext (Ext.drew _)
      replace C := C.then (Ext.drew _) (fun _ _ h => h.elim)
      refine DrawT.quiet 0 rfl rfl (fun W eW => OpOk.r (R.move rfl) rfl) ?_
      refine DrawT.quiet 1 rfl rfl (fun W eW => OpOk.r (R.nilOk rfl) rfl) ?_
      refine DrawT.quiet 2 rfl rfl (fun W eW => OpOk.r (R.fieldA Try.underlying101 rfl Try.sizeOf85 rfl rfl rfl) rfl) ?_
      have hp41 := (kb.cells.at 2 rfl)
      refine DrawT.pinL 3 rfl rfl Try.isAgg85 rfl hp41 ?_
      refine DrawT.quiet 4 rfl rfl (fun W eW => OpOk.r (R.move rfl) rfl) ?_
      refine DrawT.quiet 5 rfl rfl (fun W eW => OpOk.r (R.move rfl) rfl) ?_
      refine DrawT.quiet 6 rfl rfl (fun W eW => OpOk.r (R.nilOk rfl) rfl) ?_
      refine DrawT.quiet 7 rfl rfl (fun W eW => OpOk.r (R.fieldA Try.underlying101 rfl Try.sizeOf99 rfl rfl rfl) rfl) ?_
      have hp46 := (kb.cells.at 3 rfl)
      refine DrawT.pinL 8 rfl rfl Try.isAgg99 rfl hp46 ?_
      refine DrawT.quiet 9 rfl rfl (fun W eW => OpOk.r (R.move rfl) rfl) ?_
      refine DrawT.quiet 10 rfl rfl (fun W eW => OpOk.r (R.nilOk rfl) rfl) ?_
      refine DrawT.quiet 11 rfl rfl (fun W eW => OpOk.r (R.fieldA Try.underlying101 rfl Try.sizeOf3 rfl rfl rfl) rfl) ?_
      have hp50 := (kb.cells.at 0 rfl)
      refine DrawT.pinL 12 rfl rfl Try.isAgg3 rfl hp50 ?_
      refine DrawT.quiet 13 rfl rfl (fun W eW => OpOk.r (R.move rfl) rfl) ?_
      refine DrawT.quiet 14 rfl rfl (fun W eW => OpOk.r (R.nilOk rfl) rfl) ?_
      refine DrawT.quiet 15 rfl rfl (fun W eW => OpOk.r (R.fieldA Try.underlying101 rfl Try.sizeOf3 rfl rfl rfl) rfl) ?_
      refine DrawT.quiet 16 rfl rfl (fun W eW => OpOk.r (R.load1 Try.isAgg3 rfl ((kb.chg eW (by rintro (h | h); exact n1 h; exact n2 h)).cells.at 0 rfl)) rfl) ?_
      refine DrawT.quiet 17 rfl rfl (fun W eW => OpOk.r (R.move rfl) rfl) ?_
      refine DrawT.one (n := 18) [] rfl rfl rfl (by kernel_rfl) (OpC.plain (Eff.mapEntry (KEnc.str Try.underlying9) Try.underlying85 Try.zeroValue3 mi rfl rfl) rfl) ?_ ?_
      · rintro _ w56 ⟨st56, rfl, ms56, gm56, zm56⟩
        refine ⟨?_, trivial⟩
        exact (Chg.mono gm56 fun _ _ h => .inl h)
      rintro _ w56 ⟨st56, rfl, ms56, gm56, zm56⟩
      replace kb := kb.chg gm56 (by omega)
      replace ma := ma.chg gm56 (by omega)
      clear mi
      refine DrawT.quiet 19 rfl rfl (fun W eW => OpOk.r (R.extract rfl rfl) rfl) ?_
      refine DrawT.one (n := 20) [] rfl rfl rfl (by kernel_rfl) (OpC.plain (Eff.entryStore ms56 rfl rfl rfl) rfl) ?_ ?_
      · rintro _ wm0 ⟨rfl, mm0, gm0, zm0⟩
        refine ⟨?_, trivial⟩
        exact (Chg.mono gm0 fun _ _ h => .inl h)
      rintro _ wm0 ⟨rfl, mm0, gm0, zm0⟩
      replace kb := kb.chg gm0 (by omega)
      replace ma := ma.chg gm0 (by omega)
      clear ms56; have mi := mm0; clear mm0
      rw [putM_putM] at mi
      replace C := (C.then gm56 (fun _ _ h => .inr (.inl h))).then gm0 (fun _ _ h => .inr (.inl h))
      refine DrawT.one (n := 21) [] rfl rfl rfl (by kernel_rfl) (OpC.plain (Eff.mapEntry (KEnc.int Try.underlying3) Try.underlying99 Try.zeroValue9 ma rfl rfl) rfl) ?_ ?_
      · rintro _ w58 ⟨st58, rfl, ms58, gm58, zm58⟩
        refine ⟨?_, trivial⟩
        exact (Chg.mono gm58 fun _ _ h => .inr h)
      rintro _ w58 ⟨st58, rfl, ms58, gm58, zm58⟩
      replace kb := kb.chg gm58 (by omega)
      replace mi := mi.chg gm58 (by omega)
      clear ma
      refine DrawT.quiet 22 rfl rfl (fun W eW => OpOk.r (R.extract rfl rfl) rfl) ?_
      refine DrawT.one (n := 23) [] rfl rfl rfl (by kernel_rfl) (OpC.plain (Eff.entryStore ms58 rfl rfl rfl) rfl) ?_ ?_
      · rintro _ wm1 ⟨rfl, mm1, gm1, zm1⟩
        refine ⟨?_, trivial⟩
        exact (Chg.mono gm1 fun _ _ h => .inr h)
      rintro _ wm1 ⟨rfl, mm1, gm1, zm1⟩
      replace kb := kb.chg gm1 (by omega)
      replace mi := mi.chg gm1 (by omega)
      clear ms58; have ma := mm1; clear mm1
      rw [putM_putM] at ma
      replace C := (C.then gm58 (fun _ _ h => .inr (.inr h))).then gm1 (fun _ _ h => .inr (.inr h))
      refine DrawT.fin rfl ?_
      show St _ _ _ _ _
      refine St.weak [(0, _)] ⟨rfl, trivial⟩ ?_
      refine St.then_n ?_
      refine St.go hK10 ?_
      clear hK10
      refine St.seq fun K11 hK11 => ?_
      refine St.region ?_
      refine St.r (R.move rfl) rfl rfl ?_
      refine St.r (R.nilOk rfl) rfl rfl ?_
      refine St.r (R.fieldA Try.underlying101 rfl Try.sizeOf3 rfl rfl rfl) rfl rfl ?_
      refine St.r (R.load1 Try.isAgg3 rfl (kb.cells.at 0 rfl)) rfl rfl ?_
      refine St.r (R.assign rfl) rfl rfl ?_
      refine St.r (R.assign rfl) rfl rfl ?_
      refine St.nil ?_
      refine St.weak [(4, _), (5, _)] ⟨rfl, rfl, trivial⟩ ?_
      refine St.then_n ?_
      refine St.go hK11 ?_
      clear hK11
      refine St.ret ?_
      refine St.ret2 Try.results20 rfl rfl ?_
      exact ⟨_, rfl, by rw [putS, if_neg h14, if_pos hr]; rfl, by rw [putS, if_neg h14, if_pos hr]; exact ⟨kb, mi, ma, n1, n2, n3⟩, C⟩

theorem DelF_ret {ms : List (Int × ByteArray)} {b : Nat} {fn : FuncId} {caps : Array Value} {f : Int × ByteArray → Bool} {U : Nat → Prop} {Inv : List (Int × ByteArray) → World → Prop} (w0 : World) (h : MapB encN encS w0 b ms) (he : Ent Try.prog fn) (hU : ∀ k, U k → k < w0.heap.size ∧ k ≠ b)
    (hI : Inv ms w0) (hIe : ∀ left W W', Chg (fun k => k = b ∨ w0.heap.size ≤ k) W W' → w0.heap.size ≤ W.heap.size → Inv left W → Inv left W')
    (hp : ∀ left W p, w0.heap.size ≤ W.heap.size → Inv left W → p ∈ left → p ∈ ms → Ret Try.prog fn ([.int .i64 p.1, .string p.2] ++ caps.toList) W fun r W' => r = .bool (f p) ∧ Inv (delM left p.1) W' ∧ Chg U W W') :
    Ret Try.prog 49 [.map (some b), .func (.func fn) #[] caps] w0 fun r w' => r = .tuple #[] ∧ MapB encN encS w' b (ms.filter fun p => !f p) ∧ Inv [] w' ∧ Chg (fun k => k = b ∨ U k) w0 w' := by
  refine St.enter (N := 19) Try.func49 rfl Try.ntmps49 rfl ?_
  refine St.seq fun K0 hK0 => ?_
  refine St.region ?_
  refine St.r (R.move rfl) rfl rfl ?_
  refine St.turn (Eff.range Try.underlying99 h rfl) rfl rfl ?_
  rintro _ w7 ⟨b7, rfl, hb7, hs7, e7, i7⟩
  refine St.nil ?_
  refine St.weak [(0, _), (1, _), (7, _)] ⟨rfl, rfl, rfl, trivial⟩ ?_
  refine St.then_n ?_
  refine St.go hK0 ?_
  clear hK0
  refine St.block ?_
  refine St.loop (fun (x : List (Int × ByteArray) × Unit) => match x with | (left, W) => [(0, .map (some b)), (1, .func (.func fn) #[] caps), (7, .pointer (some ⟨b7, 0, none⟩))])
      (fun (x : List (Int × ByteArray) × Unit) w => match x with | (left, W) => (∀ x ∈ left, x ∈ ms) ∧ IterB encN encS w b7 b (stayM ms left f) left ∧ Inv left w ∧ Chg (fun k => k = b ∨ U k) w0 w ∧ w0.heap.size ≤ w.heap.size)
      (fun (x : List (Int × ByteArray) × Unit) => match x with | (left, W) => left.length) (ms, ()) ⟨rfl, rfl, rfl, trivial⟩ ?_ ?_
  · exact ⟨fun x h => h, by rw [stayM_start]; exact i7, hIe _ _ _ (Chg.mono e7 fun _ _ h => h.elim) (Nat.le_refl _) hI, Chg.mono e7 fun _ _ h => h.elim, by omega⟩
  rintro ⟨left, W⟩ w ⟨hs, i0, hv, C, hz⟩
  show St _ _ [(0, .map (some b)), (1, .func (.func fn) #[] caps), (7, .pointer (some ⟨b7, 0, none⟩))] _ _
  refine St.seq fun K1 hK1 => ?_
  refine St.region ?_
  refine St.turn (Eff.next i0 rfl) rfl rfl ?_
  rintro _ w8 (⟨hl8, rfl, rfl⟩ | ⟨p8, hp8, rfl, i8, gn8, zn8⟩)
  ·
    subst hl8
    refine St.r (R.extract rfl rfl) rfl rfl ?_
    refine St.nil ?_
    refine St.weak [(0, _), (1, _), (7, _), (9, _)] ⟨rfl, rfl, rfl, rfl, trivial⟩ ?_
    refine St.then_n ?_
    refine St.go hK1 ?_
    clear hK1
    refine St.seq fun K2 hK2 => ?_
    refine St.condF rfl ?_
    refine St.exit ?_
    refine St.then_x ?_
    refine St.then_x ?_
    refine St.in_x ?_
    refine St.end0 Try.results49 ?_
    exact ⟨_, rfl, rfl, by have := i0.map; rw [stayM_end] at this; exact this, hv, C⟩
  ·
    clear i0
    replace hv := hIe _ _ _ (Chg.mono gn8 fun _ _ h => .inr (by omega)) hz hv
    replace C := C.then gn8 (fun _ h1 h => by omega)
    have hn := h.keys
    refine St.r (R.extract rfl rfl) rfl rfl ?_
    refine St.nil ?_
    refine St.weak [(0, _), (1, _), (7, _), (9, _)] ⟨rfl, rfl, rfl, rfl, trivial⟩ ?_
    refine St.then_n ?_
    refine St.go hK1 ?_
    clear hK1
    refine St.seq fun K3 hK3 => ?_
    refine St.condT rfl ?_
    refine St.skip ?_
    refine St.then_n ?_
    refine St.go hK3 ?_
    clear hK3
    refine St.block ?_
    refine St.seq fun K4 hK4 => ?_
    refine St.region ?_
    refine St.r (R.entry i8 rfl) rfl rfl ?_
    refine St.r (R.extract rfl rfl) rfl rfl ?_
    refine St.r (R.extract rfl rfl) rfl rfl ?_
    refine St.r (R.assign rfl) rfl rfl ?_
    refine St.r (R.assign rfl) rfl rfl ?_
    refine St.nil ?_
    refine St.weak [(0, _), (1, _), (4, _), (5, _), (7, _)] ⟨rfl, rfl, rfl, rfl, rfl, trivial⟩ ?_
    refine St.then_n ?_
    refine St.go hK4 ?_
    clear hK4
    refine St.seq fun K5 hK5 => ?_
    refine St.region ?_
    refine St.r (R.move rfl) rfl rfl ?_
    refine St.r (R.move rfl) rfl rfl ?_
    refine St.r (R.move rfl) rfl rfl ?_
    refine St.call rfl rfl he (hp _ _ p8 (by omega) hv hp8 (hs _ hp8)) rfl ?_
    rintro r16 w16 ⟨rfl, hv, c16⟩
    have z16 := c16.size
    replace i8 := i8.chg c16 (fun h => (hU _ h).2 rfl) (fun h => by have := (hU _ h).1; omega)
    replace C := C.then c16 (fun _ _ h => .inr h)
    refine St.nil ?_
    refine St.weak [(0, _), (1, _), (4, _), (7, _), (16, _)] ⟨rfl, rfl, rfl, rfl, rfl, trivial⟩ ?_
    refine St.then_n ?_
    refine St.go hK5 ?_
    clear hK5
    refine St.cond rfl (fun h16 => ?_) (fun h16 => ?_)
    ·
      refine St.region ?_
      refine St.r (R.move rfl) rfl rfl ?_
      refine St.r (R.move rfl) rfl rfl ?_
      refine St.turn (Eff.deleteI (KEnc.int Try.underlying3) Try.underlying99 i8 rfl rfl) rfl rfl ?_
      rintro _ wm0 ⟨rfl, mm0, gm0, zm0⟩
      clear i8; have i8 := mm0; clear mm0
      refine St.nil ?_
      refine St.weak [(0, _), (1, _), (7, _)] ⟨rfl, rfl, rfl, trivial⟩ ?_
      refine St.in_n ?_
      refine St.then_n ?_
      refine St.round (delM left p8.1, ()) ⟨rfl, rfl, rfl, trivial⟩ ?_ ?_
      · try dsimp only
        exact ⟨delM_sub hs, by rw [← stayM_gone hn (hs _ hp8) h16]; rw [delM_delM] at i8; exact i8, hIe _ _ _ (Chg.mono gm0 fun _ _ h => .inl h) (by omega) hv, C.then gm0 (fun _ _ h => .inl h), by omega⟩
      · try dsimp only
        exact delM_lt hp8
    ·
      refine St.skip ?_
      refine St.in_n ?_
      refine St.then_n ?_
      refine St.round (delM left p8.1, ()) ⟨rfl, rfl, rfl, trivial⟩ ?_ ?_
      · try dsimp only
        exact ⟨delM_sub hs, by rw [← stayM_kept hn (hs _ hp8) h16]; exact i8.forget, hv, C, by omega⟩
      · try dsimp only
        exact delM_lt hp8

theorem Keep1_ret {xs : List Int} {v : Value} {n by0 : Int} {t : ByteArray} {g bi : Nat} {m0 m3 : Value} {ids : List (ByteArray × Int)} {b2 b3 : Nat} (w0 : World) (hb3 : w0.cell? ⟨b3, 0, none⟩ = some v) (hb2 : w0.cell? ⟨b2, 0, none⟩ = some (.pointer (some ⟨g, 0, none⟩)))
    (hv : RInts w0 v xs) (kb : Blk w0 g 101 [m0, .int .i64 by0, .map (some bi), m3]) (mi : MapB encS encN w0 bi ids) (n1 : g ≠ bi) (hby : 0 ≤ by0 ∧ by0 ≤ 60000) (ht : t.size ≤ 60000) (h2 : b2 ≠ bi) :
    Ret Try.prog 50 [.int .i64 n, .string t, .pointer (some ⟨b3, 0, none⟩), .pointer (some ⟨b2, 0, none⟩)] w0 fun r w' => r = .bool (!(xs.any fun x => decide (n = x))) ∧
      Blk w' g 101 [m0, .int .i64 (if xs.any fun x => decide (n = x) then by0 else by0 - (t.size : Int)), .map (some bi), m3] ∧ MapB encS encN w' bi (if xs.any fun x => decide (n = x) then ids else delM ids t) ∧ Chg (fun k => k = g ∨ k = bi) w0 w' := by
  have E : Ext w0 w0 := Ext.refl w0
  refine St.enter (N := 28) Try.func50 rfl Try.ntmps50 rfl ?_
  refine St.seq fun K0 hK0 => ?_
  refine St.region ?_
  refine St.r (R.assign rfl) rfl rfl ?_
  refine St.nil ?_
  refine St.weak [(0, _), (1, _), (2, _), (3, _)] ⟨rfl, rfl, rfl, rfl, trivial⟩ ?_
  refine St.then_n ?_
  refine St.go hK0 ?_
  clear hK0
  refine St.seq fun K1 hK1 => ?_
  refine St.region ?_
  refine St.r (R.load1 Try.isAgg23 rfl hb3) rfl rfl ?_
  refine St.r (R.move rfl) rfl rfl ?_
  refine St.call rfl rfl ent51 (int_Contains _ hv) rfl ?_
  rintro r10 w10 ⟨rfl, e10⟩
  replace E := Ext.trans E e10
  replace kb := kb.ext e10
  replace mi := mi.ext e10
  refine St.r (R.not rfl) rfl rfl ?_
  refine St.r (R.assign rfl) rfl rfl ?_
  refine St.nil ?_
  refine St.weak [(1, _), (3, _), (7, _)] ⟨rfl, rfl, rfl, trivial⟩ ?_
  refine St.then_n ?_
  refine St.go hK1 ?_
  clear hK1
  refine St.seq fun K2 hK2 => ?_
  refine St.seq fun K3 hK3 => ?_
  refine St.region ?_
  refine St.r (R.move rfl) rfl rfl ?_
  refine St.nil ?_
  refine St.weak [(1, _), (3, _), (7, _), (12, _)] ⟨rfl, rfl, rfl, rfl, trivial⟩ ?_
  refine St.then_n ?_
  refine St.go hK3 ?_
  clear hK3
  refine St.cond rfl (fun h12 => ?_) (fun h12 => ?_)
  ·
    have hg : (xs.any fun x => decide (n = x)) = false := by simpa using h12
    have C : Chg (fun k => k = g ∨ k = bi) w0 w10 := Chg.mono E fun _ _ h => h.elim
    have hb2' := E.cell hb2
    refine St.seq fun K4 hK4 => ?_
    refine St.region ?_
    refine St.r (R.load1 Try.isAgg50 rfl hb2') rfl rfl ?_
    refine St.r (R.nilOk rfl) rfl rfl ?_
    refine St.r (R.fieldA Try.underlying101 rfl Try.sizeOf85 rfl rfl rfl) rfl rfl ?_
    refine St.r (R.load1 Try.isAgg85 rfl (kb.cells.at 2 rfl)) rfl rfl ?_
    refine St.r (R.move rfl) rfl rfl ?_
    refine St.turn (Eff.delete (KEnc.str Try.underlying9) Try.underlying85 mi rfl rfl) rfl rfl ?_
    rintro _ wm0 ⟨rfl, mm0, gm0, zm0⟩
    replace kb := kb.chg gm0 (by omega)
    clear mi; have mi := mm0; clear mm0
    replace C := C.then gm0 (fun _ _ h => .inr h)
    replace hb2' := gm0.cell hb2' h2
    refine St.nil ?_
    refine St.weak [(1, _), (3, _), (7, _)] ⟨rfl, rfl, rfl, trivial⟩ ?_
    refine St.then_n ?_
    refine St.go hK4 ?_
    clear hK4
    refine St.region ?_
    refine St.r (R.load1 Try.isAgg50 rfl hb2') rfl rfl ?_
    refine St.r (R.nilOk rfl) rfl rfl ?_
    refine St.r (R.fieldA Try.underlying101 rfl Try.sizeOf3 rfl rfl rfl) rfl rfl ?_
    refine St.r (R.load1 Try.isAgg3 rfl (kb.cells.at 1 rfl)) rfl rfl ?_
    refine St.r (R.move rfl) rfl rfl ?_
    refine St.r (R.lenStr Try.underlying9 rfl) rfl rfl ?_
    refine St.r (R.sub rfl rfl (by omega) (by omega)) rfl rfl ?_
    refine St.r (R.nilOk rfl) rfl rfl ?_
    refine St.r (R.fieldA Try.underlying101 rfl Try.sizeOf3 rfl rfl rfl) rfl rfl ?_
    refine St.store Try.sizeOf3 rfl rfl kb rfl (by simp [Value.cells]) (by simp [Value.cells, Value.oneCell']) ?_
    intro ws0 ks0 gs0 zs0
    replace mi := mi.chg gs0 (by omega)
    clear kb; have kb := ks0; clear ks0
    replace C := C.then gs0 (fun _ _ h => .inl h)
    refine St.nil ?_
    refine St.weak [(7, _)] ⟨rfl, trivial⟩ ?_
    refine St.then_n ?_
    refine St.go hK2 ?_
    clear hK2
    refine St.seq fun K5 hK5 => ?_
    refine St.region ?_
    refine St.r (R.move rfl) rfl rfl ?_
    refine St.r (R.assign rfl) rfl rfl ?_
    refine St.nil ?_
    refine St.weak [(6, _)] ⟨rfl, trivial⟩ ?_
    refine St.then_n ?_
    refine St.go hK5 ?_
    clear hK5
    refine St.ret ?_
    refine St.ret1 Try.results50 rfl ?_
    exact ⟨_, rfl, rfl, by rw [hg]; exact kb, by rw [hg]; exact mi, C⟩
  ·
    have hg : (xs.any fun x => decide (n = x)) = true := by simpa using h12
    refine St.skip ?_
    refine St.then_n ?_
    refine St.go hK2 ?_
    clear hK2
    refine St.seq fun K6 hK6 => ?_
    refine St.region ?_
    refine St.r (R.move rfl) rfl rfl ?_
    refine St.r (R.assign rfl) rfl rfl ?_
    refine St.nil ?_
    refine St.weak [(6, _)] ⟨rfl, trivial⟩ ?_
    refine St.then_n ?_
    refine St.go hK6 ?_
    clear hK6
    refine St.ret ?_
    refine St.ret1 Try.results50 rfl ?_
    exact ⟨_, rfl, rfl, by rw [hg]; exact kb, by rw [hg]; exact mi, Chg.mono E fun _ _ h => h.elim⟩

theorem Keep_ret {s : Sto} {xs : List Int} {v : Value} {g bi ba : Nat} (hok : s.Ok) (w0 : World) (h : StoB 101 w0 g bi ba s) (hv : RInts w0 v xs) (hvb : 0 < xs.length → ∀ k, v.ownBlock = some k → k ≠ g ∧ k ≠ bi ∧ k ≠ ba) :
    Ret Try.prog 24 [.pointer (some ⟨g, 0, none⟩), v] w0 fun r w' => r = .tuple #[.int .i64 (keepS s xs).1, errV 91 (keepS s xs).2.1] ∧ StoB 101 w' g bi ba (keepS s xs).2.2 ∧ Chg (fun k => k = g ∨ k = bi ∨ k = ba) w0 w' := by
  obtain ⟨A, c, rfl, hc1, hc2⟩ := hv.form
  have hvl : 0 < xs.length → ∀ k, (Value.slice A xs.length c).ownBlock = some k → k < w0.heap.size := fun h0 k hk => hv.lt (enc := encInt) (fun _ => Nat.one_pos) h0 hk
  have E : Ext w0 w0 := Ext.refl w0
  refine St.enter (N := 48) Try.func24 rfl Try.ntmps24 rfl ?_
  refine St.seq fun K0 hK0 => ?_
  refine St.region ?_
  refine St.box rfl rfl ?_
  intro w2 b2 hb2 hs2 e2 k2
  have qE2 := E.size
  replace E := Ext.trans E e2
  refine St.box rfl rfl ?_
  intro w3 b3 hb3 hs3 e3 k3
  have qE3 := E.size
  replace E := Ext.trans E e3
  replace k2 := k2.ext e3
  refine St.r (R.assign rfl) rfl rfl ?_
  refine St.r (R.assign rfl) rfl rfl ?_
  refine St.nil ?_
  refine St.weak [(2, _), (3, _)] ⟨rfl, rfl, trivial⟩ ?_
  refine St.then_n ?_
  refine St.go hK0 ?_
  clear hK0
  refine St.seq fun K1 hK1 => ?_
  refine St.seq fun K2 hK2 => ?_
  refine St.region ?_
  refine St.r (R.load1 Try.isAgg23 rfl (k3.cell 0 rfl)) rfl rfl ?_
  refine St.r (R.lenSl Try.underlying23 rfl) rfl rfl ?_
  refine St.r (R.move rfl) rfl rfl ?_
  refine St.nil ?_
  refine St.weak [(2, _), (3, _), (11, _), (12, _), (13, _)] ⟨rfl, rfl, rfl, rfl, rfl, trivial⟩ ?_
  refine St.then_n ?_
  refine St.go hK2 ?_
  clear hK2
  refine St.block ?_
  refine St.loop (fun (k : Nat) => [(2, .pointer (some ⟨b2, 0, none⟩)), (3, .pointer (some ⟨b3, 0, none⟩)), (11, .slice A xs.length c), (12, .int .i64 (xs.length : Int)), (13, .int .i64 (k : Int))])
      (fun (k : Nat) w => k ≤ xs.length ∧ Ext w0 w ∧ Blk w b2 50 [.pointer (some ⟨g, 0, none⟩)] ∧ Blk w b3 23 [.slice A xs.length c] ∧ ∀ y ∈ xs.take k, (getM s.all y).isSome = true)
      (fun (k : Nat) => xs.length - k) 0 ⟨rfl, rfl, rfl, rfl, rfl, trivial⟩ ?_ ?_
  · exact ⟨Nat.zero_le _, E, k2, k3, by simp⟩
  rintro k w ⟨hk, E, k2, k3, hall⟩
  show St _ _ [(2, .pointer (some ⟨b2, 0, none⟩)), (3, .pointer (some ⟨b3, 0, none⟩)), (11, .slice A xs.length c), (12, .int .i64 (xs.length : Int)), (13, .int .i64 (k : Int))] _ _
  refine St.seq fun K3 hK3 => ?_
  refine St.region ?_
  refine St.r (R.lss rfl rfl) rfl rfl ?_
  refine St.nil ?_
  refine St.weak [(2, _), (3, _), (11, _), (12, _), (13, _), (14, _)] ⟨rfl, rfl, rfl, rfl, rfl, rfl, trivial⟩ ?_
  refine St.then_n ?_
  refine St.go hK3 ?_
  clear hK3
  refine St.seq fun K4 hK4 => ?_
  refine St.condD rfl (fun h14 => ?_) (fun h14 => ?_)
  ·
    obtain ⟨x, hx⟩ := get_of_lt (xs := xs) (k := k) (by omega)
    obtain ⟨xb, xo, rfl, hxc⟩ := hv.get' hx
    refine St.skip ?_
    refine St.then_n ?_
    refine St.go hK4 ?_
    clear hK4
    refine St.seq fun K5 hK5 => ?_
    refine St.block ?_
    refine St.seq fun K6 hK6 => ?_
    refine St.region ?_
    refine St.r (R.indexS k Try.underlying23 Try.sizeOf3 rfl rfl rfl (by omega)) rfl rfl ?_
    refine St.r (R.load1 Try.isAgg3 rfl ((E.cells hxc).at 0 rfl)) rfl rfl ?_
    refine St.r (R.assign rfl) rfl rfl ?_
    refine St.nil ?_
    refine St.weak [(2, _), (3, _), (7, _), (11, _), (12, _), (13, _)] ⟨rfl, rfl, rfl, rfl, rfl, rfl, trivial⟩ ?_
    refine St.then_n ?_
    refine St.go hK6 ?_
    clear hK6
    refine St.seq fun K7 hK7 => ?_
    refine St.region ?_
    refine St.r (R.load1 Try.isAgg50 rfl (k2.cell 0 rfl)) rfl rfl ?_
    refine St.r (R.nilOk rfl) rfl rfl ?_
    refine St.r (R.fieldA Try.underlying101 rfl Try.sizeOf99 rfl rfl rfl) rfl rfl ?_
    refine St.r (R.load1 Try.isAgg99 rfl ((h.blk.ext E).cells.at 3 rfl)) rfl rfl ?_
    refine St.r (R.move rfl) rfl rfl ?_
    refine St.r (R.lookupOk (KEnc.int Try.underlying3) Try.underlying99 Try.zeroValue9 (h.all.ext E) rfl rfl) rfl rfl ?_
    refine St.r (R.move rfl) rfl rfl ?_
    refine St.r (R.extract rfl rfl) rfl rfl ?_
    refine St.r (R.extract rfl rfl) rfl rfl ?_
    refine St.r (R.assign rfl) rfl rfl ?_
    refine St.r (R.assign rfl) rfl rfl ?_
    refine St.nil ?_
    refine St.weak [(2, _), (3, _), (9, _), (11, _), (12, _), (13, _)] ⟨rfl, rfl, rfl, rfl, rfl, rfl, trivial⟩ ?_
    refine St.then_n ?_
    refine St.go hK7 ?_
    clear hK7
    refine St.seq fun K8 hK8 => ?_
    refine St.region ?_
    refine St.r (R.move rfl) rfl rfl ?_
    refine St.r (R.not rfl) rfl rfl ?_
    refine St.nil ?_
    refine St.weak [(2, _), (3, _), (11, _), (12, _), (13, _), (27, _)] ⟨rfl, rfl, rfl, rfl, rfl, rfl, trivial⟩ ?_
    refine St.then_n ?_
    refine St.go hK8 ?_
    clear hK8
    refine St.cond rfl (fun h27 => ?_) (fun h27 => ?_)
    ·
      refine St.seq fun K9 hK9 => ?_
      refine St.region ?_
      refine St.r (R.iface Try.underlying91 rfl rfl) rfl rfl ?_
      refine St.r (R.assign rfl) rfl rfl ?_
      refine St.r (R.assign rfl) rfl rfl ?_
      refine St.nil ?_
      refine St.weak [(4, _), (5, _)] ⟨rfl, rfl, trivial⟩ ?_
      refine St.then_n ?_
      refine St.go hK9 ?_
      clear hK9
      refine St.ret ?_
      refine St.in_r ?_
      refine St.then_r ?_
      refine St.then_r ?_
      refine St.in_r ?_
      refine St.then_r ?_
      refine St.ret2 Try.results24 rfl rfl ?_
      have hno : ¬ xs.all (fun x => (getM s.all x).isSome) = true := fun hc => by
        have := List.all_eq_true.1 hc x (List.mem_of_getElem? hx)
        rw [this] at h27; cases h27
      exact ⟨_, rfl, by rw [keepS, if_neg hno]; rfl, by rw [keepS, if_neg hno]; exact h.ext E, Chg.mono E fun _ _ h => h.elim⟩
    ·
      refine St.skip ?_
      refine St.in_n ?_
      refine St.then_n ?_
      refine St.go hK5 ?_
      clear hK5
      refine St.region ?_
      refine St.r (R.add rfl rfl (by omega) (by omega)) rfl rfl ?_
      refine St.r (R.move rfl) rfl rfl ?_
      refine St.nil ?_
      refine St.weak [(2, _), (3, _), (11, _), (12, _), (13, _)] ⟨rfl, rfl, rfl, rfl, rfl, trivial⟩ ?_
      refine St.then_n ?_
      refine St.round (k + 1) ⟨rfl, rfl, rfl, rfl, rfl, trivial⟩ ?_ ?_
      · refine ⟨by omega, E, k2, k3, ?_⟩
        rw [take_snoc hx]
        intro y hy
        rcases List.mem_append.1 hy with hy | hy
        · exact hall y hy
        · rw [List.mem_singleton] at hy; subst hy; cases hc : getM s.all y <;> simp [hc] at h27 ⊢
      · omega
  ·
    have hev : xs.all (fun x => (getM s.all x).isSome) = true := List.all_eq_true.2 fun y hy => hall y (by rw [List.take_of_length_le (by omega)]; exact hy)
    have hb2l := k2.lt
    have hb3l := k3.lt
    have hl1 := h.blk.lt
    have hl2 := h.ids.lt
    have hl3 := h.all.lt
    have zE := E.size
    have hf1 := hok.few
    have hf2 := List.length_filter_le (fun p => !goneP xs p) s.all
    have hn1 := h.one
    have hn2 := h.two
    have hn3 := h.three
    refine St.exit ?_
    refine St.then_x ?_
    refine St.then_x ?_
    refine St.in_x ?_
    refine St.then_n ?_
    refine St.go hK1 ?_
    clear hK1
    refine St.seq fun K10 hK10 => ?_
    refine St.region ?_
    refine St.r (R.load1 Try.isAgg50 rfl (k2.cell 0 rfl)) rfl rfl ?_
    refine St.r (R.nilOk rfl) rfl rfl ?_
    refine St.r (R.fieldA Try.underlying101 rfl Try.sizeOf99 rfl rfl rfl) rfl rfl ?_
    refine St.r (R.load1 Try.isAgg99 rfl ((h.blk.ext E).cells.at 3 rfl)) rfl rfl ?_
    refine St.r (R.lenMap Try.underlying99 (h.all.ext E) rfl) rfl rfl ?_
    refine St.r (R.assign rfl) rfl rfl ?_
    refine St.nil ?_
    refine St.weak [(2, _), (3, _), (10, _)] ⟨rfl, rfl, rfl, trivial⟩ ?_
    refine St.then_n ?_
    refine St.go hK10 ?_
    clear hK10
    refine St.seq fun K11 hK11 => ?_
    refine St.region ?_
    refine St.r (R.load1 Try.isAgg50 rfl (k2.cell 0 rfl)) rfl rfl ?_
    refine St.r (R.nilOk rfl) rfl rfl ?_
    refine St.r (R.fieldA Try.underlying101 rfl Try.sizeOf99 rfl rfl rfl) rfl rfl ?_
    refine St.r (R.load1 Try.isAgg99 rfl ((h.blk.ext E).cells.at 3 rfl)) rfl rfl ?_
    refine St.r (R.fn rfl rfl) rfl rfl ?_
    refine St.call rfl rfl ent49 (DelF_ret (f := goneP xs) (U := fun k => k = g ∨ k = bi) (Inv := fun left W => Blk W g 101 [.int .i64 s.last, .int .i64 (sumL (stayM s.all left (goneP xs))), .map (some bi), .map (some ba)] ∧ MapB encS encN W bi (stayI s.ids left xs) ∧ Blk W b2 50 [.pointer (some ⟨g, 0, none⟩)] ∧ Blk W b3 23 [.slice A xs.length c] ∧ RInts W (.slice A xs.length c) xs) _ (h.all.ext E) ent50 (by rintro k (rfl | rfl) <;> exact ⟨by omega, by omega⟩)
            ⟨by rw [stayM_start, ← hok.sum]; exact h.blk.ext E, by rw [stayI_start hok]; exact h.ids.ext E, k2, k3, hv.ext (REnc.firm _) E⟩
            (fun left W W' C hz ⟨i1, i2, i3, i4, i5⟩ => ⟨i1.chg C (fun h => by rcases h with h | h <;> omega), i2.chg C (fun h => by rcases h with h | h <;> omega), i3.chg C (fun h => by rcases h with h | h <;> omega), i4.chg C (fun h => by rcases h with h | h <;> omega), i5.chg C (fun h0 k hk hc => by have := hvb h0 k hk; have := hvl h0 k hk; rcases hc with hc | hc <;> omega)⟩)
            (fun left W p hz ⟨i1, i2, i3, i4, i5⟩ hpl hpm => Ret.mono (Keep1_ret W (i4.cell 0 rfl) (i3.cell 0 rfl) i5 i1 i2 hn1 (sum_stay hok) (by have := size_le_sum (n := p.1) (t := p.2) hpm; have := hok.sum; have := hok.most; omega) (by omega)) (fun r W' ⟨g1, g2, g3, g4⟩ => by
              have hcell2 : Blk W' b2 50 [.pointer (some ⟨g, 0, none⟩)] := i3.chg g4 (fun h => by rcases h with h | h <;> omega)
              have hcell3 : Blk W' b3 23 [.slice A xs.length c] := i4.chg g4 (fun h => by rcases h with h | h <;> omega)
              have hrd : RInts W' (.slice A xs.length c) xs := i5.chg g4 (fun h0 k hk hc => by have := hvb h0 k hk; rcases hc with hc | hc <;> omega)
              cases hg : goneP xs p with
              | true =>
                have hin : (xs.any fun x => decide (p.1 = x)) = false := by simpa [goneP, inL] using hg
                rw [hin] at g1 g2 g3
                exact ⟨g1, ⟨by rw [sum_gone hok hpm hpl hg]; exact g2, by rw [← stayI_gone hok hpm hg]; exact g3, hcell2, hcell3, hrd⟩, g4⟩
              | false =>
                have hin : (xs.any fun x => decide (p.1 = x)) = true := by simpa [goneP, inL] using hg
                rw [hin] at g1 g2 g3
                exact ⟨g1, ⟨by rw [← stayM_kept hok.allKeys hpm hg]; exact g2, by rw [← stayI_kept hok hg]; exact g3, hcell2, hcell3, hrd⟩, g4⟩))) rfl ?_
    rintro r40 w40 ⟨rfl, ma, ⟨kb, mi, k2', k3', hv'⟩, C40⟩
    have C : Chg (fun k => k = g ∨ k = bi ∨ k = ba) w0 w40 := (Chg.mono E fun _ _ h => h.elim).then C40 (fun k _ h => by omega)
    refine St.nil ?_
    refine St.weak [(2, _), (10, _)] ⟨rfl, rfl, trivial⟩ ?_
    refine St.then_n ?_
    refine St.go hK11 ?_
    clear hK11
    refine St.seq fun K12 hK12 => ?_
    refine St.region ?_
    clear k2 k3
    refine St.r (R.move rfl) rfl rfl ?_
    refine St.r (R.load1 Try.isAgg50 rfl (k2'.cell 0 rfl)) rfl rfl ?_
    refine St.r (R.nilOk rfl) rfl rfl ?_
    refine St.r (R.fieldA Try.underlying101 rfl Try.sizeOf99 rfl rfl rfl) rfl rfl ?_
    refine St.r (R.load1 Try.isAgg99 rfl (kb.cells.at 3 rfl)) rfl rfl ?_
    refine St.r (R.lenMap Try.underlying99 ma rfl) rfl rfl ?_
    refine St.r (R.sub rfl rfl (by omega) (by omega)) rfl rfl ?_
    refine St.r (R.assign rfl) rfl rfl ?_
    refine St.r (R.assign rfl) rfl rfl ?_
    refine St.nil ?_
    refine St.weak [(4, _), (5, _)] ⟨rfl, rfl, trivial⟩ ?_
    refine St.then_n ?_
    refine St.go hK12 ?_
    clear hK12
    refine St.ret ?_
    refine St.ret2 Try.results24 rfl rfl ?_
    exact ⟨_, rfl, by rw [keepS, if_pos hev]; rfl, by rw [keepS, if_pos hev]; exact ⟨by rw [stayM_end] at kb; exact kb, mi, ma, hn1, hn2, hn3⟩, C⟩

end Go.Proofs.Ytjgcmpondbocfaa

/- What the functions of package dag come to: each walked once, against plain Lean. Each under the reading of its arguments. -/
import Derived.Test.YtjgcmpondbocfaaDoorProg
import Derived.Test.YtjgcmpondbocfaaDoorDagAnc
namespace Go.Proofs.YtjgcmpondbocfaaDoor
open Go.RowKit 
theorem ent7 : Ent Tryd.prog 7 := Ent.of Tryd.func7 (by kernel_rfl) rfl
theorem ent35 : Ent Tryd.prog 35 := Ent.of Tryd.func35 (by kernel_rfl) rfl
theorem ent37 : Ent Tryd.prog 37 := Ent.of Tryd.func37 (by kernel_rfl) rfl
theorem ent38 : Ent Tryd.prog 38 := Ent.of Tryd.func38 (by kernel_rfl) rfl
theorem ent39 : Ent Tryd.prog 39 := Ent.of Tryd.func39 (by kernel_rfl) rfl
theorem ent41 : Ent Tryd.prog 41 := Ent.of Tryd.func41 (by kernel_rfl) rfl
theorem ent54 : Ent Tryd.prog 54 := Ent.of Tryd.func54 (by kernel_rfl) rfl
theorem ent55 : Ent Tryd.prog 55 := Ent.of Tryd.func55 (by kernel_rfl) rfl
theorem ent56 : Ent Tryd.prog 56 := Ent.of Tryd.func56 (by kernel_rfl) rfl
theorem ent58 : Ent Tryd.prog 58 := Ent.of Tryd.func58 (by kernel_rfl) rfl
theorem ent59 : Ent Tryd.prog 59 := Ent.of Tryd.func59 (by kernel_rfl) rfl
theorem ent60 : Ent Tryd.prog 60 := Ent.of Tryd.func60 (by kernel_rfl) rfl
theorem ent77 : Ent Tryd.prog 77 := Ent.of Tryd.func77 (by kernel_rfl) rfl
theorem comparable81 : (Tryd.prog.info? 81).map (·.comparable) = some true := by kernel_rfl
theorem info3 : (Tryd.prog.info? 3).map (fun i => (i.zero, i.size, i.bytes)) = some (some (.int .i64 0), 1, 8) := by kernel_rfl
theorem mixed : Tryd.prog.follows .mixedOrders = true := by kernel_rfl
theorem int_IndexFunc {xs : List Int} {v : Value} {g : FuncId} {caps : Array Value} {p : Int → Bool} (w0 : World) (hv : RSl (REnc encInt) 1 w0 v xs) (he : Ent Tryd.prog g)
    (hp : ∀ W x, Ext w0 W → x ∈ xs → Ret Tryd.prog g ([.int .i64 x] ++ caps.toList) W fun r W' => r = .bool (p x) ∧ Ext W W') :
    Ret Tryd.prog 77 [v, .func (.func g) #[] caps] w0 fun r w' => r = .int .i64 (idxOf p xs) ∧ Ext w0 w' := by
  obtain ⟨A, c, rfl, hc1, hc2⟩ := hv.form
  have E : Ext w0 w0 := Ext.refl w0
  refine St.enter (N := 19) Tryd.func77 rfl Tryd.ntmps77 rfl ?_
  refine St.seq fun K0 hK0 => ?_
  refine St.region ?_
  refine St.r (R.assign rfl) rfl rfl ?_
  refine St.nil ?_
  refine St.weak [(0, _), (1, _)] ⟨rfl, rfl, trivial⟩ ?_
  refine St.then_n ?_
  refine St.go hK0 ?_
  clear hK0
  refine St.seq fun K1 hK1 => ?_
  refine St.seq fun K2 hK2 => ?_
  refine St.region ?_
  refine St.r (R.move rfl) rfl rfl ?_
  refine St.r (R.lenSl Tryd.underlying30 rfl) rfl rfl ?_
  refine St.r (R.move rfl) rfl rfl ?_
  refine St.nil ?_
  refine St.weak [(0, _), (1, _), (7, _), (8, _)] ⟨rfl, rfl, rfl, rfl, trivial⟩ ?_
  refine St.then_n ?_
  refine St.go hK2 ?_
  clear hK2
  refine St.block ?_
  refine St.loop (fun (k : Nat) => [(0, .slice A xs.length c), (1, .func (.func g) #[] caps), (7, .int .i64 (xs.length : Int)), (8, .int .i64 (k : Int))])
      (fun (k : Nat) w => k ≤ xs.length ∧ Ext w0 w ∧ ∀ y ∈ xs.take k, p y = false)
      (fun (k : Nat) => xs.length - k) 0 ⟨rfl, rfl, rfl, rfl, trivial⟩ ?_ ?_
  · exact ⟨Nat.zero_le _, E, by simp⟩
  rintro k w ⟨hk, E, hall⟩
  show St _ _ [(0, .slice A xs.length c), (1, .func (.func g) #[] caps), (7, .int .i64 (xs.length : Int)), (8, .int .i64 (k : Int))] _ _
  refine St.seq fun K3 hK3 => ?_
  refine St.region ?_
  refine St.r (R.lss rfl rfl) rfl rfl ?_
  refine St.nil ?_
  refine St.weak [(0, _), (1, _), (7, _), (8, _), (9, _)] ⟨rfl, rfl, rfl, rfl, rfl, trivial⟩ ?_
  refine St.then_n ?_
  refine St.go hK3 ?_
  clear hK3
  refine St.seq fun K4 hK4 => ?_
  refine St.condD rfl (fun h9 => ?_) (fun h9 => ?_)
  ·
    obtain ⟨x, hx⟩ := get_of_lt (xs := xs) (k := k) (by omega)
    obtain ⟨b, o, c', heq, -, -, hcell⟩ := hv.at (by omega)
    cases heq
    obtain ⟨cs, -, hx', rfl⟩ := hcell k x hx
    refine St.skip ?_
    refine St.then_n ?_
    refine St.go hK4 ?_
    clear hK4
    refine St.seq fun K5 hK5 => ?_
    refine St.block ?_
    refine St.seq fun K6 hK6 => ?_
    refine St.region ?_
    refine St.r (R.move rfl) rfl rfl ?_
    refine St.r (R.assign rfl) rfl rfl ?_
    refine St.nil ?_
    refine St.weak [(0, _), (1, _), (5, _), (7, _), (8, _)] ⟨rfl, rfl, rfl, rfl, rfl, trivial⟩ ?_
    refine St.then_n ?_
    refine St.go hK6 ?_
    clear hK6
    refine St.seq fun K7 hK7 => ?_
    refine St.region ?_
    refine St.r (R.move rfl) rfl rfl ?_
    refine St.r (R.move rfl) rfl rfl ?_
    refine St.r (R.move rfl) rfl rfl ?_
    refine St.r (R.indexS _ Tryd.underlying30 Tryd.sizeOf3 rfl rfl rfl (by omega)) rfl rfl ?_
    refine St.r (R.load1 Tryd.isAgg3 rfl ((E.cells hx').at 0 rfl)) rfl rfl ?_
    refine St.call rfl rfl he (hp _ x E (List.mem_of_getElem? hx)) rfl ?_
    rintro r16 w16 ⟨rfl, e16⟩
    replace E := Ext.trans E e16
    refine St.nil ?_
    refine St.weak [(0, _), (1, _), (5, _), (7, _), (8, _), (16, _)] ⟨rfl, rfl, rfl, rfl, rfl, rfl, trivial⟩ ?_
    refine St.then_n ?_
    refine St.go hK7 ?_
    clear hK7
    refine St.cond rfl (fun h16 => ?_) (fun h16 => ?_)
    ·
      refine St.seq fun K8 hK8 => ?_
      refine St.region ?_
      refine St.r (R.move rfl) rfl rfl ?_
      refine St.r (R.assign rfl) rfl rfl ?_
      refine St.nil ?_
      refine St.weak [(4, _)] ⟨rfl, trivial⟩ ?_
      refine St.then_n ?_
      refine St.go hK8 ?_
      clear hK8
      refine St.ret ?_
      refine St.in_r ?_
      refine St.then_r ?_
      refine St.then_r ?_
      refine St.in_r ?_
      refine St.then_r ?_
      refine St.ret1 Tryd.results77 rfl ?_
      exact ⟨_, rfl, by rw [idxOf_found hx h16 hall], E⟩
    ·
      refine St.skip ?_
      refine St.in_n ?_
      refine St.then_n ?_
      refine St.go hK5 ?_
      clear hK5
      refine St.region ?_
      refine St.r (R.add rfl rfl (by omega) (by omega)) rfl rfl ?_
      refine St.r (R.move rfl) rfl rfl ?_
      refine St.nil ?_
      refine St.weak [(0, _), (1, _), (7, _), (8, _)] ⟨rfl, rfl, rfl, rfl, trivial⟩ ?_
      refine St.then_n ?_
      refine St.round (k + 1) ⟨rfl, rfl, rfl, rfl, trivial⟩ ?_ ?_
      · refine ⟨by omega, E, ?_⟩
        rw [take_snoc hx]
        intro y hy
        rcases List.mem_append.1 hy with hy | hy
        · exact hall y hy
        · rw [List.mem_singleton] at hy; subst hy; exact h16
      · omega
  ·
    refine St.exit ?_
    refine St.then_x ?_
    refine St.then_x ?_
    refine St.in_x ?_
    refine St.then_n ?_
    refine St.go hK1 ?_
    clear hK1
    refine St.seq fun K9 hK9 => ?_
    refine St.region ?_
    refine St.r (R.assign rfl) rfl rfl ?_
    refine St.nil ?_
    refine St.weak [(4, _)] ⟨rfl, trivial⟩ ?_
    refine St.then_n ?_
    refine St.go hK9 ?_
    clear hK9
    refine St.ret ?_
    refine St.ret1 Tryd.results77 rfl ?_
    exact ⟨_, rfl, by rw [idxOf_none (fun x hx => hall x (by rw [List.take_of_length_le (by omega)]; exact hx))], E⟩

theorem int_ContainsFunc {xs : List Int} {v : Value} {g : FuncId} {caps : Array Value} {p : Int → Bool} (w0 : World) (hv : RSl (REnc encInt) 1 w0 v xs) (he : Ent Tryd.prog g)
    (hp : ∀ W x, Ext w0 W → x ∈ xs → Ret Tryd.prog g ([.int .i64 x] ++ caps.toList) W fun r W' => r = .bool (p x) ∧ Ext W W') :
    Ret Tryd.prog 55 [v, .func (.func g) #[] caps] w0 fun r w' => r = .bool (xs.any p) ∧ Ext w0 w' := by
  have E : Ext w0 w0 := Ext.refl w0
  refine St.enter (N := 9) Tryd.func55 rfl Tryd.ntmps55 rfl ?_
  refine St.seq fun K0 hK0 => ?_
  refine St.region ?_
  refine St.r (R.assign rfl) rfl rfl ?_
  refine St.nil ?_
  refine St.weak [(0, _), (1, _)] ⟨rfl, rfl, trivial⟩ ?_
  refine St.then_n ?_
  refine St.go hK0 ?_
  clear hK0
  refine St.seq fun K1 hK1 => ?_
  refine St.region ?_
  refine St.r (R.move rfl) rfl rfl ?_
  refine St.r (R.move rfl) rfl rfl ?_
  refine St.call rfl rfl ent77 (int_IndexFunc w0 hv he hp) rfl ?_
  rintro r7 w7 ⟨rfl, e7⟩
  replace E := Ext.trans E e7
  refine St.r (Runs.eq (R.geq rfl rfl) ((congrArg Value.bool (idxOf_any p xs)))) rfl rfl ?_
  refine St.r (R.assign rfl) rfl rfl ?_
  refine St.nil ?_
  refine St.weak [(4, _)] ⟨rfl, trivial⟩ ?_
  refine St.then_n ?_
  refine St.go hK1 ?_
  clear hK1
  refine St.ret ?_
  refine St.ret1 Tryd.results55 rfl ?_
  exact ⟨_, rfl, rfl, E⟩

theorem int_DeleteFunc {xs : List Int} {v : Value} {g : FuncId} {caps : Array Value} {p : Int → Bool} {base : Nat} (w0 : World) (ho : Own encInt 1 base 3 w0 v xs) (he : Ent Tryd.prog g)
    (hp : ∀ W x, Chg (fun k => v.ownBlock = some k) w0 W → x ∈ xs → Ret Tryd.prog g ([.int .i64 x] ++ caps.toList) W fun r W' => r = .bool (p x) ∧ Ext W W') :
    Ret Tryd.prog 59 [v, .func (.func g) #[] caps] w0 fun r w' => Own encInt 1 base 3 w' r (xs.filter fun x => !p x) ∧ Chg (fun k => v.ownBlock = some k) w0 w' := by
  refine St.enter (N := 42) Tryd.func59 rfl Tryd.ntmps59 rfl ?_
  refine St.seq fun K0 hK0 => ?_
  refine St.region ?_
  refine St.r (R.assign rfl) rfl rfl ?_
  refine St.nil ?_
  refine St.weak [(0, _), (1, _)] ⟨rfl, rfl, trivial⟩ ?_
  refine St.then_n ?_
  refine St.go hK0 ?_
  clear hK0
  refine St.seq fun K1 hK1 => ?_
  refine St.region ?_
  refine St.r (R.move rfl) rfl rfl ?_
  refine St.r (R.move rfl) rfl rfl ?_
  refine St.call rfl rfl ent77 (int_IndexFunc w0 (ho.reads encInt_len) he (fun W x eW hx => hp W x (Chg.mono eW fun _ _ h => h.elim) hx)) rfl ?_
  rintro r10 w10 ⟨rfl, e10⟩
  have C : Chg (fun k => v.ownBlock = some k) w0 w10 := Chg.mono e10 fun _ _ h => h.elim
  refine St.r (R.assign rfl) rfl rfl ?_
  refine St.nil ?_
  refine St.weak [(0, _), (1, _), (5, _)] ⟨rfl, rfl, rfl, trivial⟩ ?_
  refine St.then_n ?_
  refine St.go hK1 ?_
  clear hK1
  refine St.seq fun K2 hK2 => ?_
  refine St.seq fun K3 hK3 => ?_
  refine St.region ?_
  refine St.r (R.move rfl) rfl rfl ?_
  refine St.r (R.eql rfl rfl) rfl rfl ?_
  refine St.nil ?_
  refine St.weak [(0, _), (1, _), (5, _), (12, _)] ⟨rfl, rfl, rfl, rfl, trivial⟩ ?_
  refine St.then_n ?_
  refine St.go hK3 ?_
  clear hK3
  refine St.condD rfl (fun h12 => ?_) (fun h12 => ?_)
  ·
    have hno : ∀ x ∈ xs, p x = false := by
      rcases idxOf_cases p xs with ⟨_, h⟩ | ⟨k, x, h, _⟩
      · exact h
      · omega
    have hfil : (xs.filter fun x => !p x) = xs := List.filter_eq_self.2 (fun x hx => by rw [hno x hx]; rfl)
    refine St.seq fun K4 hK4 => ?_
    refine St.region ?_
    refine St.r (R.move rfl) rfl rfl ?_
    refine St.r (R.assign rfl) rfl rfl ?_
    refine St.nil ?_
    refine St.weak [(4, _)] ⟨rfl, trivial⟩ ?_
    refine St.then_n ?_
    refine St.go hK4 ?_
    clear hK4
    refine St.ret ?_
    refine St.then_r ?_
    refine St.ret1 Tryd.results59 rfl ?_
    exact ⟨_, rfl, by rw [hfil]; exact ho.ext e10, C⟩
  ·
    obtain ⟨i0, x0, hi1, hx0, hpx0, hi2⟩ : ∃ (k : Nat) (x : Int), idxOf p xs = (k : Int) ∧ xs[k]? = some x ∧ p x = true ∧ ∀ y ∈ xs.take k, p y = false := by
      rcases idxOf_cases p xs with ⟨h, _⟩ | h
      · omega
      · exact h
    have hn0 := lt_of_get hx0
    obtain ⟨gb, c, sp, rfl, hgb, kS, hc1, hc2, hlen⟩ := ho.blk (by omega)
    rw [hi1]
    have C' : Chg (fun k => k = gb) w0 w10 := Chg.mono e10 fun _ _ h => h.elim
    replace kS := kS.ext e10
    refine St.skip ?_
    refine St.then_n ?_
    refine St.go hK2 ?_
    clear hK2
    refine St.seq fun K5 hK5 => ?_
    refine St.seq fun K6 hK6 => ?_
    refine St.region ?_
    refine St.r (R.move rfl) rfl rfl ?_
    refine St.r (R.add rfl rfl (by omega) (by omega)) rfl rfl ?_
    refine St.r (R.assign rfl) rfl rfl ?_
    refine St.nil ?_
    refine St.weak [(0, _), (1, _), (5, _), (6, _)] ⟨rfl, rfl, rfl, rfl, trivial⟩ ?_
    refine St.then_n ?_
    refine St.go hK6 ?_
    clear hK6
    refine St.block ?_
    refine St.loop (fun (x : Nat × Nat × List Int) => match x with | (j, i, ys) => [(0, .slice (some ⟨gb, 0, none⟩) xs.length c), (1, .func (.func g) #[] caps), (5, .int .i64 (i : Int)), (6, .int .i64 (j : Int))])
        (fun (x : Nat × Nat × List Int) w => match x with | (j, i, ys) => i < j ∧ j ≤ xs.length ∧ ys.length = xs.length ∧ (ys.take i = (xs.take j).filter fun x => !p x) ∧ ys.drop j = xs.drop j ∧ Chg (fun k => k = gb) w0 w ∧ Blk w gb 3 (ys.flatMap encInt ++ sp))
        (fun (x : Nat × Nat × List Int) => match x with | (j, i, ys) => xs.length - j) (i0 + 1, i0, xs) ⟨rfl, rfl, rfl, rfl, trivial⟩ ?_ ?_
    · refine ⟨by omega, by omega, rfl, ?_, rfl, C', kS⟩
      rw [take_snoc hx0, filter_snoc, hpx0]
      simp only [Bool.not_true, Bool.false_eq_true, if_false, List.append_nil]
      exact (List.filter_eq_self.2 (fun x hx => by rw [hi2 x hx]; rfl)).symm
    rintro ⟨j, i, ys⟩ w ⟨hij, hjn, hys, htk, hdr, C, kS⟩
    show St _ _ [(0, .slice (some ⟨gb, 0, none⟩) xs.length c), (1, .func (.func g) #[] caps), (5, .int .i64 (i : Int)), (6, .int .i64 (j : Int))] _ _
    refine St.seq fun K7 hK7 => ?_
    refine St.seq fun K8 hK8 => ?_
    refine St.region ?_
    refine St.r (R.move rfl) rfl rfl ?_
    refine St.r (R.move rfl) rfl rfl ?_
    refine St.r (R.lenSl Tryd.underlying30 rfl) rfl rfl ?_
    refine St.r (R.lss rfl rfl) rfl rfl ?_
    refine St.nil ?_
    refine St.weak [(0, _), (1, _), (5, _), (6, _), (19, _)] ⟨rfl, rfl, rfl, rfl, rfl, trivial⟩ ?_
    refine St.then_n ?_
    refine St.go hK8 ?_
    clear hK8
    refine St.condD rfl (fun h19 => ?_) (fun h19 => ?_)
    ·
      obtain ⟨x, hx⟩ := get_of_lt (xs := xs) (k := j) (by omega)
      have hyx : ys[j]? = some x := by
        have h := congrArg (fun l => l[0]?) hdr
        simp only [List.getElem?_drop, Nat.add_zero] at h
        rw [h, hx]
      refine St.skip ?_
      refine St.then_n ?_
      refine St.go hK7 ?_
      clear hK7
      refine St.seq fun K9 hK9 => ?_
      refine St.block ?_
      refine St.seq fun K10 hK10 => ?_
      refine St.region ?_
      refine St.r (R.move rfl) rfl rfl ?_
      refine St.r (R.move rfl) rfl rfl ?_
      refine St.r (R.indexS _ Tryd.underlying30 Tryd.sizeOf3 rfl rfl rfl (by omega)) rfl rfl ?_
      refine St.r (R.load1 Tryd.isAgg3 rfl ((kS.elem encInt_len hyx).at 0 rfl)) rfl rfl ?_
      refine St.r (R.assign rfl) rfl rfl ?_
      refine St.nil ?_
      refine St.weak [(0, _), (1, _), (5, _), (6, _), (7, _)] ⟨rfl, rfl, rfl, rfl, rfl, trivial⟩ ?_
      refine St.then_n ?_
      refine St.go hK10 ?_
      clear hK10
      refine St.seq fun K11 hK11 => ?_
      refine St.region ?_
      refine St.r (R.move rfl) rfl rfl ?_
      refine St.r (R.move rfl) rfl rfl ?_
      refine St.call rfl rfl he (hp _ x (Chg.mono C fun _ _ h => by subst h; rfl) (List.mem_of_getElem? hx)) rfl ?_
      rintro r28 w28 ⟨rfl, e28⟩
      replace kS := kS.ext e28
      refine St.r (R.not rfl) rfl rfl ?_
      refine St.nil ?_
      refine St.weak [(0, _), (1, _), (5, _), (6, _), (7, _), (29, _)] ⟨rfl, rfl, rfl, rfl, rfl, rfl, trivial⟩ ?_
      refine St.then_n ?_
      refine St.go hK11 ?_
      clear hK11
      refine St.cond rfl (fun h29 => ?_) (fun h29 => ?_)
      ·
        have hpx : p x = false := by cases h : p x <;> simp [h] at h29 <;> rfl
        refine St.seq fun K12 hK12 => ?_
        refine St.region ?_
        refine St.r (R.move rfl) rfl rfl ?_
        refine St.r (R.move rfl) rfl rfl ?_
        refine St.r (R.move rfl) rfl rfl ?_
        refine St.r (R.indexS _ Tryd.underlying30 Tryd.sizeOf3 rfl rfl rfl (by omega)) rfl rfl ?_
        refine St.store Tryd.sizeOf3 rfl rfl kS rfl (by simp only [List.length_append, flat_length encInt_len]; simp [Value.cells]; omega) (by intro u hu; simp [Value.cells] at hu; subst hu; rfl) ?_
        intro ws0 ks0 gs0 zs0
        clear kS; have kS := ks0; clear ks0
        refine St.nil ?_
        refine St.weak [(0, _), (1, _), (5, _), (6, _)] ⟨rfl, rfl, rfl, rfl, trivial⟩ ?_
        refine St.then_n ?_
        refine St.go hK12 ?_
        clear hK12
        refine St.region ?_
        refine St.r (R.move rfl) rfl rfl ?_
        refine St.r (R.add rfl rfl (by omega) (by omega)) rfl rfl ?_
        refine St.r (R.assign rfl) rfl rfl ?_
        refine St.nil ?_
        refine St.weak [(0, _), (1, _), (5, _), (6, _)] ⟨rfl, rfl, rfl, rfl, trivial⟩ ?_
        refine St.in_n ?_
        refine St.then_n ?_
        refine St.go hK9 ?_
        clear hK9
        refine St.region ?_
        refine St.r (R.move rfl) rfl rfl ?_
        refine St.r (R.add rfl rfl (by omega) (by omega)) rfl rfl ?_
        refine St.r (R.assign rfl) rfl rfl ?_
        refine St.nil ?_
        refine St.weak [(0, _), (1, _), (5, _), (6, _)] ⟨rfl, rfl, rfl, rfl, trivial⟩ ?_
        refine St.then_n ?_
        refine St.round (j + 1, i + 1, ys.set i x) ⟨rfl, rfl, rfl, rfl, trivial⟩ ?_ ?_
        · try dsimp only
          have hd1 : (ys.set i x).drop (j + 1) = xs.drop (j + 1) := by
            rw [List.drop_set_of_lt (by omega), ← List.drop_drop, hdr, List.drop_drop]
          refine ⟨by omega, by omega, by rw [List.length_set]; exact hys, ?_, hd1, (C.then e28 (fun _ _ h => h.elim)).trans gs0, ?_⟩
          · rw [List.take_succ_eq_append_getElem (by rw [List.length_set]; omega), List.take_set_of_le (Nat.le_refl _), htk, take_snoc hx, filter_snoc, hpx]
            simp
          · have h := kS
            rw [Nat.zero_add] at h
            rw [← splice_flat encInt_len (by omega)]
            exact h
        · try dsimp only
          omega
      ·
        have hpx : p x = true := by cases h : p x <;> simp [h] at h29 <;> rfl
        refine St.skip ?_
        refine St.in_n ?_
        refine St.then_n ?_
        refine St.go hK9 ?_
        clear hK9
        refine St.region ?_
        refine St.r (R.move rfl) rfl rfl ?_
        refine St.r (R.add rfl rfl (by omega) (by omega)) rfl rfl ?_
        refine St.r (R.assign rfl) rfl rfl ?_
        refine St.nil ?_
        refine St.weak [(0, _), (1, _), (5, _), (6, _)] ⟨rfl, rfl, rfl, rfl, trivial⟩ ?_
        refine St.then_n ?_
        refine St.round (j + 1, i, ys) ⟨rfl, rfl, rfl, rfl, trivial⟩ ?_ ?_
        · try dsimp only
          have hd1 : ys.drop (j + 1) = xs.drop (j + 1) := by rw [← List.drop_drop, hdr, List.drop_drop]
          refine ⟨by omega, by omega, hys, ?_, hd1, C.then e28 (fun _ _ h => h.elim), kS⟩
          rw [htk, take_snoc hx, filter_snoc, hpx]
          simp
        · try dsimp only
          omega
    ·
      obtain rfl : j = xs.length := by omega
      rw [List.take_length] at htk
      refine St.exit ?_
      refine St.then_x ?_
      refine St.then_x ?_
      refine St.in_x ?_
      refine St.then_n ?_
      refine St.go hK5 ?_
      clear hK5
      refine St.seq fun K13 hK13 => ?_
      refine St.region ?_
      refine St.r (R.move rfl) rfl rfl ?_
      refine St.r (R.move rfl) rfl rfl ?_
      refine St.r (R.cutLo i Tryd.underlying30 Tryd.sizeOf3 rfl rfl rfl (by omega) (by omega)) rfl rfl ?_
      refine St.clear Tryd.underlying30 Tryd.zeroValue3 rfl (by omega) kS (by simp only [List.length_append, flat_length encInt_len]; simp [Value.cells]; omega) (zeroCells_one (by decide) (by intro u hu; simp [Value.cells] at hu; subst hu; rfl) _) ?_
      intro wc kC gC zC
      refine St.nil ?_
      refine St.weak [(0, _), (5, _)] ⟨rfl, rfl, trivial⟩ ?_
      refine St.then_n ?_
      refine St.go hK13 ?_
      clear hK13
      refine St.seq fun K14 hK14 => ?_
      refine St.region ?_
      refine St.r (R.move rfl) rfl rfl ?_
      refine St.r (R.move rfl) rfl rfl ?_
      refine St.r (R.cutHi i Tryd.underlying30 Tryd.sizeOf3 rfl rfl rfl (by omega)) rfl rfl ?_
      refine St.r (R.assign rfl) rfl rfl ?_
      refine St.nil ?_
      refine St.weak [(4, _)] ⟨rfl, trivial⟩ ?_
      refine St.then_n ?_
      refine St.go hK14 ?_
      clear hK14
      refine St.ret ?_
      refine St.ret1 Tryd.results59 rfl ?_
      have hfl : i = (xs.filter fun x => !p x).length := by rw [← htk, List.length_take]; omega
      refine ⟨_, rfl, ?_, Chg.mono (C.trans gC) fun _ _ h => by subst h; rfl⟩
      have hz : (Builtin.zeroCells (Value.cells (.int .i64 0)) (xs.length - i)).toList.length = (xs.length - i) * 1 := by simp [Builtin.zeroCells, Value.cells]
      rw [splice_eq (by simp only [Nat.zero_add, hz, List.length_append, flat_length encInt_len]; omega), Nat.zero_add, flat_take encInt_len ys sp (by omega), htk, List.append_assoc] at kC
      rw [hfl]
      refine Own.of_blk encInt_len kC hgb (by omega) hc2 ?_
      rw [← hlen]
      have h1 := congrArg List.length htk
      simp only [List.length_append, flat_length encInt_len, hz, List.length_drop]
      omega

theorem commit1_ret {p i : Int} {B : Nat} (w0 : World) (hB : w0.cell? ⟨B, 0, none⟩ = some (.int .i64 i)) : Ret Tryd.prog 56 [.int .i64 p, .pointer (some ⟨B, 0, none⟩)] w0 fun r w' => r = .bool (badParent i p) ∧ Ext w0 w' := by
  refine St.enter (N := 11) Tryd.func56 rfl Tryd.ntmps56 rfl ?_
  refine St.seq fun K0 hK0 => ?_
  refine St.region ?_
  refine St.r (R.assign rfl) rfl rfl ?_
  refine St.nil ?_
  refine St.weak [(0, _), (1, _)] ⟨rfl, rfl, trivial⟩ ?_
  refine St.then_n ?_
  refine St.go hK0 ?_
  clear hK0
  refine St.seq fun K1 hK1 => ?_
  by_cases h6 : p < 0
  ·
    refine St.region ?_
    refine St.r (R.move rfl) rfl rfl ?_
    refine St.r (R.lss rfl rfl) rfl rfl ?_
    refine St.r (Runs.lit (c := true) (R.move rfl) (decide_eq_true h6)) rfl rfl ?_
    refine St.pass (dg := 6) rfl rfl rfl rfl rfl ?_
    refine St.pass (dg := 6) rfl rfl rfl rfl rfl ?_
    refine St.pass (dg := 6) rfl rfl rfl rfl rfl ?_
    refine St.r (R.pickT rfl rfl) rfl rfl ?_
    refine St.r (R.assign rfl) rfl rfl ?_
    refine St.nil ?_
    refine St.weak [(3, _)] ⟨rfl, trivial⟩ ?_
    refine St.then_n ?_
    refine St.go hK1 ?_
    clear hK1
    refine St.ret ?_
    refine St.ret1 Tryd.results56 rfl ?_
    exact ⟨_, rfl, by rw [badParent, decide_eq_true h6]; rfl, Ext.refl _⟩
  ·
    refine St.region ?_
    refine St.r (R.move rfl) rfl rfl ?_
    refine St.r (R.lss rfl rfl) rfl rfl ?_
    refine St.r (Runs.lit (c := false) (R.move rfl) (decide_eq_false h6)) rfl rfl ?_
    refine St.take (dg := 6) rfl rfl ?_ rfl
    refine St.r (R.move rfl) rfl rfl ?_
    refine St.take (dg := 6) rfl rfl ?_ rfl
    refine St.r (R.load1 Tryd.isAgg3 rfl hB) rfl rfl ?_
    refine St.take (dg := 6) rfl rfl ?_ rfl
    refine St.r (R.geq rfl rfl) rfl rfl ?_
    refine St.r (R.pickF rfl rfl) rfl rfl ?_
    refine St.r (R.assign rfl) rfl rfl ?_
    refine St.nil ?_
    refine St.weak [(3, _)] ⟨rfl, trivial⟩ ?_
    refine St.then_n ?_
    refine St.go hK1 ?_
    clear hK1
    refine St.ret ?_
    refine St.ret1 Tryd.results56 rfl ?_
    exact ⟨_, rfl, by rw [badParent, decide_eq_false h6]; rfl, Ext.refl _⟩

theorem ready1_ret {p : Int} {B n c : Nat} {A : Option Addr} (w0 : World) (hB : w0.cell? ⟨B, 0, none⟩ = some (.slice A n c)) : Ret Tryd.prog 58 [.int .i64 p, .pointer (some ⟨B, 0, none⟩)] w0 fun r w' => r = .bool (badNum n p) ∧ Ext w0 w' := by
  refine St.enter (N := 12) Tryd.func58 rfl Tryd.ntmps58 rfl ?_
  refine St.seq fun K0 hK0 => ?_
  refine St.region ?_
  refine St.r (R.assign rfl) rfl rfl ?_
  refine St.nil ?_
  refine St.weak [(0, _), (1, _)] ⟨rfl, rfl, trivial⟩ ?_
  refine St.then_n ?_
  refine St.go hK0 ?_
  clear hK0
  refine St.seq fun K1 hK1 => ?_
  by_cases h6 : p < 0
  ·
    refine St.region ?_
    refine St.r (R.move rfl) rfl rfl ?_
    refine St.r (R.lss rfl rfl) rfl rfl ?_
    refine St.r (Runs.lit (c := true) (R.move rfl) (decide_eq_true h6)) rfl rfl ?_
    refine St.pass (dg := 6) rfl rfl rfl rfl rfl ?_
    refine St.pass (dg := 6) rfl rfl rfl rfl rfl ?_
    refine St.pass (dg := 6) rfl rfl rfl rfl rfl ?_
    refine St.pass (dg := 6) rfl rfl rfl rfl rfl ?_
    refine St.r (R.pickT rfl rfl) rfl rfl ?_
    refine St.r (R.assign rfl) rfl rfl ?_
    refine St.nil ?_
    refine St.weak [(3, _)] ⟨rfl, trivial⟩ ?_
    refine St.then_n ?_
    refine St.go hK1 ?_
    clear hK1
    refine St.ret ?_
    refine St.ret1 Tryd.results58 rfl ?_
    exact ⟨_, rfl, by rw [badNum, decide_eq_true h6]; rfl, Ext.refl _⟩
  ·
    refine St.region ?_
    refine St.r (R.move rfl) rfl rfl ?_
    refine St.r (R.lss rfl rfl) rfl rfl ?_
    refine St.r (Runs.lit (c := false) (R.move rfl) (decide_eq_false h6)) rfl rfl ?_
    refine St.take (dg := 6) rfl rfl ?_ rfl
    refine St.r (R.move rfl) rfl rfl ?_
    refine St.take (dg := 6) rfl rfl ?_ rfl
    refine St.r (R.load1 Tryd.isAgg22 rfl hB) rfl rfl ?_
    refine St.take (dg := 6) rfl rfl ?_ rfl
    refine St.r (R.lenSl Tryd.underlying22 rfl) rfl rfl ?_
    refine St.take (dg := 6) rfl rfl ?_ rfl
    refine St.r (R.geq rfl rfl) rfl rfl ?_
    refine St.r (R.pickF rfl rfl) rfl rfl ?_
    refine St.r (R.assign rfl) rfl rfl ?_
    refine St.nil ?_
    refine St.weak [(3, _)] ⟨rfl, trivial⟩ ?_
    refine St.then_n ?_
    refine St.go hK1 ?_
    clear hK1
    refine St.ret ?_
    refine St.ret1 Tryd.results58 rfl ?_
    exact ⟨_, rfl, by rw [badNum, decide_eq_false h6]; rfl, Ext.refl _⟩

theorem Message_ret {s : ByteArray} (w0 : World) : Ret Tryd.prog 54 [.string s] w0 fun r w' => r = errV 81 (msgErr s) ∧ Ext w0 w' := by
  have hlen : s.data.toList.length = s.size := by rw [Array.length_toList]; rfl
  have E : Ext w0 w0 := Ext.refl w0
  refine St.enter (N := 24) Tryd.func54 rfl Tryd.ntmps54 rfl ?_
  refine St.seq fun K0 hK0 => ?_
  refine St.region ?_
  refine St.r (R.assign rfl) rfl rfl ?_
  refine St.nil ?_
  refine St.weak [(0, _)] ⟨rfl, trivial⟩ ?_
  refine St.then_n ?_
  refine St.go hK0 ?_
  clear hK0
  refine St.seq fun K1 hK1 => ?_
  refine St.seq fun K2 hK2 => ?_
  refine St.region ?_
  refine St.r (R.move rfl) rfl rfl ?_
  refine St.r (R.lenStr Tryd.underlying9 rfl) rfl rfl ?_
  refine St.r (R.gtr rfl rfl) rfl rfl ?_
  refine St.nil ?_
  refine St.weak [(0, _), (7, _)] ⟨rfl, rfl, trivial⟩ ?_
  refine St.then_n ?_
  refine St.go hK2 ?_
  clear hK2
  refine St.condD rfl (fun h7 => ?_) (fun h7 => ?_)
  ·
    refine St.seq fun K3 hK3 => ?_
    refine St.region ?_
    refine St.r (R.iface Tryd.underlying81 rfl rfl) rfl rfl ?_
    refine St.r (R.assign rfl) rfl rfl ?_
    refine St.nil ?_
    refine St.weak [(2, _)] ⟨rfl, trivial⟩ ?_
    refine St.then_n ?_
    refine St.go hK3 ?_
    clear hK3
    refine St.ret ?_
    refine St.then_r ?_
    refine St.ret1 Tryd.results54 rfl ?_
    exact ⟨_, rfl, by rw [msgErr_long h7]; rfl, E⟩
  ·
    refine St.skip ?_
    refine St.then_n ?_
    refine St.go hK1 ?_
    clear hK1
    refine St.seq fun K4 hK4 => ?_
    refine St.seq fun K5 hK5 => ?_
    refine St.region ?_
    refine St.r (R.move rfl) rfl rfl ?_
    refine St.bytes Tryd.underlying9 Tryd.underlying131 Tryd.underlying5 rfl (by omega) rfl ?_
    intro w10 b10 c10 hb10 hs10 e10 r10 k10
    replace E := Ext.trans E e10
    refine St.r (R.lenSl Tryd.underlying131 rfl) rfl rfl ?_
    refine St.r (R.move rfl) rfl rfl ?_
    have F10 := Ext.refl w10
    refine St.nil ?_
    refine St.weak [(10, _), (11, _), (12, _)] ⟨rfl, rfl, rfl, trivial⟩ ?_
    refine St.then_n ?_
    refine St.go hK5 ?_
    clear hK5
    refine St.block ?_
    refine St.loop (fun (k : Nat) => [(10, .slice (some ⟨b10, 0, none⟩) s.data.toList.length c10), (11, .int .i64 (s.data.toList.length : Int)), (12, .int .i64 (k : Int))])
        (fun (k : Nat) w => k ≤ s.data.toList.length ∧ Ext w0 w ∧ Ext w10 w ∧ ∀ y ∈ s.data.toList.take k, badMsg y = false)
        (fun (k : Nat) => s.data.toList.length - k) 0 ⟨rfl, rfl, rfl, trivial⟩ ?_ ?_
    · exact ⟨Nat.zero_le _, E, F10, by simp⟩
    rintro k w ⟨hk, E, E10, hall⟩
    show St _ _ [(10, .slice (some ⟨b10, 0, none⟩) s.data.toList.length c10), (11, .int .i64 (s.data.toList.length : Int)), (12, .int .i64 (k : Int))] _ _
    refine St.seq fun K6 hK6 => ?_
    refine St.region ?_
    refine St.r (R.lss rfl rfl) rfl rfl ?_
    refine St.nil ?_
    refine St.weak [(10, _), (11, _), (12, _), (13, _)] ⟨rfl, rfl, rfl, rfl, trivial⟩ ?_
    refine St.then_n ?_
    refine St.go hK6 ?_
    clear hK6
    refine St.seq fun K7 hK7 => ?_
    refine St.condD rfl (fun h13 => ?_) (fun h13 => ?_)
    ·
      obtain ⟨x, hx⟩ := get_of_lt (xs := s.data.toList) (k := k) (by omega)
      obtain ⟨b, o, c', heq, -, -, hcell⟩ := r10.at (by omega)
      cases heq
      obtain ⟨cs, -, hx', rfl⟩ := hcell k x hx
      refine St.skip ?_
      refine St.then_n ?_
      refine St.go hK7 ?_
      clear hK7
      refine St.seq fun K8 hK8 => ?_
      refine St.block ?_
      refine St.seq fun K9 hK9 => ?_
      refine St.region ?_
      refine St.r (R.indexS _ Tryd.underlying131 Tryd.sizeOf5 rfl rfl rfl (by omega)) rfl rfl ?_
      refine St.r (R.load1 Tryd.isAgg5 rfl ((E10.cells hx').at 0 rfl)) rfl rfl ?_
      refine St.r (R.assign rfl) rfl rfl ?_
      refine St.nil ?_
      refine St.weak [(4, _), (10, _), (11, _), (12, _)] ⟨rfl, rfl, rfl, rfl, trivial⟩ ?_
      refine St.then_n ?_
      refine St.go hK9 ?_
      clear hK9
      refine St.seq fun K10 hK10 => ?_
      by_cases h18 : (x.toNat : Int) < 32
      ·
        refine St.region ?_
        refine St.r (R.move rfl) rfl rfl ?_
        refine St.r (R.lss rfl rfl) rfl rfl ?_
        refine St.r (Runs.lit (c := true) (R.move rfl) (decide_eq_true h18)) rfl rfl ?_
        refine St.pass (dg := 18) rfl rfl rfl rfl rfl ?_
        refine St.pass (dg := 18) rfl rfl rfl rfl rfl ?_
        refine St.r (R.pickT rfl rfl) rfl rfl ?_
        refine St.nil ?_
        refine St.weak [(10, _), (11, _), (12, _), (21, _)] ⟨rfl, rfl, rfl, rfl, trivial⟩ ?_
        refine St.then_n ?_
        refine St.go hK10 ?_
        clear hK10
        refine St.condT rfl ?_
        refine St.seq fun K11 hK11 => ?_
        refine St.region ?_
        refine St.r (R.iface Tryd.underlying81 rfl rfl) rfl rfl ?_
        refine St.r (R.assign rfl) rfl rfl ?_
        refine St.nil ?_
        refine St.weak [(2, _)] ⟨rfl, trivial⟩ ?_
        refine St.then_n ?_
        refine St.go hK11 ?_
        clear hK11
        refine St.ret ?_
        refine St.in_r ?_
        refine St.then_r ?_
        refine St.then_r ?_
        refine St.in_r ?_
        refine St.then_r ?_
        refine St.ret1 Tryd.results54 rfl ?_
        exact ⟨_, rfl, by rw [msgErr_bad h7 hx (by rw [badMsg, decide_eq_true h18]; rfl)]; rfl, E⟩
      ·
        refine St.region ?_
        refine St.r (R.move rfl) rfl rfl ?_
        refine St.r (R.lss rfl rfl) rfl rfl ?_
        refine St.r (Runs.lit (c := false) (R.move rfl) (decide_eq_false h18)) rfl rfl ?_
        refine St.take (dg := 18) rfl rfl ?_ rfl
        refine St.r (R.move rfl) rfl rfl ?_
        refine St.take (dg := 18) rfl rfl ?_ rfl
        refine St.r (R.gtr rfl rfl) rfl rfl ?_
        refine St.r (R.pickF rfl rfl) rfl rfl ?_
        refine St.nil ?_
        refine St.weak [(10, _), (11, _), (12, _), (21, _)] ⟨rfl, rfl, rfl, rfl, trivial⟩ ?_
        refine St.then_n ?_
        refine St.go hK10 ?_
        clear hK10
        refine St.condD rfl (fun h21 => ?_) (fun h21 => ?_)
        ·
          refine St.seq fun K12 hK12 => ?_
          refine St.region ?_
          refine St.r (R.iface Tryd.underlying81 rfl rfl) rfl rfl ?_
          refine St.r (R.assign rfl) rfl rfl ?_
          refine St.nil ?_
          refine St.weak [(2, _)] ⟨rfl, trivial⟩ ?_
          refine St.then_n ?_
          refine St.go hK12 ?_
          clear hK12
          refine St.ret ?_
          refine St.in_r ?_
          refine St.then_r ?_
          refine St.then_r ?_
          refine St.in_r ?_
          refine St.then_r ?_
          refine St.ret1 Tryd.results54 rfl ?_
          exact ⟨_, rfl, by rw [msgErr_bad h7 hx (by rw [badMsg, decide_eq_false h18, decide_eq_true h21]; rfl)]; rfl, E⟩
        ·
          refine St.skip ?_
          refine St.in_n ?_
          refine St.then_n ?_
          refine St.go hK8 ?_
          clear hK8
          refine St.region ?_
          refine St.r (R.add rfl rfl (by omega) (by omega)) rfl rfl ?_
          refine St.r (R.move rfl) rfl rfl ?_
          have F10 := Ext.refl w10
          refine St.nil ?_
          refine St.weak [(10, _), (11, _), (12, _)] ⟨rfl, rfl, rfl, trivial⟩ ?_
          refine St.then_n ?_
          refine St.round (k + 1) ⟨rfl, rfl, rfl, trivial⟩ ?_ ?_
          · refine ⟨by omega, E, E10, ?_⟩
            rw [take_snoc hx]
            intro y hy
            rcases List.mem_append.1 hy with hy | hy
            · exact hall y hy
            · rw [List.mem_singleton] at hy; subst hy; rw [badMsg, decide_eq_false h18, decide_eq_false h21]; rfl
          · omega
    ·
      refine St.exit ?_
      refine St.then_x ?_
      refine St.then_x ?_
      refine St.in_x ?_
      refine St.then_n ?_
      refine St.go hK4 ?_
      clear hK4
      refine St.seq fun K13 hK13 => ?_
      refine St.region ?_
      refine St.r (R.assign rfl) rfl rfl ?_
      refine St.nil ?_
      refine St.weak [(2, _)] ⟨rfl, trivial⟩ ?_
      refine St.then_n ?_
      refine St.go hK13 ?_
      clear hK13
      refine St.ret ?_
      refine St.ret1 Tryd.results54 rfl ?_
      exact ⟨_, rfl, by rw [msgErr_ok h7 (fun x hx => hall x (by rw [List.take_of_length_le (by omega)]; exact hx))]; rfl, E⟩

theorem commit_ret {c : Commit} {cs : List Value} {i : Int} (w0 : World) (hc : RCommit w0 cs c) : Ret Tryd.prog 35 [.agg cs.toArray, .int .i64 i] w0 fun r w' => r = errV 81 (commitErr c i) ∧ Ext w0 w' := by
  obtain ⟨pv, rfl, hpv⟩ := hc
  obtain ⟨pA, pc, rfl, hpc1, hpc2⟩ := hpv.form
  have E : Ext w0 w0 := Ext.refl w0
  refine St.enter (N := 57) Tryd.func35 rfl Tryd.ntmps35 rfl ?_
  refine St.seq fun K0 hK0 => ?_
  refine St.region ?_
  refine St.box rfl rfl ?_
  intro w2 b2 hb2 hs2 e2 k2
  have qE2 := E.size
  replace E := Ext.trans E e2
  refine St.box rfl rfl ?_
  intro w3 b3 hb3 hs3 e3 k3
  have qE3 := E.size
  replace E := Ext.trans E e3
  replace k2 := k2.ext e3
  refine St.r (R.assign rfl) rfl rfl ?_
  refine St.nil ?_
  refine St.weak [(2, _), (3, _)] ⟨rfl, rfl, trivial⟩ ?_
  refine St.then_n ?_
  refine St.go hK0 ?_
  clear hK0
  refine St.seq fun K1 hK1 => ?_
  refine St.region ?_
  refine St.r (R.fieldA Tryd.underlying80 rfl Tryd.sizeOf9 rfl rfl rfl) rfl rfl ?_
  refine St.r (R.load1 Tryd.isAgg9 rfl (k2.cells.at 2 rfl)) rfl rfl ?_
  refine St.call rfl rfl ent54 (Message_ret _) rfl ?_
  rintro r8 w8 ⟨rfl, e8⟩
  replace E := Ext.trans E e8
  replace k2 := k2.ext e8
  replace k3 := k3.ext e8
  refine St.r (R.assign rfl) rfl rfl ?_
  refine St.nil ?_
  refine St.weak [(2, _), (3, _), (5, _)] ⟨rfl, rfl, rfl, trivial⟩ ?_
  refine St.then_n ?_
  refine St.go hK1 ?_
  clear hK1
  refine St.seq fun K2 hK2 => ?_
  refine St.block ?_
  refine St.seq fun K3 hK3 => ?_
  by_cases h14 : 2 < (c.parents.length : Int)
  ·
    refine St.region ?_
    refine St.r (R.fieldA Tryd.underlying80 rfl Tryd.sizeOf30 rfl rfl rfl) rfl rfl ?_
    refine St.r (R.load1 Tryd.isAgg30 rfl (k2.cells.at 0 rfl)) rfl rfl ?_
    refine St.r (R.lenSl Tryd.underlying30 rfl) rfl rfl ?_
    refine St.r (R.gtr rfl rfl) rfl rfl ?_
    refine St.r (Runs.lit (c := true) (R.move rfl) (decide_eq_true h14)) rfl rfl ?_
    refine St.pass (dg := 14) rfl rfl rfl rfl rfl ?_
    refine St.pass (dg := 14) rfl rfl rfl rfl rfl ?_
    refine St.pass (dg := 14) rfl rfl rfl rfl rfl ?_
    refine St.r (R.pickT rfl rfl) rfl rfl ?_
    refine St.r (R.assign rfl) rfl rfl ?_
    refine St.nil ?_
    refine St.weak [(2, _), (3, _), (5, _), (9, _)] ⟨rfl, rfl, rfl, rfl, trivial⟩ ?_
    refine St.then_n ?_
    refine St.go hK3 ?_
    clear hK3
    refine St.condT rfl ?_
    refine St.seq fun K4 hK4 => ?_
    refine St.region ?_
    refine St.r (R.iface Tryd.underlying81 rfl rfl) rfl rfl ?_
    refine St.r (R.assign rfl) rfl rfl ?_
    refine St.nil ?_
    refine St.weak [(4, _)] ⟨rfl, trivial⟩ ?_
    refine St.then_n ?_
    refine St.go hK4 ?_
    clear hK4
    refine St.ret ?_
    refine St.in_r ?_
    refine St.then_r ?_
    refine St.ret1 Tryd.results35 rfl ?_
    exact ⟨_, rfl, by rw [ce4 (.inl h14)]; rfl, E⟩
  ·
    refine St.region ?_
    refine St.r (R.fieldA Tryd.underlying80 rfl Tryd.sizeOf30 rfl rfl rfl) rfl rfl ?_
    refine St.r (R.load1 Tryd.isAgg30 rfl (k2.cells.at 0 rfl)) rfl rfl ?_
    refine St.r (R.lenSl Tryd.underlying30 rfl) rfl rfl ?_
    refine St.r (R.gtr rfl rfl) rfl rfl ?_
    refine St.r (Runs.lit (c := false) (R.move rfl) (decide_eq_false h14)) rfl rfl ?_
    refine St.take (dg := 14) rfl rfl ?_ rfl
    refine St.r (R.move rfl) rfl rfl ?_
    refine St.take (dg := 14) rfl rfl ?_ rfl
    refine St.r (R.iface Tryd.underlying81 rfl rfl) rfl rfl ?_
    refine St.take (dg := 14) rfl rfl ?_ rfl
    refine St.r (R.eqErr Tryd.underlying26 Tryd.underlying81 comparable81 rfl rfl) rfl rfl ?_
    refine St.r (R.pickF rfl rfl) rfl rfl ?_
    refine St.r (R.assign rfl) rfl rfl ?_
    refine St.nil ?_
    refine St.weak [(2, _), (3, _), (5, _), (9, _)] ⟨rfl, rfl, rfl, rfl, trivial⟩ ?_
    refine St.then_n ?_
    refine St.go hK3 ?_
    clear hK3
    refine St.condD rfl (fun h9 => ?_) (fun h9 => ?_)
    ·
      refine St.seq fun K5 hK5 => ?_
      refine St.region ?_
      refine St.r (R.iface Tryd.underlying81 rfl rfl) rfl rfl ?_
      refine St.r (R.assign rfl) rfl rfl ?_
      refine St.nil ?_
      refine St.weak [(4, _)] ⟨rfl, trivial⟩ ?_
      refine St.then_n ?_
      refine St.go hK5 ?_
      clear hK5
      refine St.ret ?_
      refine St.in_r ?_
      refine St.then_r ?_
      refine St.ret1 Tryd.results35 rfl ?_
      exact ⟨_, rfl, by rw [ce4 (.inr h9)]; rfl, E⟩
    ·
      refine St.seq fun K6 hK6 => ?_
      refine St.region ?_
      refine St.r (R.fieldA Tryd.underlying80 rfl Tryd.sizeOf30 rfl rfl rfl) rfl rfl ?_
      refine St.r (R.load1 Tryd.isAgg30 rfl (k2.cells.at 0 rfl)) rfl rfl ?_
      refine St.r (R.fn rfl rfl) rfl rfl ?_
      refine St.call rfl rfl ent55 (int_ContainsFunc (p := badParent i) _ (hpv.ext (REnc.firm _) E) ent56 (fun W x eW _ => commit1_ret W (eW.cell (k3.cell 0 rfl)))) rfl ?_
      rintro r24 w24 ⟨rfl, e24⟩
      replace E := Ext.trans E e24
      replace k2 := k2.ext e24
      replace k3 := k3.ext e24
      refine St.r (R.assign rfl) rfl rfl ?_
      refine St.nil ?_
      refine St.weak [(2, _), (5, _), (20, _)] ⟨rfl, rfl, rfl, trivial⟩ ?_
      refine St.then_n ?_
      refine St.go hK6 ?_
      clear hK6
      refine St.cond rfl (fun h20 => ?_) (fun h20 => ?_)
      ·
        refine St.seq fun K7 hK7 => ?_
        refine St.region ?_
        refine St.r (R.iface Tryd.underlying81 rfl rfl) rfl rfl ?_
        refine St.r (R.assign rfl) rfl rfl ?_
        refine St.nil ?_
        refine St.weak [(4, _)] ⟨rfl, trivial⟩ ?_
        refine St.then_n ?_
        refine St.go hK7 ?_
        clear hK7
        refine St.ret ?_
        refine St.in_r ?_
        refine St.then_r ?_
        refine St.ret1 Tryd.results35 rfl ?_
        exact ⟨_, rfl, by rw [ce1 h14 h9 h20]; rfl, E⟩
      ·
        refine St.seq fun K8 hK8 => ?_
        by_cases h31 : (c.parents.length : Int) = 2
        ·
          obtain ⟨p0, hp0⟩ := get_of_lt (xs := c.parents) (k := 0) (by omega)
          obtain ⟨p1, hp1⟩ := get_of_lt (xs := c.parents) (k := 1) (by omega)
          have g0 : c.parents.getD 0 0 = p0 := by simp [List.getD_eq_getElem?_getD, hp0]
          have g1 : c.parents.getD 1 0 = p1 := by simp [List.getD_eq_getElem?_getD, hp1]
          obtain ⟨b, o, c', heq, -, -, hcell⟩ := hpv.at (by omega)
          cases heq
          obtain ⟨cs0, -, hx0, rfl⟩ := hcell 0 p0 hp0
          obtain ⟨cs1, -, hx1, rfl⟩ := hcell 1 p1 hp1
          refine St.weak [(2, _), (5, _)] ⟨rfl, rfl, trivial⟩ ?_
          refine St.draw mixed rfl rfl rfl rfl ?_
          replace E := Ext.trans E (Ext.drew _)
          replace k2 := k2.ext (Ext.drew _)
          replace k3 := k3.ext (Ext.drew _)
          refine ⟨_, OpOk.r (R.fieldA Tryd.underlying80 rfl Tryd.sizeOf30 rfl rfl rfl) rfl, ?_⟩
          refine ⟨_, OpOk.r (R.load1 Tryd.isAgg30 rfl (k2.cells.at 0 rfl)) rfl, ?_⟩
          refine ⟨_, OpOk.r (R.lenSl Tryd.underlying30 rfl) rfl, ?_⟩
          refine ⟨_, OpOk.r (R.eql rfl rfl) rfl, ?_⟩
          refine ⟨_, OpOk.r (Runs.lit (c := true) (R.move rfl) (decide_eq_true h31)) rfl, ?_⟩
          refine ⟨_, OpOk.take (dg := 31) (R.fieldA Tryd.underlying80 rfl Tryd.sizeOf30 rfl rfl rfl) rfl rfl rfl rfl, ?_⟩
          refine ⟨_, OpOk.take (dg := 31) (R.load1 Tryd.isAgg30 rfl (k2.cells.at 0 rfl)) rfl rfl rfl rfl, ?_⟩
          refine ⟨_, OpOk.take (dg := 31) (R.indexS 0 Tryd.underlying30 Tryd.sizeOf3 rfl rfl rfl (by omega)) rfl rfl rfl rfl, ?_⟩
          refine ⟨_, OpOk.take (dg := 31) (R.load1 Tryd.isAgg3 rfl ((E.cells hx0).at 0 rfl)) rfl rfl rfl rfl, ?_⟩
          refine ⟨_, OpOk.take (dg := 31) (R.fieldA Tryd.underlying80 rfl Tryd.sizeOf30 rfl rfl rfl) rfl rfl rfl rfl, ?_⟩
          refine ⟨_, OpOk.take (dg := 31) (R.load1 Tryd.isAgg30 rfl (k2.cells.at 0 rfl)) rfl rfl rfl rfl, ?_⟩
          refine ⟨_, OpOk.take (dg := 31) (R.indexS 1 Tryd.underlying30 Tryd.sizeOf3 rfl rfl rfl (by omega)) rfl rfl rfl rfl, ?_⟩
          refine ⟨_, OpOk.take (dg := 31) (R.load1 Tryd.isAgg3 rfl ((E.cells hx1).at 0 rfl)) rfl rfl rfl rfl, ?_⟩
          refine ⟨_, OpOk.take (dg := 31) (R.eql rfl rfl) rfl rfl rfl rfl, ?_⟩
          refine ⟨_, OpOk.r (R.pickT rfl rfl) rfl, ?_⟩
          refine ⟨_, OpOk.r (R.assign rfl) rfl, ?_⟩
          show St _ _ _ _ _
          refine St.weak [(2, _), (5, _), (26, _)] ⟨rfl, rfl, rfl, trivial⟩ ?_
          refine St.then_n ?_
          refine St.go hK8 ?_
          clear hK8
          refine St.condD rfl (fun h26 => ?_) (fun h26 => ?_)
          ·
            refine St.seq fun K9 hK9 => ?_
            refine St.region ?_
            refine St.r (R.iface Tryd.underlying81 rfl rfl) rfl rfl ?_
            refine St.r (R.assign rfl) rfl rfl ?_
            refine St.nil ?_
            refine St.weak [(4, _)] ⟨rfl, trivial⟩ ?_
            refine St.then_n ?_
            refine St.go hK9 ?_
            clear hK9
            refine St.ret ?_
            refine St.in_r ?_
            refine St.then_r ?_
            refine St.ret1 Tryd.results35 rfl ?_
            exact ⟨_, rfl, by rw [ce7 h14 h9 h20 ⟨h31, by rw [g0, g1]; exact h26⟩]; rfl, E⟩
          ·
            have hB : ¬ ((c.parents.length : Int) = 2 ∧ c.parents.getD 0 0 = c.parents.getD 1 0) := fun h => h26 (by rw [← g0, ← g1]; exact h.2)
            refine St.seq fun K10 hK10 => ?_
            refine St.region ?_
            refine St.r (R.move rfl) rfl rfl ?_
            refine St.r (R.notNil (et := 81) (e := _) Tryd.underlying26 rfl) rfl rfl ?_
            refine St.r (R.assign rfl) rfl rfl ?_
            refine St.nil ?_
            refine St.weak [(2, _), (5, _), (43, _)] ⟨rfl, rfl, rfl, trivial⟩ ?_
            refine St.then_n ?_
            refine St.go hK10 ?_
            clear hK10
            refine St.cond rfl (fun h43 => ?_) (fun h43 => ?_)
            ·
              refine St.seq fun K11 hK11 => ?_
              refine St.region ?_
              refine St.r (R.move rfl) rfl rfl ?_
              refine St.r (R.assign rfl) rfl rfl ?_
              refine St.nil ?_
              refine St.weak [(4, _)] ⟨rfl, trivial⟩ ?_
              refine St.then_n ?_
              refine St.go hK11 ?_
              clear hK11
              refine St.ret ?_
              refine St.in_r ?_
              refine St.then_r ?_
              refine St.ret1 Tryd.results35 rfl ?_
              exact ⟨_, rfl, by rw [ceM h14 h9 h20 hB h43], E⟩
            ·
              refine St.seq fun K12 hK12 => ?_
              by_cases h51 : c.layer < 1
              ·
                refine St.region ?_
                refine St.r (R.fieldA Tryd.underlying80 rfl Tryd.sizeOf3 rfl rfl rfl) rfl rfl ?_
                refine St.r (R.load1 Tryd.isAgg3 rfl (k2.cells.at 1 rfl)) rfl rfl ?_
                refine St.r (R.lss rfl rfl) rfl rfl ?_
                refine St.r (Runs.lit (c := true) (R.move rfl) (decide_eq_true h51)) rfl rfl ?_
                refine St.pass (dg := 51) rfl rfl rfl rfl rfl ?_
                refine St.pass (dg := 51) rfl rfl rfl rfl rfl ?_
                refine St.pass (dg := 51) rfl rfl rfl rfl rfl ?_
                refine St.r (R.pickT rfl rfl) rfl rfl ?_
                refine St.r (R.assign rfl) rfl rfl ?_
                refine St.nil ?_
                refine St.weak [(47, _)] ⟨rfl, trivial⟩ ?_
                refine St.then_n ?_
                refine St.go hK12 ?_
                clear hK12
                refine St.condT rfl ?_
                refine St.seq fun K13 hK13 => ?_
                refine St.region ?_
                refine St.r (R.iface Tryd.underlying81 rfl rfl) rfl rfl ?_
                refine St.r (R.assign rfl) rfl rfl ?_
                refine St.nil ?_
                refine St.weak [(4, _)] ⟨rfl, trivial⟩ ?_
                refine St.then_n ?_
                refine St.go hK13 ?_
                clear hK13
                refine St.ret ?_
                refine St.in_r ?_
                refine St.then_r ?_
                refine St.ret1 Tryd.results35 rfl ?_
                exact ⟨_, rfl, by rw [ceL h14 h9 h20 hB h43 (.inl h51)]; rfl, E⟩
              ·
                refine St.region ?_
                refine St.r (R.fieldA Tryd.underlying80 rfl Tryd.sizeOf3 rfl rfl rfl) rfl rfl ?_
                refine St.r (R.load1 Tryd.isAgg3 rfl (k2.cells.at 1 rfl)) rfl rfl ?_
                refine St.r (R.lss rfl rfl) rfl rfl ?_
                refine St.r (Runs.lit (c := false) (R.move rfl) (decide_eq_false h51)) rfl rfl ?_
                refine St.take (dg := 51) rfl rfl ?_ rfl
                refine St.r (R.fieldA Tryd.underlying80 rfl Tryd.sizeOf3 rfl rfl rfl) rfl rfl ?_
                refine St.take (dg := 51) rfl rfl ?_ rfl
                refine St.r (R.load1 Tryd.isAgg3 rfl (k2.cells.at 1 rfl)) rfl rfl ?_
                refine St.take (dg := 51) rfl rfl ?_ rfl
                refine St.r (R.gtr rfl rfl) rfl rfl ?_
                refine St.r (R.pickF rfl rfl) rfl rfl ?_
                refine St.r (R.assign rfl) rfl rfl ?_
                refine St.nil ?_
                refine St.weak [(47, _)] ⟨rfl, trivial⟩ ?_
                refine St.then_n ?_
                refine St.go hK12 ?_
                clear hK12
                refine St.condD rfl (fun h47 => ?_) (fun h47 => ?_)
                ·
                  refine St.seq fun K14 hK14 => ?_
                  refine St.region ?_
                  refine St.r (R.iface Tryd.underlying81 rfl rfl) rfl rfl ?_
                  refine St.r (R.assign rfl) rfl rfl ?_
                  refine St.nil ?_
                  refine St.weak [(4, _)] ⟨rfl, trivial⟩ ?_
                  refine St.then_n ?_
                  refine St.go hK14 ?_
                  clear hK14
                  refine St.ret ?_
                  refine St.in_r ?_
                  refine St.then_r ?_
                  refine St.ret1 Tryd.results35 rfl ?_
                  exact ⟨_, rfl, by rw [ceL h14 h9 h20 hB h43 (.inr h47)]; rfl, E⟩
                ·
                  refine St.skip ?_
                  refine St.in_n ?_
                  refine St.then_n ?_
                  refine St.go hK2 ?_
                  clear hK2
                  refine St.seq fun K15 hK15 => ?_
                  refine St.region ?_
                  refine St.r (R.assign rfl) rfl rfl ?_
                  refine St.nil ?_
                  refine St.weak [(4, _)] ⟨rfl, trivial⟩ ?_
                  refine St.then_n ?_
                  refine St.go hK15 ?_
                  clear hK15
                  refine St.ret ?_
                  refine St.ret1 Tryd.results35 rfl ?_
                  exact ⟨_, rfl, by rw [ceN h14 h9 h20 hB h43 h51 h47]; rfl, E⟩
        ·
          have hB : ¬ ((c.parents.length : Int) = 2 ∧ c.parents.getD 0 0 = c.parents.getD 1 0) := fun h => h31 h.1
          refine St.weak [(2, _), (5, _)] ⟨rfl, rfl, trivial⟩ ?_
          refine St.draw mixed rfl rfl rfl rfl ?_
          replace E := Ext.trans E (Ext.drew _)
          replace k2 := k2.ext (Ext.drew _)
          replace k3 := k3.ext (Ext.drew _)
          refine ⟨_, OpOk.r (R.fieldA Tryd.underlying80 rfl Tryd.sizeOf30 rfl rfl rfl) rfl, ?_⟩
          refine ⟨_, OpOk.r (R.load1 Tryd.isAgg30 rfl (k2.cells.at 0 rfl)) rfl, ?_⟩
          refine ⟨_, OpOk.r (R.lenSl Tryd.underlying30 rfl) rfl, ?_⟩
          refine ⟨_, OpOk.r (R.eql rfl rfl) rfl, ?_⟩
          refine ⟨_, OpOk.r (Runs.lit (c := false) (R.move rfl) (decide_eq_false h31)) rfl, ?_⟩
          refine ⟨_, OpOk.pass (dg := 31) rfl rfl rfl rfl rfl, ?_⟩
          refine ⟨_, OpOk.pass (dg := 31) rfl rfl rfl rfl rfl, ?_⟩
          refine ⟨_, OpOk.pass (dg := 31) rfl rfl rfl rfl rfl, ?_⟩
          refine ⟨_, OpOk.pass (dg := 31) rfl rfl rfl rfl rfl, ?_⟩
          refine ⟨_, OpOk.pass (dg := 31) rfl rfl rfl rfl rfl, ?_⟩
          refine ⟨_, OpOk.pass (dg := 31) rfl rfl rfl rfl rfl, ?_⟩
          refine ⟨_, OpOk.pass (dg := 31) rfl rfl rfl rfl rfl, ?_⟩
          refine ⟨_, OpOk.pass (dg := 31) rfl rfl rfl rfl rfl, ?_⟩
          refine ⟨_, OpOk.pass (dg := 31) rfl rfl rfl rfl rfl, ?_⟩
          refine ⟨_, OpOk.r (R.pickF rfl rfl) rfl, ?_⟩
          refine ⟨_, OpOk.r (R.assign rfl) rfl, ?_⟩
          show St _ _ _ _ _
          refine St.weak [(2, _), (5, _), (26, _)] ⟨rfl, rfl, rfl, trivial⟩ ?_
          refine St.then_n ?_
          refine St.go hK8 ?_
          clear hK8
          refine St.condF rfl ?_
          refine St.seq fun K16 hK16 => ?_
          refine St.region ?_
          refine St.r (R.move rfl) rfl rfl ?_
          refine St.r (R.notNil (et := 81) (e := _) Tryd.underlying26 rfl) rfl rfl ?_
          refine St.r (R.assign rfl) rfl rfl ?_
          refine St.nil ?_
          refine St.weak [(2, _), (5, _), (43, _)] ⟨rfl, rfl, rfl, trivial⟩ ?_
          refine St.then_n ?_
          refine St.go hK16 ?_
          clear hK16
          refine St.cond rfl (fun h43 => ?_) (fun h43 => ?_)
          ·
            refine St.seq fun K17 hK17 => ?_
            refine St.region ?_
            refine St.r (R.move rfl) rfl rfl ?_
            refine St.r (R.assign rfl) rfl rfl ?_
            refine St.nil ?_
            refine St.weak [(4, _)] ⟨rfl, trivial⟩ ?_
            refine St.then_n ?_
            refine St.go hK17 ?_
            clear hK17
            refine St.ret ?_
            refine St.in_r ?_
            refine St.then_r ?_
            refine St.ret1 Tryd.results35 rfl ?_
            exact ⟨_, rfl, by rw [ceM h14 h9 h20 hB h43], E⟩
          ·
            refine St.seq fun K18 hK18 => ?_
            by_cases h51 : c.layer < 1
            ·
              refine St.region ?_
              refine St.r (R.fieldA Tryd.underlying80 rfl Tryd.sizeOf3 rfl rfl rfl) rfl rfl ?_
              refine St.r (R.load1 Tryd.isAgg3 rfl (k2.cells.at 1 rfl)) rfl rfl ?_
              refine St.r (R.lss rfl rfl) rfl rfl ?_
              refine St.r (Runs.lit (c := true) (R.move rfl) (decide_eq_true h51)) rfl rfl ?_
              refine St.pass (dg := 51) rfl rfl rfl rfl rfl ?_
              refine St.pass (dg := 51) rfl rfl rfl rfl rfl ?_
              refine St.pass (dg := 51) rfl rfl rfl rfl rfl ?_
              refine St.r (R.pickT rfl rfl) rfl rfl ?_
              refine St.r (R.assign rfl) rfl rfl ?_
              refine St.nil ?_
              refine St.weak [(47, _)] ⟨rfl, trivial⟩ ?_
              refine St.then_n ?_
              refine St.go hK18 ?_
              clear hK18
              refine St.condT rfl ?_
              refine St.seq fun K19 hK19 => ?_
              refine St.region ?_
              refine St.r (R.iface Tryd.underlying81 rfl rfl) rfl rfl ?_
              refine St.r (R.assign rfl) rfl rfl ?_
              refine St.nil ?_
              refine St.weak [(4, _)] ⟨rfl, trivial⟩ ?_
              refine St.then_n ?_
              refine St.go hK19 ?_
              clear hK19
              refine St.ret ?_
              refine St.in_r ?_
              refine St.then_r ?_
              refine St.ret1 Tryd.results35 rfl ?_
              exact ⟨_, rfl, by rw [ceL h14 h9 h20 hB h43 (.inl h51)]; rfl, E⟩
            ·
              refine St.region ?_
              refine St.r (R.fieldA Tryd.underlying80 rfl Tryd.sizeOf3 rfl rfl rfl) rfl rfl ?_
              refine St.r (R.load1 Tryd.isAgg3 rfl (k2.cells.at 1 rfl)) rfl rfl ?_
              refine St.r (R.lss rfl rfl) rfl rfl ?_
              refine St.r (Runs.lit (c := false) (R.move rfl) (decide_eq_false h51)) rfl rfl ?_
              refine St.take (dg := 51) rfl rfl ?_ rfl
              refine St.r (R.fieldA Tryd.underlying80 rfl Tryd.sizeOf3 rfl rfl rfl) rfl rfl ?_
              refine St.take (dg := 51) rfl rfl ?_ rfl
              refine St.r (R.load1 Tryd.isAgg3 rfl (k2.cells.at 1 rfl)) rfl rfl ?_
              refine St.take (dg := 51) rfl rfl ?_ rfl
              refine St.r (R.gtr rfl rfl) rfl rfl ?_
              refine St.r (R.pickF rfl rfl) rfl rfl ?_
              refine St.r (R.assign rfl) rfl rfl ?_
              refine St.nil ?_
              refine St.weak [(47, _)] ⟨rfl, trivial⟩ ?_
              refine St.then_n ?_
              refine St.go hK18 ?_
              clear hK18
              refine St.condD rfl (fun h47 => ?_) (fun h47 => ?_)
              ·
                refine St.seq fun K20 hK20 => ?_
                refine St.region ?_
                refine St.r (R.iface Tryd.underlying81 rfl rfl) rfl rfl ?_
                refine St.r (R.assign rfl) rfl rfl ?_
                refine St.nil ?_
                refine St.weak [(4, _)] ⟨rfl, trivial⟩ ?_
                refine St.then_n ?_
                refine St.go hK20 ?_
                clear hK20
                refine St.ret ?_
                refine St.in_r ?_
                refine St.then_r ?_
                refine St.ret1 Tryd.results35 rfl ?_
                exact ⟨_, rfl, by rw [ceL h14 h9 h20 hB h43 (.inr h47)]; rfl, E⟩
              ·
                refine St.skip ?_
                refine St.in_n ?_
                refine St.then_n ?_
                refine St.go hK2 ?_
                clear hK2
                refine St.seq fun K21 hK21 => ?_
                refine St.region ?_
                refine St.r (R.assign rfl) rfl rfl ?_
                refine St.nil ?_
                refine St.weak [(4, _)] ⟨rfl, trivial⟩ ?_
                refine St.then_n ?_
                refine St.go hK21 ?_
                clear hK21
                refine St.ret ?_
                refine St.ret1 Tryd.results35 rfl ?_
                exact ⟨_, rfl, by rw [ceN h14 h9 h20 hB h43 h51 h47]; rfl, E⟩

theorem Of_ret {ls : List Commit} {v : Value} {i : Nat} (hi : i < ls.length) (h60 : ls.length ≤ 60) (hel : Elder ls) (w0 : World) (hv : RCommits w0 v ls) :
    Ret Tryd.prog 38 [v, .int .i64 (i : Int)] w0 fun r w' => ∃ g, r = .pointer (some ⟨g, 0, none⟩) ∧ Ext w0 w' ∧ w0.heap.size ≤ g ∧ Blk w' g 115 (bls (ofSet ls i)) := by
  obtain ⟨b, o, c, rfl, hlc, hc63, hrd⟩ := hv.at (by omega)
  have E : Ext w0 w0 := Ext.refl w0
  refine St.enter (N := 32) Tryd.func38 rfl Tryd.ntmps38 rfl ?_
  refine St.seq fun K0 hK0 => ?_
  refine St.region ?_
  refine St.r (R.assign rfl) rfl rfl ?_
  refine St.nil ?_
  refine St.weak [(0, _), (1, _)] ⟨rfl, rfl, trivial⟩ ?_
  refine St.then_n ?_
  refine St.go hK0 ?_
  clear hK0
  refine St.seq fun K1 hK1 => ?_
  refine St.region ?_
  refine St.alloc Tryd.zeroValue115 rfl ?_
  intro w5 b5 hb5 hs5 e5 k5
  have qE5 := E.size
  replace E := Ext.trans E e5
  refine St.nil ?_
  refine St.weak [(0, _), (1, _), (5, _)] ⟨rfl, rfl, rfl, trivial⟩ ?_
  refine St.then_n ?_
  refine St.go hK1 ?_
  clear hK1
  refine St.seq fun K2 hK2 => ?_
  refine St.region ?_
  refine St.r (R.move rfl) rfl rfl ?_
  refine St.r (R.indexA _ Tryd.underlying115 Tryd.sizeOf4 rfl rfl rfl (by omega)) rfl rfl ?_
  refine St.store Tryd.sizeOf4 rfl rfl k5 rfl (by simp [Value.cells]; omega) (by simp [Value.cells, Value.oneCell']) ?_
  intro ws0 ks0 gs0 zs0
  replace E := Ext.then E gs0 (by intro j hj; omega)
  clear k5; have k5 := ks0; clear ks0
  have kS : Blk ws0 b5 115 (bls ((List.replicate 60 false).set i true)) := by
    have h := k5
    simp only [Nat.zero_add, Nat.mul_one] at h
    rw [← bls_set]
    exact h
  clear k5
  refine St.nil ?_
  refine St.weak [(0, _), (1, _), (5, _)] ⟨rfl, rfl, rfl, trivial⟩ ?_
  refine St.then_n ?_
  refine St.go hK2 ?_
  clear hK2
  refine St.seq fun K3 hK3 => ?_
  refine St.seq fun K4 hK4 => ?_
  refine St.region ?_
  refine St.r (R.move rfl) rfl rfl ?_
  refine St.r (R.assign rfl) rfl rfl ?_
  refine St.nil ?_
  refine St.weak [(0, _), (5, _), (6, _)] ⟨rfl, rfl, rfl, trivial⟩ ?_
  refine St.then_n ?_
  refine St.go hK4 ?_
  clear hK4
  refine St.block ?_
  refine St.loop (fun (x : Nat × List Bool) => match x with | (m, s) => [(0, .slice (some ⟨b, o, none⟩) ls.length c), (5, .pointer (some ⟨b5, 0, none⟩)), (6, .int .i64 ((m : Int) - 1))])
      (fun (x : Nat × List Bool) w => match x with | (m, s) => m ≤ i + 1 ∧ s.length = 60 ∧ Ext w0 w ∧ Blk w b5 115 (bls s) ∧ ofLoop ls m s = ofSet ls i)
      (fun (x : Nat × List Bool) => match x with | (m, s) => m) (i + 1, (List.replicate 60 false).set i true) ⟨rfl, rfl, (look_int rfl (by omega)), trivial⟩ ?_ ?_
  · exact ⟨Nat.le_refl _, by simp, E, kS, rfl⟩
  rintro ⟨m, s⟩ w ⟨hm, hs, E, kS, hof⟩
  show St _ _ [(0, .slice (some ⟨b, o, none⟩) ls.length c), (5, .pointer (some ⟨b5, 0, none⟩)), (6, .int .i64 ((m : Int) - 1))] _ _
  refine St.seq fun K5 hK5 => ?_
  refine St.seq fun K6 hK6 => ?_
  refine St.region ?_
  refine St.r (R.move rfl) rfl rfl ?_
  refine St.r (R.geq rfl rfl) rfl rfl ?_
  refine St.nil ?_
  refine St.weak [(0, _), (5, _), (6, _), (13, _)] ⟨rfl, rfl, rfl, rfl, trivial⟩ ?_
  refine St.then_n ?_
  refine St.go hK6 ?_
  clear hK6
  refine St.condD rfl (fun h13 => ?_) (fun h13 => ?_)
  ·
    obtain ⟨k, rfl⟩ : ∃ k, m = k + 1 := ⟨m - 1, by omega⟩
    obtain ⟨bb, hsk⟩ := get_of_lt (xs := s) (k := k) (by omega)
    refine St.skip ?_
    refine St.then_n ?_
    refine St.go hK5 ?_
    clear hK5
    refine St.seq fun K7 hK7 => ?_
    refine St.block ?_
    refine St.seq fun K8 hK8 => ?_
    refine St.region ?_
    refine St.r (R.move rfl) rfl rfl ?_
    refine St.r (R.indexA k Tryd.underlying115 Tryd.sizeOf4 rfl rfl (by omega) (by omega)) rfl rfl ?_
    refine St.r (R.load1 Tryd.isAgg4 rfl (kS.cells.at (k * 1) (by rw [Nat.mul_one]; exact bls_get hsk))) rfl rfl ?_
    refine St.nil ?_
    refine St.weak [(0, _), (5, _), (6, _), (18, _)] ⟨rfl, rfl, rfl, rfl, trivial⟩ ?_
    refine St.then_n ?_
    refine St.go hK8 ?_
    clear hK8
    refine St.cond rfl (fun h18 => ?_) (fun h18 => ?_)
    ·
      obtain ⟨cm, hcm⟩ := get_of_lt (xs := ls) (k := k) (by omega)
      obtain ⟨cs, -, hcell, pv, rfl, hpv⟩ := hrd k cm hcm
      have helk := hel k cm hcm
      obtain ⟨pA, pc, rfl, hp1, hp2⟩ := hpv.form
      refine St.seq fun K9 hK9 => ?_
      refine St.region ?_
      refine St.r (R.move rfl) rfl rfl ?_
      refine St.r (R.move rfl) rfl rfl ?_
      refine St.r (R.indexS k Tryd.underlying22 Tryd.sizeOf80 rfl rfl (by omega) (by omega)) rfl rfl ?_
      refine St.r (R.fieldA Tryd.underlying80 rfl Tryd.sizeOf30 rfl rfl rfl) rfl rfl ?_
      refine St.r (R.load1 Tryd.isAgg30 rfl ((E.cells hcell).at 0 rfl)) rfl rfl ?_
      refine St.r (R.lenSl Tryd.underlying30 rfl) rfl rfl ?_
      refine St.r (R.move rfl) rfl rfl ?_
      refine St.nil ?_
      refine St.weak [(0, _), (5, _), (6, _), (23, _), (24, _), (25, _)] ⟨rfl, rfl, rfl, rfl, rfl, rfl, trivial⟩ ?_
      refine St.then_n ?_
      refine St.go hK9 ?_
      clear hK9
      refine St.block ?_
      refine St.loop (fun (j : Nat) => [(0, .slice (some ⟨b, o, none⟩) ls.length c), (5, .pointer (some ⟨b5, 0, none⟩)), (6, .int .i64 (((k + 1 : Nat) : Int) - 1)), (23, .slice pA cm.parents.length pc), (24, .int .i64 (cm.parents.length : Int)), (25, .int .i64 (j : Int))])
          (fun (j : Nat) w => j ≤ cm.parents.length ∧ Ext w0 w ∧ Blk w b5 115 (bls (setAll s (cm.parents.take j))))
          (fun (j : Nat) => cm.parents.length - j) 0 ⟨rfl, rfl, rfl, rfl, rfl, rfl, trivial⟩ ?_ ?_
      · exact ⟨Nat.zero_le _, E, kS⟩
      rintro j w ⟨hj, E, kS⟩
      show St _ _ [(0, .slice (some ⟨b, o, none⟩) ls.length c), (5, .pointer (some ⟨b5, 0, none⟩)), (6, .int .i64 (((k + 1 : Nat) : Int) - 1)), (23, .slice pA cm.parents.length pc), (24, .int .i64 (cm.parents.length : Int)), (25, .int .i64 (j : Int))] _ _
      refine St.seq fun K10 hK10 => ?_
      refine St.region ?_
      refine St.r (R.lss rfl rfl) rfl rfl ?_
      refine St.nil ?_
      refine St.weak [(0, _), (5, _), (6, _), (23, _), (24, _), (25, _), (26, _)] ⟨rfl, rfl, rfl, rfl, rfl, rfl, rfl, trivial⟩ ?_
      refine St.then_n ?_
      refine St.go hK10 ?_
      clear hK10
      refine St.seq fun K11 hK11 => ?_
      refine St.condD rfl (fun h26 => ?_) (fun h26 => ?_)
      ·
        obtain ⟨p, hp⟩ := get_of_lt (xs := cm.parents) (k := j) (by omega)
        obtain ⟨hp0, hpk⟩ := helk p (List.mem_of_getElem? hp)
        obtain ⟨pb, po, pc', heq, -, -, hpc⟩ := hpv.at (by omega)
        cases heq
        obtain ⟨cs, -, hx, rfl⟩ := hpc j p hp
        refine St.skip ?_
        refine St.then_n ?_
        refine St.go hK11 ?_
        clear hK11
        refine St.seq fun K12 hK12 => ?_
        refine St.block ?_
        refine St.seq fun K13 hK13 => ?_
        refine St.region ?_
        refine St.r (R.indexS _ Tryd.underlying30 Tryd.sizeOf3 rfl rfl rfl (by omega)) rfl rfl ?_
        refine St.r (R.load1 Tryd.isAgg3 rfl ((E.cells hx).at 0 rfl)) rfl rfl ?_
        refine St.r (R.assign rfl) rfl rfl ?_
        refine St.nil ?_
        refine St.weak [(0, _), (5, _), (6, _), (8, _), (23, _), (24, _), (25, _)] ⟨rfl, rfl, rfl, rfl, rfl, rfl, rfl, trivial⟩ ?_
        refine St.then_n ?_
        refine St.go hK13 ?_
        clear hK13
        refine St.region ?_
        refine St.r (R.move rfl) rfl rfl ?_
        refine St.r (R.indexA p.toNat Tryd.underlying115 Tryd.sizeOf4 rfl rfl (by omega) (by omega)) rfl rfl ?_
        refine St.store Tryd.sizeOf4 rfl rfl kS rfl (by simp only [bls_length, setAll_length]; omega) (by simp [Value.cells, Value.oneCell']) ?_
        intro ws1 ks1 gs1 zs1
        replace E := Ext.then E gs1 (by intro j hj; omega)
        clear kS; have kS := ks1; clear ks1
        refine St.nil ?_
        refine St.weak [(0, _), (5, _), (6, _), (23, _), (24, _), (25, _)] ⟨rfl, rfl, rfl, rfl, rfl, rfl, trivial⟩ ?_
        refine St.in_n ?_
        refine St.then_n ?_
        refine St.go hK12 ?_
        clear hK12
        refine St.region ?_
        refine St.r (R.add rfl rfl (by omega) (by omega)) rfl rfl ?_
        refine St.r (R.move rfl) rfl rfl ?_
        refine St.nil ?_
        refine St.weak [(0, _), (5, _), (6, _), (23, _), (24, _), (25, _)] ⟨rfl, rfl, rfl, rfl, rfl, rfl, trivial⟩ ?_
        refine St.then_n ?_
        refine St.round (j + 1) ⟨rfl, rfl, rfl, rfl, rfl, rfl, trivial⟩ ?_ ?_
        · refine ⟨by omega, E, ?_⟩
          have h := kS
          simp only [Nat.zero_add, Nat.mul_one] at h
          rw [take_snoc hp, setAll_snoc, ← bls_set]
          exact h
        · omega
      ·
        refine St.exit ?_
        refine St.then_x ?_
        refine St.then_x ?_
        refine St.in_x ?_
        refine St.in_n ?_
        refine St.then_n ?_
        refine St.go hK7 ?_
        clear hK7
        refine St.region ?_
        refine St.r (R.move rfl) rfl rfl ?_
        refine St.r (R.sub rfl rfl (by omega) (by omega)) rfl rfl ?_
        refine St.r (R.assign rfl) rfl rfl ?_
        refine St.nil ?_
        refine St.weak [(0, _), (5, _), (6, _)] ⟨rfl, rfl, rfl, trivial⟩ ?_
        refine St.then_n ?_
        refine St.round (k, setAll s cm.parents) ⟨rfl, rfl, (look_int rfl (by omega)), trivial⟩ ?_ ?_
        · try dsimp only
          refine ⟨by omega, by rw [setAll_length]; exact hs, E, ?_, ?_⟩
          · rw [List.take_of_length_le (by omega)] at kS; exact kS
          · rw [← hof, ofLoop, ofStep, List.getD_eq_getElem?_getD, hsk, hcm]; simp [h18]
        · try dsimp only
          simp
    ·
      refine St.skip ?_
      refine St.in_n ?_
      refine St.then_n ?_
      refine St.go hK7 ?_
      clear hK7
      refine St.region ?_
      refine St.r (R.move rfl) rfl rfl ?_
      refine St.r (R.sub rfl rfl (by omega) (by omega)) rfl rfl ?_
      refine St.r (R.assign rfl) rfl rfl ?_
      refine St.nil ?_
      refine St.weak [(0, _), (5, _), (6, _)] ⟨rfl, rfl, rfl, trivial⟩ ?_
      refine St.then_n ?_
      refine St.round (k, s) ⟨rfl, rfl, (look_int rfl (by omega)), trivial⟩ ?_ ?_
      · try dsimp only
        refine ⟨by omega, hs, E, kS, ?_⟩
        rw [← hof, ofLoop, ofStep, List.getD_eq_getElem?_getD, hsk]; simp [h18]
      · try dsimp only
        simp
  ·
    refine St.exit ?_
    refine St.then_x ?_
    refine St.then_x ?_
    refine St.in_x ?_
    refine St.then_n ?_
    refine St.go hK3 ?_
    clear hK3
    refine St.seq fun K14 hK14 => ?_
    refine St.region ?_
    refine St.r (R.assign rfl) rfl rfl ?_
    refine St.nil ?_
    refine St.weak [(4, _)] ⟨rfl, trivial⟩ ?_
    refine St.then_n ?_
    refine St.go hK14 ?_
    clear hK14
    refine St.ret ?_
    refine St.ret1 Tryd.results38 rfl ?_
    obtain rfl : m = 0 := by omega
    exact ⟨_, rfl, b5, rfl, E, by omega, by rw [← hof]; exact kS⟩

theorem Check_ret {ls : List Commit} {v : Value} (w0 : World) (hv : RCommits w0 v ls) : Ret Tryd.prog 7 [v] w0 fun r w' => r = .tuple #[.int .i64 (checkErr ls).1, errV 81 (checkErr ls).2] ∧ Ext w0 w' := by
  obtain ⟨A, c, rfl, hc1, hc2⟩ := hv.form
  have E : Ext w0 w0 := Ext.refl w0
  refine St.enter (N := 26) Tryd.func7 rfl Tryd.ntmps7 rfl ?_
  refine St.seq fun K0 hK0 => ?_
  refine St.region ?_
  refine St.r (R.assign rfl) rfl rfl ?_
  refine St.r (R.assign rfl) rfl rfl ?_
  refine St.nil ?_
  refine St.weak [(0, _)] ⟨rfl, trivial⟩ ?_
  refine St.then_n ?_
  refine St.go hK0 ?_
  clear hK0
  refine St.seq fun K1 hK1 => ?_
  refine St.seq fun K2 hK2 => ?_
  refine St.region ?_
  refine St.r (R.move rfl) rfl rfl ?_
  refine St.r (R.lenSl Tryd.underlying22 rfl) rfl rfl ?_
  refine St.r (R.gtr rfl rfl) rfl rfl ?_
  refine St.nil ?_
  refine St.weak [(0, _), (9, _)] ⟨rfl, rfl, trivial⟩ ?_
  refine St.then_n ?_
  refine St.go hK2 ?_
  clear hK2
  refine St.condD rfl (fun h9 => ?_) (fun h9 => ?_)
  ·
    refine St.seq fun K3 hK3 => ?_
    refine St.region ?_
    refine St.r (R.iface Tryd.underlying81 rfl rfl) rfl rfl ?_
    refine St.r (R.assign rfl) rfl rfl ?_
    refine St.r (R.assign rfl) rfl rfl ?_
    refine St.nil ?_
    refine St.weak [(2, _), (3, _)] ⟨rfl, rfl, trivial⟩ ?_
    refine St.then_n ?_
    refine St.go hK3 ?_
    clear hK3
    refine St.ret ?_
    refine St.then_r ?_
    refine St.ret2 Tryd.results7 rfl rfl ?_
    exact ⟨_, rfl, by rw [checkErr, if_pos h9]; rfl, E⟩
  ·
    have hce : checkErr ls = firstErr (ls.drop 0) 0 := by rw [checkErr, if_neg h9]; rfl
    refine St.skip ?_
    refine St.then_n ?_
    refine St.go hK1 ?_
    clear hK1
    refine St.seq fun K4 hK4 => ?_
    refine St.seq fun K5 hK5 => ?_
    refine St.region ?_
    refine St.r (R.move rfl) rfl rfl ?_
    refine St.r (R.lenSl Tryd.underlying22 rfl) rfl rfl ?_
    refine St.r (R.move rfl) rfl rfl ?_
    refine St.nil ?_
    refine St.weak [(11, _), (12, _), (13, _)] ⟨rfl, rfl, rfl, trivial⟩ ?_
    refine St.then_n ?_
    refine St.go hK5 ?_
    clear hK5
    refine St.block ?_
    refine St.loop (fun (k : Nat) => [(11, .slice A ls.length c), (12, .int .i64 (ls.length : Int)), (13, .int .i64 (k : Int))])
        (fun (k : Nat) w => k ≤ ls.length ∧ Ext w0 w ∧ checkErr ls = firstErr (ls.drop k) k)
        (fun (k : Nat) => ls.length - k) 0 ⟨rfl, rfl, rfl, trivial⟩ ?_ ?_
    · exact ⟨Nat.zero_le _, E, hce⟩
    rintro k w ⟨hk, E, hce⟩
    show St _ _ [(11, .slice A ls.length c), (12, .int .i64 (ls.length : Int)), (13, .int .i64 (k : Int))] _ _
    refine St.seq fun K6 hK6 => ?_
    refine St.region ?_
    refine St.r (R.lss rfl rfl) rfl rfl ?_
    refine St.nil ?_
    refine St.weak [(11, _), (12, _), (13, _), (14, _)] ⟨rfl, rfl, rfl, rfl, trivial⟩ ?_
    refine St.then_n ?_
    refine St.go hK6 ?_
    clear hK6
    refine St.seq fun K7 hK7 => ?_
    refine St.condD rfl (fun h14 => ?_) (fun h14 => ?_)
    ·
      obtain ⟨x, hx⟩ := get_of_lt (xs := ls) (k := k) (by omega)
      obtain ⟨b, o, c', heq, -, -, hcell⟩ := hv.at (by omega)
      cases heq
      obtain ⟨cs, -, hx', pv, rfl, hpv⟩ := hcell k x hx
      refine St.skip ?_
      refine St.then_n ?_
      refine St.go hK7 ?_
      clear hK7
      refine St.seq fun K8 hK8 => ?_
      refine St.block ?_
      refine St.seq fun K9 hK9 => ?_
      refine St.region ?_
      refine St.r (R.move rfl) rfl rfl ?_
      refine St.r (R.indexS _ Tryd.underlying22 Tryd.sizeOf80 rfl rfl rfl (by omega)) rfl rfl ?_
      refine St.r (R.loadA Tryd.isAgg80 Tryd.sizeOf80 rfl (E.cells hx') rfl) rfl rfl ?_
      refine St.alloc Tryd.zeroValue80 rfl ?_
      intro w5 b5 hb5 hs5 e5 k5
      have qE5 := E.size
      replace E := Ext.trans E e5
      refine St.r (R.assign rfl) rfl rfl ?_
      refine St.store Tryd.sizeOf80 rfl rfl k5 rfl (by simp [Value.cells]) (by intro u hu; simp [Value.cells] at hu; obtain ⟨pA, pc, rfl, -, -⟩ := hpv.form; rcases hu with rfl | rfl | rfl <;> rfl) ?_
      intro ws0 ks0 gs0 zs0
      replace E := Ext.then E gs0 (by intro j hj; omega)
      clear k5; have k5 := ks0; clear ks0
      refine St.nil ?_
      refine St.weak [(4, _), (5, _), (11, _), (12, _), (13, _)] ⟨rfl, rfl, rfl, rfl, rfl, trivial⟩ ?_
      refine St.then_n ?_
      refine St.go hK9 ?_
      clear hK9
      refine St.seq fun K10 hK10 => ?_
      refine St.region ?_
      refine St.r (R.loadA Tryd.isAgg80 Tryd.sizeOf80 rfl k5.cells rfl) rfl rfl ?_
      refine St.r (R.move rfl) rfl rfl ?_
      refine St.call rfl rfl ent35 (commit_ret (c := x) _ ⟨pv, rfl, hpv.ext (REnc.firm _) E⟩) rfl ?_
      rintro r20 w20 ⟨rfl, e20⟩
      replace E := Ext.trans E e20
      replace k5 := k5.ext e20
      refine St.r (R.assign rfl) rfl rfl ?_
      refine St.nil ?_
      refine St.weak [(4, _), (6, _), (11, _), (12, _), (13, _)] ⟨rfl, rfl, rfl, rfl, rfl, trivial⟩ ?_
      refine St.then_n ?_
      refine St.go hK10 ?_
      clear hK10
      refine St.seq fun K11 hK11 => ?_
      refine St.region ?_
      refine St.r (R.move rfl) rfl rfl ?_
      refine St.r (R.notNil (et := 81) (e := _) Tryd.underlying26 rfl) rfl rfl ?_
      refine St.nil ?_
      refine St.weak [(4, _), (6, _), (11, _), (12, _), (13, _), (22, _)] ⟨rfl, rfl, rfl, rfl, rfl, rfl, trivial⟩ ?_
      refine St.then_n ?_
      refine St.go hK11 ?_
      clear hK11
      refine St.cond rfl (fun h22 => ?_) (fun h22 => ?_)
      ·
        refine St.seq fun K12 hK12 => ?_
        refine St.region ?_
        refine St.r (R.move rfl) rfl rfl ?_
        refine St.r (R.move rfl) rfl rfl ?_
        refine St.r (R.assign rfl) rfl rfl ?_
        refine St.r (R.assign rfl) rfl rfl ?_
        refine St.nil ?_
        refine St.weak [(2, _), (3, _)] ⟨rfl, rfl, trivial⟩ ?_
        refine St.then_n ?_
        refine St.go hK12 ?_
        clear hK12
        refine St.ret ?_
        refine St.in_r ?_
        refine St.then_r ?_
        refine St.then_r ?_
        refine St.in_r ?_
        refine St.then_r ?_
        refine St.ret2 Tryd.results7 rfl rfl ?_
        exact ⟨_, rfl, by rw [hce, firstErr_at hx h22], E⟩
      ·
        refine St.skip ?_
        refine St.in_n ?_
        refine St.then_n ?_
        refine St.go hK8 ?_
        clear hK8
        refine St.region ?_
        refine St.r (R.add rfl rfl (by omega) (by omega)) rfl rfl ?_
        refine St.r (R.move rfl) rfl rfl ?_
        refine St.nil ?_
        refine St.weak [(11, _), (12, _), (13, _)] ⟨rfl, rfl, rfl, trivial⟩ ?_
        refine St.then_n ?_
        refine St.round (k + 1) ⟨rfl, rfl, rfl, trivial⟩ ?_ ?_
        · exact ⟨by omega, E, by rw [hce, firstErr_drop hx h22]⟩
        · omega
    ·
      refine St.exit ?_
      refine St.then_x ?_
      refine St.then_x ?_
      refine St.in_x ?_
      refine St.then_n ?_
      refine St.go hK4 ?_
      clear hK4
      refine St.seq fun K13 hK13 => ?_
      refine St.region ?_
      refine St.r (R.assign rfl) rfl rfl ?_
      refine St.r (R.assign rfl) rfl rfl ?_
      refine St.nil ?_
      refine St.weak [(2, _), (3, _)] ⟨rfl, rfl, trivial⟩ ?_
      refine St.then_n ?_
      refine St.go hK13 ?_
      clear hK13
      refine St.ret ?_
      refine St.ret2 Tryd.results7 rfl rfl ?_
      exact ⟨_, rfl, by rw [hce, List.drop_of_length_le (by omega)]; rfl, E⟩

theorem ready_ret {ls : List Commit} {v nv : Value} {nums : List Int} (w0 : World) (hv : RCommits w0 v ls) (hn : RInts w0 nv nums) : Ret Tryd.prog 37 [v, nv] w0 fun r w' => r = errV 81 (readyErr ls nums) ∧ Ext w0 w' := by
  obtain ⟨A, c, rfl, hc1, hc2⟩ := hv.form
  have E : Ext w0 w0 := Ext.refl w0
  refine St.enter (N := 19) Tryd.func37 rfl Tryd.ntmps37 rfl ?_
  refine St.seq fun K0 hK0 => ?_
  refine St.region ?_
  refine St.box rfl rfl ?_
  intro w2 b2 hb2 hs2 e2 k2
  have qE2 := E.size
  replace E := Ext.trans E e2
  refine St.r (R.assign rfl) rfl rfl ?_
  refine St.nil ?_
  refine St.weak [(1, _), (2, _)] ⟨rfl, rfl, trivial⟩ ?_
  refine St.then_n ?_
  refine St.go hK0 ?_
  clear hK0
  refine St.seq fun K1 hK1 => ?_
  refine St.seq fun K2 hK2 => ?_
  refine St.region ?_
  refine St.r (R.load1 Tryd.isAgg22 rfl (k2.cell 0 rfl)) rfl rfl ?_
  refine St.call rfl rfl ent7 (Check_ret _ (hv.ext RCommit.firm E)) rfl ?_
  rintro r9 w9 ⟨rfl, e9⟩
  replace E := Ext.trans E e9
  replace k2 := k2.ext e9
  refine St.r (R.move rfl) rfl rfl ?_
  refine St.r (R.extract rfl rfl) rfl rfl ?_
  refine St.r (R.extract rfl rfl) rfl rfl ?_
  refine St.r (R.assign rfl) rfl rfl ?_
  refine St.r (R.assign rfl) rfl rfl ?_
  refine St.nil ?_
  refine St.weak [(1, _), (2, _), (6, _)] ⟨rfl, rfl, rfl, trivial⟩ ?_
  refine St.then_n ?_
  refine St.go hK2 ?_
  clear hK2
  refine St.seq fun K3 hK3 => ?_
  refine St.region ?_
  refine St.r (R.move rfl) rfl rfl ?_
  refine St.r (R.notNil (et := 81) (e := _) Tryd.underlying26 rfl) rfl rfl ?_
  refine St.nil ?_
  refine St.weak [(1, _), (2, _), (6, _), (13, _)] ⟨rfl, rfl, rfl, rfl, trivial⟩ ?_
  refine St.then_n ?_
  refine St.go hK3 ?_
  clear hK3
  refine St.cond rfl (fun h13 => ?_) (fun h13 => ?_)
  ·
    refine St.seq fun K4 hK4 => ?_
    refine St.region ?_
    refine St.r (R.move rfl) rfl rfl ?_
    refine St.r (R.assign rfl) rfl rfl ?_
    refine St.nil ?_
    refine St.weak [(4, _)] ⟨rfl, trivial⟩ ?_
    refine St.then_n ?_
    refine St.go hK4 ?_
    clear hK4
    refine St.ret ?_
    refine St.then_r ?_
    refine St.ret1 Tryd.results37 rfl ?_
    exact ⟨_, rfl, by rw [readyErr, if_pos h13], E⟩
  ·
    refine St.skip ?_
    refine St.then_n ?_
    refine St.go hK1 ?_
    clear hK1
    refine St.seq fun K5 hK5 => ?_
    refine St.seq fun K6 hK6 => ?_
    refine St.region ?_
    refine St.r (R.move rfl) rfl rfl ?_
    refine St.r (R.fn rfl rfl) rfl rfl ?_
    refine St.call rfl rfl ent55 (int_ContainsFunc (p := badNum ls.length) _ (hn.ext (REnc.firm _) E) ent58 (fun W x eW _ => ready1_ret W (eW.cell (k2.cell 0 rfl)))) rfl ?_
    rintro r17 w17 ⟨rfl, e17⟩
    replace E := Ext.trans E e17
    replace k2 := k2.ext e17
    refine St.nil ?_
    refine St.weak [(17, _)] ⟨rfl, trivial⟩ ?_
    refine St.then_n ?_
    refine St.go hK6 ?_
    clear hK6
    refine St.cond rfl (fun h17 => ?_) (fun h17 => ?_)
    ·
      refine St.seq fun K7 hK7 => ?_
      refine St.region ?_
      refine St.r (R.iface Tryd.underlying81 rfl rfl) rfl rfl ?_
      refine St.r (R.assign rfl) rfl rfl ?_
      refine St.nil ?_
      refine St.weak [(4, _)] ⟨rfl, trivial⟩ ?_
      refine St.then_n ?_
      refine St.go hK7 ?_
      clear hK7
      refine St.ret ?_
      refine St.then_r ?_
      refine St.ret1 Tryd.results37 rfl ?_
      exact ⟨_, rfl, by rw [readyErr, if_neg (by rw [h13]; simp), if_pos h17]; rfl, E⟩
    ·
      refine St.skip ?_
      refine St.then_n ?_
      refine St.go hK5 ?_
      clear hK5
      refine St.seq fun K8 hK8 => ?_
      refine St.region ?_
      refine St.r (R.assign rfl) rfl rfl ?_
      refine St.nil ?_
      refine St.weak [(4, _)] ⟨rfl, trivial⟩ ?_
      refine St.then_n ?_
      refine St.go hK8 ?_
      clear hK8
      refine St.ret ?_
      refine St.ret1 Tryd.results37 rfl ?_
      exact ⟨_, rfl, by rw [readyErr, if_neg (by rw [h13]; simp), if_neg (by rw [h17]; simp)]; rfl, E⟩

theorem list_ret {s : List Bool} {b : Nat} (hs : s.length = 60) (w0 : World) (hb : Blk w0 b 115 (bls s)) : Ret Tryd.prog 39 [.pointer (some ⟨b, 0, none⟩)] w0 fun r w' => Own encInt 1 w0.heap.size 3 w' r (setList s) ∧ Ext w0 w' := by
  have E : Ext w0 w0 := Ext.refl w0
  refine St.enter (N := 19) Tryd.func39 rfl Tryd.ntmps39 rfl ?_
  refine St.seq fun K0 hK0 => ?_
  refine St.region ?_
  refine St.r (R.assign rfl) rfl rfl ?_
  refine St.nil ?_
  refine St.weak [(0, _), (2, _)] ⟨rfl, rfl, trivial⟩ ?_
  refine St.then_n ?_
  refine St.go hK0 ?_
  clear hK0
  refine St.seq fun K1 hK1 => ?_
  refine St.seq fun K2 hK2 => ?_
  refine St.region ?_
  refine St.r (R.move rfl) rfl rfl ?_
  refine St.r (R.move rfl) rfl rfl ?_
  refine St.nil ?_
  refine St.weak [(2, _), (5, _), (6, _)] ⟨rfl, rfl, rfl, trivial⟩ ?_
  refine St.then_n ?_
  refine St.go hK2 ?_
  clear hK2
  refine St.block ?_
  refine St.loop (fun (x : Nat × Value) => match x with | (k, v) => [(2, v), (5, .pointer (some ⟨b, 0, none⟩)), (6, .int .i64 (k : Int))])
      (fun (x : Nat × Value) w => match x with | (k, v) => k ≤ 60 ∧ Ext w0 w ∧ Own encInt 1 w0.heap.size 3 w v (setListTo s k))
      (fun (x : Nat × Value) => match x with | (k, v) => 60 - k) (0, .slice none 0 0) ⟨rfl, rfl, rfl, trivial⟩ ?_ ?_
  · exact ⟨by omega, E, Own.nil _ _ _ _ _⟩
  rintro ⟨k, v⟩ w ⟨hk, E, ho⟩
  show St _ _ [(2, v), (5, .pointer (some ⟨b, 0, none⟩)), (6, .int .i64 (k : Int))] _ _
  refine St.seq fun K3 hK3 => ?_
  refine St.region ?_
  refine St.r (R.lss rfl rfl) rfl rfl ?_
  refine St.nil ?_
  refine St.weak [(2, _), (5, _), (6, _), (7, _)] ⟨rfl, rfl, rfl, rfl, trivial⟩ ?_
  refine St.then_n ?_
  refine St.go hK3 ?_
  clear hK3
  refine St.seq fun K4 hK4 => ?_
  refine St.condD rfl (fun h7 => ?_) (fun h7 => ?_)
  ·
    obtain ⟨bb, hsk⟩ := get_of_lt (xs := s) (k := k) (by omega)
    refine St.skip ?_
    refine St.then_n ?_
    refine St.go hK4 ?_
    clear hK4
    refine St.seq fun K5 hK5 => ?_
    refine St.block ?_
    refine St.seq fun K6 hK6 => ?_
    refine St.weak [(2, _), (5, _), (6, _)] ⟨rfl, rfl, rfl, trivial⟩ ?_
    refine St.draw mixed rfl rfl rfl rfl ?_
    replace E := Ext.trans E (Ext.drew _)
    replace ho := ho.ext (Ext.drew _)
    refine ⟨_, OpOk.r (R.move rfl) rfl, ?_⟩
    refine ⟨_, OpOk.r (R.nilOk rfl) rfl, ?_⟩
    refine ⟨_, OpOk.r (R.indexA _ Tryd.underlying115 Tryd.sizeOf4 rfl rfl rfl (by omega)) rfl, ?_⟩
    refine ⟨_, OpOk.r (R.load1 Tryd.isAgg4 rfl ((hb.ext E).cells.at (k * 1) (by rw [Nat.mul_one]; exact bls_get hsk))) rfl, ?_⟩
    refine ⟨_, OpOk.r (R.assign rfl) rfl, ?_⟩
    refine ⟨_, OpOk.r (R.assign rfl) rfl, ?_⟩
    show St _ _ _ _ _
    refine St.weak [(2, _), (3, _), (4, _), (5, _), (6, _)] ⟨rfl, rfl, rfl, rfl, rfl, trivial⟩ ?_
    refine St.then_n ?_
    refine St.go hK6 ?_
    clear hK6
    refine St.seq fun K7 hK7 => ?_
    refine St.region ?_
    refine St.r (R.move rfl) rfl rfl ?_
    refine St.nil ?_
    refine St.weak [(2, _), (3, _), (5, _), (6, _), (12, _)] ⟨rfl, rfl, rfl, rfl, rfl, trivial⟩ ?_
    refine St.then_n ?_
    refine St.go hK7 ?_
    clear hK7
    refine St.cond rfl (fun h12 => ?_) (fun h12 => ?_)
    ·
      refine St.region ?_
      refine St.r (R.move rfl) rfl rfl ?_
      refine St.r (R.move rfl) rfl rfl ?_
      refine St.buildSl Tryd.underlying30 Tryd.sizeOf3 Tryd.zeroValue3 rfl rfl rfl rfl (by intro u hu; simp only [List.mem_cons, List.not_mem_nil, or_false] at hu; first | (subst hu; rfl) | (rcases hu with rfl | rfl <;> rfl) | (rcases hu with rfl | rfl | rfl <;> rfl) | (rcases hu with rfl | rfl | rfl | rfl <;> rfl)) rfl ?_
      intro w15 b15 hb15 hs15 e15 k15
      have qE15 := E.size
      replace E := Ext.trans E e15
      replace ho := ho.ext e15
      refine St.append (enc := encInt) (fun _ => rfl) one_int Tryd.underlying30 info3 rfl rfl rfl rfl ho (RSl.mk (enc := encInt) (xs := [(k : Int)]) encInt_len k15.cells (fun i u hu => hu) (by simp) (by simp)) (by have := setListTo_length s k; simp; omega) (by have := setListTo_length s k; simp; omega) E.size rfl ?_
      intro v16 w16 a16 g16 at16
      replace E := Ext.then E g16 (by intro j hj hk; have := (ho.base hk).1; omega)
      clear ho; have ho := a16; clear a16
      refine St.r (R.assign rfl) rfl rfl ?_
      refine St.nil ?_
      refine St.weak [(2, _), (5, _), (6, _)] ⟨rfl, rfl, rfl, trivial⟩ ?_
      refine St.in_n ?_
      refine St.then_n ?_
      refine St.go hK5 ?_
      clear hK5
      refine St.region ?_
      refine St.r (R.add rfl rfl (by omega) (by omega)) rfl rfl ?_
      refine St.r (R.move rfl) rfl rfl ?_
      refine St.nil ?_
      refine St.weak [(2, _), (5, _), (6, _)] ⟨rfl, rfl, rfl, trivial⟩ ?_
      refine St.then_n ?_
      refine St.round (k + 1, v16) ⟨rfl, rfl, rfl, trivial⟩ ?_ ?_
      · try dsimp only
        exact ⟨by omega, E, by rw [setListTo_succ, List.getD_eq_getElem?_getD, hsk, Option.getD_some, h12, if_pos rfl]; exact ho⟩
      · try dsimp only
        omega
    ·
      refine St.skip ?_
      refine St.in_n ?_
      refine St.then_n ?_
      refine St.go hK5 ?_
      clear hK5
      refine St.region ?_
      refine St.r (R.add rfl rfl (by omega) (by omega)) rfl rfl ?_
      refine St.r (R.move rfl) rfl rfl ?_
      refine St.nil ?_
      refine St.weak [(2, _), (5, _), (6, _)] ⟨rfl, rfl, rfl, trivial⟩ ?_
      refine St.then_n ?_
      refine St.round (k + 1, v) ⟨rfl, rfl, rfl, trivial⟩ ?_ ?_
      · try dsimp only
        exact ⟨by omega, E, by rw [setListTo_succ, List.getD_eq_getElem?_getD, hsk, Option.getD_some, h12, if_neg (by simp), List.append_nil]; exact ho⟩
      · try dsimp only
        omega
  ·
    refine St.exit ?_
    refine St.then_x ?_
    refine St.then_x ?_
    refine St.in_x ?_
    refine St.then_n ?_
    refine St.go hK1 ?_
    clear hK1
    refine St.seq fun K8 hK8 => ?_
    refine St.region ?_
    refine St.r (R.move rfl) rfl rfl ?_
    refine St.r (R.assign rfl) rfl rfl ?_
    refine St.nil ?_
    refine St.weak [(2, _)] ⟨rfl, trivial⟩ ?_
    refine St.then_n ?_
    refine St.go hK8 ?_
    clear hK8
    refine St.ret ?_
    refine St.ret1 Tryd.results39 rfl ?_
    obtain rfl : k = 60 := by omega
    exact ⟨_, rfl, by rw [setList_eq hs]; exact ho, E⟩

theorem Base1_ret {s : List Bool} {x : Int} {B : Nat} (w0 : World) (hs : s.length = 60) (h0 : 0 ≤ x) (h60 : x < 60) (hB : Blk w0 B 115 (bls s)) : Ret Tryd.prog 60 [.int .i64 x, .pointer (some ⟨B, 0, none⟩)] w0 fun r w' => r = .bool (s.getD x.toNat false) ∧ Ext w0 w' := by
  obtain ⟨bb, hsk⟩ := get_of_lt (xs := s) (k := x.toNat) (by omega)
  refine St.enter (N := 7) Tryd.func60 rfl Tryd.ntmps60 rfl ?_
  refine St.seq fun K0 hK0 => ?_
  refine St.region ?_
  refine St.r (R.assign rfl) rfl rfl ?_
  refine St.nil ?_
  refine St.weak [(0, _), (1, _)] ⟨rfl, rfl, trivial⟩ ?_
  refine St.then_n ?_
  refine St.go hK0 ?_
  clear hK0
  refine St.seq fun K1 hK1 => ?_
  refine St.region ?_
  refine St.r (R.move rfl) rfl rfl ?_
  refine St.r (R.indexA x.toNat Tryd.underlying115 Tryd.sizeOf4 rfl rfl (by omega) (by omega)) rfl rfl ?_
  refine St.r (R.load1 Tryd.isAgg4 rfl (hB.cells.at (x.toNat * 1) (by rw [Nat.mul_one]; exact bls_get hsk))) rfl rfl ?_
  refine St.r (R.assign rfl) rfl rfl ?_
  refine St.nil ?_
  refine St.weak [(3, _)] ⟨rfl, trivial⟩ ?_
  refine St.then_n ?_
  refine St.go hK1 ?_
  clear hK1
  refine St.ret ?_
  refine St.ret1 Tryd.results60 rfl ?_
  exact ⟨_, rfl, by rw [List.getD_eq_getElem?_getD, hsk]; rfl, Ext.refl _⟩

theorem In_ret {xs : List Int} {v : Value} {n : Int} (w0 : World) (hv : RInts w0 v xs) : Ret Tryd.prog 14 [v, .int .i64 n] w0 fun r w' => r = .bool (xs.any fun x => decide (x = n)) ∧ Ext w0 w' := by
  obtain ⟨A, c, rfl, hc1, hc2⟩ := hv.form
  have E : Ext w0 w0 := Ext.refl w0
  refine St.enter (N := 18) Tryd.func14 rfl Tryd.ntmps14 rfl ?_
  refine St.seq fun K0 hK0 => ?_
  refine St.region ?_
  refine St.r (R.assign rfl) rfl rfl ?_
  refine St.nil ?_
  refine St.weak [(0, _), (1, _)] ⟨rfl, rfl, trivial⟩ ?_
  refine St.then_n ?_
  refine St.go hK0 ?_
  clear hK0
  refine St.seq fun K1 hK1 => ?_
  refine St.seq fun K2 hK2 => ?_
  refine St.region ?_
  refine St.r (R.assign rfl) rfl rfl ?_
  refine St.nil ?_
  refine St.weak [(0, _), (1, _), (5, _)] ⟨rfl, rfl, rfl, trivial⟩ ?_
  refine St.then_n ?_
  refine St.go hK2 ?_
  clear hK2
  refine St.block ?_
  refine St.loop (fun (k : Nat) => [(0, .slice A xs.length c), (1, .int .i64 n), (5, .int .i64 (k : Int))])
      (fun (k : Nat) w => k ≤ xs.length ∧ Ext w0 w ∧ ∀ y ∈ xs.take k, ¬ y = n)
      (fun (k : Nat) => xs.length - k) 0 ⟨rfl, rfl, rfl, trivial⟩ ?_ ?_
  · exact ⟨Nat.zero_le _, E, by simp⟩
  rintro k w ⟨hk, E, hall⟩
  show St _ _ [(0, .slice A xs.length c), (1, .int .i64 n), (5, .int .i64 (k : Int))] _ _
  refine St.seq fun K3 hK3 => ?_
  refine St.seq fun K4 hK4 => ?_
  refine St.region ?_
  refine St.r (R.move rfl) rfl rfl ?_
  refine St.r (R.move rfl) rfl rfl ?_
  refine St.r (R.lenSl Tryd.underlying30 rfl) rfl rfl ?_
  refine St.r (R.lss rfl rfl) rfl rfl ?_
  refine St.nil ?_
  refine St.weak [(0, _), (1, _), (5, _), (9, _)] ⟨rfl, rfl, rfl, rfl, trivial⟩ ?_
  refine St.then_n ?_
  refine St.go hK4 ?_
  clear hK4
  refine St.condD rfl (fun h9 => ?_) (fun h9 => ?_)
  ·
    obtain ⟨x, hx⟩ := get_of_lt (xs := xs) (k := k) (by omega)
    obtain ⟨b, o, c', heq, -, -, hcell⟩ := hv.at (by omega)
    cases heq
    obtain ⟨cs, -, hx', rfl⟩ := hcell k x hx
    refine St.skip ?_
    refine St.then_n ?_
    refine St.go hK3 ?_
    clear hK3
    refine St.seq fun K5 hK5 => ?_
    refine St.block ?_
    refine St.seq fun K6 hK6 => ?_
    refine St.region ?_
    refine St.r (R.move rfl) rfl rfl ?_
    refine St.r (R.move rfl) rfl rfl ?_
    refine St.r (R.indexS _ Tryd.underlying30 Tryd.sizeOf3 rfl rfl rfl (by omega)) rfl rfl ?_
    refine St.r (R.load1 Tryd.isAgg3 rfl ((E.cells hx').at 0 rfl)) rfl rfl ?_
    refine St.r (R.move rfl) rfl rfl ?_
    refine St.r (R.eql rfl rfl) rfl rfl ?_
    refine St.nil ?_
    refine St.weak [(0, _), (1, _), (5, _), (17, _)] ⟨rfl, rfl, rfl, rfl, trivial⟩ ?_
    refine St.then_n ?_
    refine St.go hK6 ?_
    clear hK6
    refine St.condD rfl (fun h17 => ?_) (fun h17 => ?_)
    ·
      refine St.seq fun K7 hK7 => ?_
      refine St.region ?_
      refine St.r (R.assign rfl) rfl rfl ?_
      refine St.nil ?_
      refine St.weak [(4, _)] ⟨rfl, trivial⟩ ?_
      refine St.then_n ?_
      refine St.go hK7 ?_
      clear hK7
      refine St.ret ?_
      refine St.in_r ?_
      refine St.then_r ?_
      refine St.then_r ?_
      refine St.in_r ?_
      refine St.then_r ?_
      refine St.ret1 Tryd.results14 rfl ?_
      exact ⟨_, rfl, by rw [List.any_eq_true.2 ⟨x, List.mem_of_getElem? hx, decide_eq_true h17⟩], E⟩
    ·
      refine St.skip ?_
      refine St.in_n ?_
      refine St.then_n ?_
      refine St.go hK5 ?_
      clear hK5
      refine St.region ?_
      refine St.r (R.move rfl) rfl rfl ?_
      refine St.r (R.add rfl rfl (by omega) (by omega)) rfl rfl ?_
      refine St.r (R.assign rfl) rfl rfl ?_
      refine St.nil ?_
      refine St.weak [(0, _), (1, _), (5, _)] ⟨rfl, rfl, rfl, trivial⟩ ?_
      refine St.then_n ?_
      refine St.round (k + 1) ⟨rfl, rfl, rfl, trivial⟩ ?_ ?_
      · refine ⟨by omega, E, ?_⟩
        rw [take_snoc hx]
        intro y hy
        rcases List.mem_append.1 hy with hy | hy
        · exact hall y hy
        · rw [List.mem_singleton] at hy; subst hy; exact h17
      · omega
  ·
    refine St.exit ?_
    refine St.then_x ?_
    refine St.then_x ?_
    refine St.in_x ?_
    refine St.then_n ?_
    refine St.go hK1 ?_
    clear hK1
    refine St.seq fun K8 hK8 => ?_
    refine St.region ?_
    refine St.r (R.assign rfl) rfl rfl ?_
    refine St.nil ?_
    refine St.weak [(4, _)] ⟨rfl, trivial⟩ ?_
    refine St.then_n ?_
    refine St.go hK8 ?_
    clear hK8
    refine St.ret ?_
    refine St.ret1 Tryd.results14 rfl ?_
    rw [List.take_of_length_le (by omega)] at hall
    exact ⟨_, rfl, by rw [List.any_eq_false.2 (fun x hx => by rw [decide_eq_false (hall x hx)]; simp)], E⟩

theorem Ints_ret {xs ys : List Int} {v u : Value} (w0 : World) (hv : RInts w0 v xs) (hu : RInts w0 u ys) : Ret Tryd.prog 12 [v, u] w0 fun r w' => r = .bool (decide (xs = ys)) ∧ Ext w0 w' := by
  obtain ⟨A, c, rfl, hc1, hc2⟩ := hv.form
  obtain ⟨A2, c2, rfl, hd1, hd2⟩ := hu.form
  have E : Ext w0 w0 := Ext.refl w0
  refine St.enter (N := 26) Tryd.func12 rfl Tryd.ntmps12 rfl ?_
  refine St.seq fun K0 hK0 => ?_
  refine St.region ?_
  refine St.r (R.assign rfl) rfl rfl ?_
  refine St.nil ?_
  refine St.weak [(0, _), (1, _)] ⟨rfl, rfl, trivial⟩ ?_
  refine St.then_n ?_
  refine St.go hK0 ?_
  clear hK0
  refine St.seq fun K1 hK1 => ?_
  refine St.seq fun K2 hK2 => ?_
  refine St.region ?_
  refine St.r (R.move rfl) rfl rfl ?_
  refine St.r (R.lenSl Tryd.underlying30 rfl) rfl rfl ?_
  refine St.r (R.move rfl) rfl rfl ?_
  refine St.r (R.lenSl Tryd.underlying30 rfl) rfl rfl ?_
  refine St.r (R.neq rfl rfl) rfl rfl ?_
  refine St.nil ?_
  refine St.weak [(0, _), (1, _), (10, _)] ⟨rfl, rfl, rfl, trivial⟩ ?_
  refine St.then_n ?_
  refine St.go hK2 ?_
  clear hK2
  refine St.condD rfl (fun h10 => ?_) (fun h10 => ?_)
  ·
    refine St.seq fun K3 hK3 => ?_
    refine St.region ?_
    refine St.r (R.assign rfl) rfl rfl ?_
    refine St.nil ?_
    refine St.weak [(4, _)] ⟨rfl, trivial⟩ ?_
    refine St.then_n ?_
    refine St.go hK3 ?_
    clear hK3
    refine St.ret ?_
    refine St.then_r ?_
    refine St.ret1 Tryd.results12 rfl ?_
    exact ⟨_, rfl, by rw [decide_eq_false (fun e => h10 (by rw [e]))], E⟩
  ·
    refine St.skip ?_
    refine St.then_n ?_
    refine St.go hK1 ?_
    clear hK1
    refine St.seq fun K4 hK4 => ?_
    refine St.seq fun K5 hK5 => ?_
    refine St.region ?_
    refine St.r (R.assign rfl) rfl rfl ?_
    refine St.nil ?_
    refine St.weak [(0, _), (1, _), (5, _)] ⟨rfl, rfl, rfl, trivial⟩ ?_
    refine St.then_n ?_
    refine St.go hK5 ?_
    clear hK5
    refine St.block ?_
    refine St.loop (fun (k : Nat) => [(0, .slice A xs.length c), (1, .slice A2 ys.length c2), (5, .int .i64 (k : Int))])
        (fun (k : Nat) w => k ≤ xs.length ∧ Ext w0 w ∧ xs.take k = ys.take k)
        (fun (k : Nat) => xs.length - k) 0 ⟨rfl, rfl, rfl, trivial⟩ ?_ ?_
    · exact ⟨Nat.zero_le _, E, by simp⟩
    rintro k w ⟨hk, E, hall⟩
    show St _ _ [(0, .slice A xs.length c), (1, .slice A2 ys.length c2), (5, .int .i64 (k : Int))] _ _
    refine St.seq fun K6 hK6 => ?_
    refine St.seq fun K7 hK7 => ?_
    refine St.region ?_
    refine St.r (R.move rfl) rfl rfl ?_
    refine St.r (R.move rfl) rfl rfl ?_
    refine St.r (R.lenSl Tryd.underlying30 rfl) rfl rfl ?_
    refine St.r (R.lss rfl rfl) rfl rfl ?_
    refine St.nil ?_
    refine St.weak [(0, _), (1, _), (5, _), (14, _)] ⟨rfl, rfl, rfl, rfl, trivial⟩ ?_
    refine St.then_n ?_
    refine St.go hK7 ?_
    clear hK7
    refine St.condD rfl (fun h14 => ?_) (fun h14 => ?_)
    ·
      obtain ⟨x, hx⟩ := get_of_lt (xs := xs) (k := k) (by omega)
      obtain ⟨y, hy⟩ := get_of_lt (xs := ys) (k := k) (by omega)
      obtain ⟨b, o, c', heq, -, -, hcell⟩ := hv.at (by omega)
      cases heq
      obtain ⟨cs, -, hx', rfl⟩ := hcell k x hx
      obtain ⟨b2, o2, c2', heq, -, -, hcell2⟩ := hu.at (by omega)
      cases heq
      obtain ⟨cs2, -, hy', rfl⟩ := hcell2 k y hy
      refine St.skip ?_
      refine St.then_n ?_
      refine St.go hK6 ?_
      clear hK6
      refine St.seq fun K8 hK8 => ?_
      refine St.block ?_
      refine St.seq fun K9 hK9 => ?_
      refine St.weak [(0, _), (1, _), (5, _)] ⟨rfl, rfl, rfl, trivial⟩ ?_
      refine St.draw mixed rfl rfl rfl rfl ?_
      replace E := Ext.trans E (Ext.drew _)
      refine ⟨_, OpOk.r (R.move rfl) rfl, ?_⟩
      refine ⟨_, OpOk.r (R.move rfl) rfl, ?_⟩
      refine ⟨_, OpOk.r (R.indexS _ Tryd.underlying30 Tryd.sizeOf3 rfl rfl rfl (by omega)) rfl, ?_⟩
      refine ⟨_, OpOk.r (R.load1 Tryd.isAgg3 rfl ((E.cells hx').at 0 rfl)) rfl, ?_⟩
      refine ⟨_, OpOk.r (R.move rfl) rfl, ?_⟩
      refine ⟨_, OpOk.r (R.move rfl) rfl, ?_⟩
      refine ⟨_, OpOk.r (R.indexS _ Tryd.underlying30 Tryd.sizeOf3 rfl rfl rfl (by omega)) rfl, ?_⟩
      refine ⟨_, OpOk.r (R.load1 Tryd.isAgg3 rfl ((E.cells hy').at 0 rfl)) rfl, ?_⟩
      refine ⟨_, OpOk.r (R.neq rfl rfl) rfl, ?_⟩
      show St _ _ _ _ _
      refine St.weak [(0, _), (1, _), (5, _), (25, _)] ⟨rfl, rfl, rfl, rfl, trivial⟩ ?_
      refine St.then_n ?_
      refine St.go hK9 ?_
      clear hK9
      refine St.condD rfl (fun h25 => ?_) (fun h25 => ?_)
      ·
        refine St.seq fun K10 hK10 => ?_
        refine St.region ?_
        refine St.r (R.assign rfl) rfl rfl ?_
        refine St.nil ?_
        refine St.weak [(4, _)] ⟨rfl, trivial⟩ ?_
        refine St.then_n ?_
        refine St.go hK10 ?_
        clear hK10
        refine St.ret ?_
        refine St.in_r ?_
        refine St.then_r ?_
        refine St.then_r ?_
        refine St.in_r ?_
        refine St.then_r ?_
        refine St.ret1 Tryd.results12 rfl ?_
        exact ⟨_, rfl, by rw [decide_eq_false (fun e => h25 (by subst e; rw [hx] at hy; injection hy))], E⟩
      ·
        refine St.skip ?_
        refine St.in_n ?_
        refine St.then_n ?_
        refine St.go hK8 ?_
        clear hK8
        refine St.region ?_
        refine St.r (R.move rfl) rfl rfl ?_
        refine St.r (R.add rfl rfl (by omega) (by omega)) rfl rfl ?_
        refine St.r (R.assign rfl) rfl rfl ?_
        refine St.nil ?_
        refine St.weak [(0, _), (1, _), (5, _)] ⟨rfl, rfl, rfl, trivial⟩ ?_
        refine St.then_n ?_
        refine St.round (k + 1) ⟨rfl, rfl, rfl, trivial⟩ ?_ ?_
        · refine ⟨by omega, E, ?_⟩
          rw [take_snoc hx, take_snoc hy, hall]
          congr 2
          exact Decidable.not_not.1 h25
        · omega
    ·
      refine St.exit ?_
      refine St.then_x ?_
      refine St.then_x ?_
      refine St.in_x ?_
      refine St.then_n ?_
      refine St.go hK4 ?_
      clear hK4
      refine St.seq fun K11 hK11 => ?_
      refine St.region ?_
      refine St.r (R.assign rfl) rfl rfl ?_
      refine St.nil ?_
      refine St.weak [(4, _)] ⟨rfl, trivial⟩ ?_
      refine St.then_n ?_
      refine St.go hK11 ?_
      clear hK11
      refine St.ret ?_
      refine St.ret1 Tryd.results12 rfl ?_
      rw [List.take_of_length_le (by omega), List.take_of_length_le (by omega)] at hall
      exact ⟨_, rfl, by rw [decide_eq_true hall], E⟩

theorem Base_ret {ls : List Commit} {v : Value} {a b : Nat} (ha : a < ls.length) (hb : b < ls.length) (h60 : ls.length ≤ 60) (hel : Elder ls) (w0 : World) (hv : RCommits w0 v ls) :
    Ret Tryd.prog 41 [v, .int .i64 (a : Int), .int .i64 (b : Int)] w0 fun r w' => Own encInt 1 w0.heap.size 3 w' r (baseOf ls a b) ∧ Ext w0 w' := by
  obtain ⟨A, c, rfl, hc1, hc2⟩ := hv.form
  have E : Ext w0 w0 := Ext.refl w0
  refine St.enter (N := 73) Tryd.func41 rfl Tryd.ntmps41 rfl ?_
  refine St.seq fun K0 hK0 => ?_
  refine St.region ?_
  refine St.r (R.assign rfl) rfl rfl ?_
  refine St.nil ?_
  refine St.weak [(0, _), (1, _), (2, _)] ⟨rfl, rfl, rfl, trivial⟩ ?_
  refine St.then_n ?_
  refine St.go hK0 ?_
  clear hK0
  refine St.seq fun K1 hK1 => ?_
  refine St.region ?_
  refine St.r (R.move rfl) rfl rfl ?_
  refine St.r (R.move rfl) rfl rfl ?_
  refine St.call rfl rfl ent38 (Of_ret ha h60 hel _ (hv.ext RCommit.firm E)) rfl ?_
  rintro r18 w18 ⟨g18, rfl, e18, hg18, k18⟩
  replace E := Ext.trans E e18
  have l18 := k18.lt
  have z18 := e18.size
  refine St.r (R.move rfl) rfl rfl ?_
  refine St.r (R.move rfl) rfl rfl ?_
  refine St.call rfl rfl ent38 (Of_ret hb h60 hel _ (hv.ext RCommit.firm E)) rfl ?_
  rintro r21 w21 ⟨g21, rfl, e21, hg21, k21⟩
  replace E := Ext.trans E e21
  replace k18 := k18.ext e21
  have l21 := k21.lt
  have z21 := e21.size
  refine St.r (R.assign rfl) rfl rfl ?_
  refine St.r (R.assign rfl) rfl rfl ?_
  refine St.nil ?_
  refine St.weak [(0, _), (7, _), (8, _)] ⟨rfl, rfl, rfl, trivial⟩ ?_
  refine St.then_n ?_
  refine St.go hK1 ?_
  clear hK1
  refine St.seq fun K2 hK2 => ?_
  refine St.region ?_
  refine St.alloc Tryd.zeroValue115 rfl ?_
  intro w9 b9 hb9 hs9 e9 k9
  have qE9 := E.size
  replace E := Ext.trans E e9
  replace k18 := k18.ext e9
  replace k21 := k21.ext e9
  refine St.alloc Tryd.zeroValue115 rfl ?_
  intro w10 b10 hb10 hs10 e10 k10
  have qE10 := E.size
  replace E := Ext.trans E e10
  replace k18 := k18.ext e10
  replace k21 := k21.ext e10
  replace k9 := k9.ext e10
  have kb : Blk w10 b9 115 (bls zeros60) := k9
  have kc : Blk w10 b10 115 (bls zeros60) := k10
  clear k9 k10
  refine St.nil ?_
  refine St.weak [(0, _), (7, _), (8, _), (9, _), (10, _)] ⟨rfl, rfl, rfl, rfl, rfl, trivial⟩ ?_
  refine St.then_n ?_
  refine St.go hK2 ?_
  clear hK2
  refine St.seq fun K3 hK3 => ?_
  refine St.seq fun K4 hK4 => ?_
  refine St.region ?_
  refine St.r (R.move rfl) rfl rfl ?_
  refine St.nil ?_
  refine St.weak [(0, _), (7, _), (8, _), (9, _), (10, _), (22, _)] ⟨rfl, rfl, rfl, rfl, rfl, rfl, trivial⟩ ?_
  refine St.then_n ?_
  refine St.go hK4 ?_
  clear hK4
  refine St.block ?_
  refine St.loop (fun (x : Nat × List Bool) => match x with | (k, s) => [(0, .slice A ls.length c), (7, .pointer (some ⟨g18, 0, none⟩)), (8, .pointer (some ⟨g21, 0, none⟩)), (9, .pointer (some ⟨b9, 0, none⟩)), (10, .pointer (some ⟨b10, 0, none⟩)), (22, .int .i64 (k : Int))])
      (fun (x : Nat × List Bool) w => match x with | (k, s) => k ≤ 60 ∧ Ext w0 w ∧ Blk w g18 115 (bls (ofSet ls a)) ∧ Blk w g21 115 (bls (ofSet ls b)) ∧ Blk w b9 115 (bls s) ∧ Blk w b10 115 (bls zeros60) ∧ Mid (fBoth (ofSet ls a) (ofSet ls b)) zeros60 k s ∧ w10.heap.size ≤ w.heap.size)
      (fun (x : Nat × List Bool) => match x with | (k, s) => 60 - k) (0, zeros60) ⟨rfl, rfl, rfl, rfl, rfl, rfl, trivial⟩ ?_ ?_
  · exact ⟨by omega, E, k18, k21, kb, kc, Mid.start _ (by simp [zeros60]), Nat.le_refl _⟩
  rintro ⟨k, s⟩ w ⟨hk, E, kx, ky, kb, kc, hM, hsz⟩
  show St _ _ [(0, .slice A ls.length c), (7, .pointer (some ⟨g18, 0, none⟩)), (8, .pointer (some ⟨g21, 0, none⟩)), (9, .pointer (some ⟨b9, 0, none⟩)), (10, .pointer (some ⟨b10, 0, none⟩)), (22, .int .i64 (k : Int))] _ _
  refine St.seq fun K5 hK5 => ?_
  refine St.region ?_
  refine St.r (R.lss rfl rfl) rfl rfl ?_
  refine St.nil ?_
  refine St.weak [(0, _), (7, _), (8, _), (9, _), (10, _), (22, _), (23, _)] ⟨rfl, rfl, rfl, rfl, rfl, rfl, rfl, trivial⟩ ?_
  refine St.then_n ?_
  refine St.go hK5 ?_
  clear hK5
  refine St.seq fun K6 hK6 => ?_
  refine St.condD rfl (fun h23 => ?_) (fun h23 => ?_)
  ·
    obtain ⟨x1, hx1⟩ := get_of_lt (xs := ofSet ls a) (k := k) (by rw [ofSet_length]; omega)
    obtain ⟨y1, hy1⟩ := get_of_lt (xs := ofSet ls b) (k := k) (by rw [ofSet_length]; omega)
    refine St.skip ?_
    refine St.then_n ?_
    refine St.go hK6 ?_
    clear hK6
    refine St.seq fun K7 hK7 => ?_
    refine St.block ?_
    refine St.seq fun K8 hK8 => ?_
    refine St.region ?_
    refine St.r (R.move rfl) rfl rfl ?_
    refine St.r (R.assign rfl) rfl rfl ?_
    refine St.nil ?_
    refine St.weak [(0, _), (7, _), (8, _), (9, _), (10, _), (11, _), (22, _)] ⟨rfl, rfl, rfl, rfl, rfl, rfl, rfl, trivial⟩ ?_
    refine St.then_n ?_
    refine St.go hK8 ?_
    clear hK8
    rcases Bool.eq_false_or_eq_true x1 with hb31 | hb31
    ·
      refine St.region ?_
      refine St.r (R.move rfl) rfl rfl ?_
      refine St.r (R.move rfl) rfl rfl ?_
      refine St.r (R.move rfl) rfl rfl ?_
      refine St.r (R.nilOk rfl) rfl rfl ?_
      refine St.r (R.indexA _ Tryd.underlying115 Tryd.sizeOf4 rfl rfl rfl (by omega)) rfl rfl ?_
      refine St.r (R.load1 Tryd.isAgg4 rfl (kx.cells.at (k * 1) (by rw [Nat.mul_one]; exact bls_get hx1))) rfl rfl ?_
      refine St.r (Runs.lit (c := true) (R.move rfl) (hb31)) rfl rfl ?_
      refine St.take (dg := 31) rfl rfl ?_ rfl
      refine St.r (R.move rfl) rfl rfl ?_
      refine St.take (dg := 31) rfl rfl ?_ rfl
      refine St.r (R.move rfl) rfl rfl ?_
      refine St.take (dg := 31) rfl rfl ?_ rfl
      refine St.r (R.nilOk rfl) rfl rfl ?_
      refine St.take (dg := 31) rfl rfl ?_ rfl
      refine St.r (R.indexA _ Tryd.underlying115 Tryd.sizeOf4 rfl rfl rfl (by omega)) rfl rfl ?_
      refine St.take (dg := 31) rfl rfl ?_ rfl
      refine St.r (R.load1 Tryd.isAgg4 rfl (ky.cells.at (k * 1) (by rw [Nat.mul_one]; exact bls_get hy1))) rfl rfl ?_
      refine St.r (R.pickT rfl rfl) rfl rfl ?_
      refine St.r (R.indexA _ Tryd.underlying115 Tryd.sizeOf4 rfl rfl rfl (by omega)) rfl rfl ?_
      refine St.store Tryd.sizeOf4 rfl rfl kb rfl (by simp only [bls_length, hM.1]; simp [Value.cells]; omega) (by simp [Value.cells, Value.oneCell']) ?_
      intro ws0 ks0 gs0 zs0
      replace E := Ext.then E gs0 (by intro j hj; omega)
      replace kx := kx.chg gs0 (by omega)
      replace ky := ky.chg gs0 (by omega)
      replace kc := kc.chg gs0 (by omega)
      clear kb; have kb := ks0; clear ks0
      refine St.nil ?_
      refine St.weak [(0, _), (7, _), (8, _), (9, _), (10, _), (22, _)] ⟨rfl, rfl, rfl, rfl, rfl, rfl, trivial⟩ ?_
      refine St.in_n ?_
      refine St.then_n ?_
      refine St.go hK7 ?_
      clear hK7
      refine St.region ?_
      refine St.r (R.add rfl rfl (by omega) (by omega)) rfl rfl ?_
      refine St.r (R.move rfl) rfl rfl ?_
      refine St.nil ?_
      refine St.weak [(0, _), (7, _), (8, _), (9, _), (10, _), (22, _)] ⟨rfl, rfl, rfl, rfl, rfl, rfl, trivial⟩ ?_
      refine St.then_n ?_
      refine St.round (k + 1, s.set k (fBoth (ofSet ls a) (ofSet ls b) k)) ⟨rfl, rfl, rfl, rfl, rfl, rfl, trivial⟩ ?_ ?_
      · try dsimp only
        refine ⟨by omega, E, kx, ky, ?_, kc, hM.step (by omega), by omega⟩
        have h := kb
        simp only [Nat.zero_add, Nat.mul_one] at h
        have e : fBoth (ofSet ls a) (ofSet ls b) k = y1 := by unfold fBoth; rw [List.getD_eq_getElem?_getD, List.getD_eq_getElem?_getD, hx1, hy1, hb31]; rfl
        rw [← bls_set, e]
        exact h
      · try dsimp only
        omega
    ·
      refine St.region ?_
      refine St.r (R.move rfl) rfl rfl ?_
      refine St.r (R.move rfl) rfl rfl ?_
      refine St.r (R.move rfl) rfl rfl ?_
      refine St.r (R.nilOk rfl) rfl rfl ?_
      refine St.r (R.indexA _ Tryd.underlying115 Tryd.sizeOf4 rfl rfl rfl (by omega)) rfl rfl ?_
      refine St.r (R.load1 Tryd.isAgg4 rfl (kx.cells.at (k * 1) (by rw [Nat.mul_one]; exact bls_get hx1))) rfl rfl ?_
      refine St.r (Runs.lit (c := false) (R.move rfl) (hb31)) rfl rfl ?_
      refine St.pass (dg := 31) rfl rfl rfl rfl rfl ?_
      refine St.pass (dg := 31) rfl rfl rfl rfl rfl ?_
      refine St.pass (dg := 31) rfl rfl rfl rfl rfl ?_
      refine St.pass (dg := 31) rfl rfl rfl rfl rfl ?_
      refine St.pass (dg := 31) rfl rfl rfl rfl rfl ?_
      refine St.r (R.pickF rfl rfl) rfl rfl ?_
      refine St.r (R.indexA _ Tryd.underlying115 Tryd.sizeOf4 rfl rfl rfl (by omega)) rfl rfl ?_
      refine St.store Tryd.sizeOf4 rfl rfl kb rfl (by simp only [bls_length, hM.1]; simp [Value.cells]; omega) (by simp [Value.cells, Value.oneCell']) ?_
      intro ws0 ks0 gs0 zs0
      replace E := Ext.then E gs0 (by intro j hj; omega)
      replace kx := kx.chg gs0 (by omega)
      replace ky := ky.chg gs0 (by omega)
      replace kc := kc.chg gs0 (by omega)
      clear kb; have kb := ks0; clear ks0
      refine St.nil ?_
      refine St.weak [(0, _), (7, _), (8, _), (9, _), (10, _), (22, _)] ⟨rfl, rfl, rfl, rfl, rfl, rfl, trivial⟩ ?_
      refine St.in_n ?_
      refine St.then_n ?_
      refine St.go hK7 ?_
      clear hK7
      refine St.region ?_
      refine St.r (R.add rfl rfl (by omega) (by omega)) rfl rfl ?_
      refine St.r (R.move rfl) rfl rfl ?_
      refine St.nil ?_
      refine St.weak [(0, _), (7, _), (8, _), (9, _), (10, _), (22, _)] ⟨rfl, rfl, rfl, rfl, rfl, rfl, trivial⟩ ?_
      refine St.then_n ?_
      refine St.round (k + 1, s.set k (fBoth (ofSet ls a) (ofSet ls b) k)) ⟨rfl, rfl, rfl, rfl, rfl, rfl, trivial⟩ ?_ ?_
      · try dsimp only
        refine ⟨by omega, E, kx, ky, ?_, kc, hM.step (by omega), by omega⟩
        have h := kb
        simp only [Nat.zero_add, Nat.mul_one] at h
        have e : fBoth (ofSet ls a) (ofSet ls b) k = false := by unfold fBoth; rw [List.getD_eq_getElem?_getD, List.getD_eq_getElem?_getD, hx1, hb31]; rfl
        rw [← bls_set, e]
        exact h
      · try dsimp only
        omega
  ·
    obtain rfl : k = 60 := by omega
    have hS : s = bothOf (ofSet ls a) (ofSet ls b) := hM.all
    subst hS
    refine St.exit ?_
    refine St.then_x ?_
    refine St.then_x ?_
    refine St.in_x ?_
    refine St.then_n ?_
    refine St.go hK3 ?_
    clear hK3
    refine St.seq fun K9 hK9 => ?_
    refine St.seq fun K10 hK10 => ?_
    refine St.region ?_
    refine St.call rfl rfl ent39 (list_ret (bothOf_length _ _) _ kb) rfl ?_
    rintro r40 w40 ⟨o40, e40⟩
    replace E := Ext.trans E e40
    replace kx := kx.ext e40
    replace ky := ky.ext e40
    replace kb := kb.ext e40
    replace kc := kc.ext e40
    have z40 := e40.size
    replace o40 := o40.lower (base' := w10.heap.size) (by omega)
    have hlt := fun x (hx : x ∈ setList (bothOf (ofSet ls a) (ofSet ls b))) => both_lt hel h60 ha hx
    have hl60 := setList_length (bothOf_length (ofSet ls a) (ofSet ls b))
    obtain ⟨bs, hbs⟩ : ∃ bs, bs = setList (bothOf (ofSet ls a) (ofSet ls b)) := ⟨_, rfl⟩
    rw [← hbs] at o40 hlt hl60
    obtain ⟨A40, c40, rfl, h40a, h40b⟩ := o40.form
    refine St.r (R.lenSl Tryd.underlying30 rfl) rfl rfl ?_
    refine St.r (R.move rfl) rfl rfl ?_
    refine St.nil ?_
    refine St.weak [(0, _), (9, _), (10, _), (40, _), (41, _), (42, _)] ⟨rfl, rfl, rfl, rfl, rfl, rfl, trivial⟩ ?_
    refine St.then_n ?_
    refine St.go hK10 ?_
    clear hK10
    refine St.block ?_
    refine St.loop (fun (i : Nat) => [(0, .slice A ls.length c), (9, .pointer (some ⟨b9, 0, none⟩)), (10, .pointer (some ⟨b10, 0, none⟩)), (40, .slice A40 bs.length c40), (41, .int .i64 (bs.length : Int)), (42, .int .i64 (i : Int))])
        (fun (i : Nat) w => i ≤ bs.length ∧ Ext w0 w ∧ Blk w b9 115 (bls (bothOf (ofSet ls a) (ofSet ls b))) ∧ Blk w b10 115 (bls (belowOf ls (bs.take i))) ∧ Own encInt 1 w10.heap.size 3 w (.slice A40 bs.length c40) bs)
        (fun (i : Nat) => bs.length - i) 0 ⟨rfl, rfl, rfl, rfl, rfl, rfl, trivial⟩ ?_ ?_
    · exact ⟨Nat.zero_le _, E, kb, kc, o40⟩
    rintro i w ⟨hi, E, kb, kc, o40⟩
    show St _ _ [(0, .slice A ls.length c), (9, .pointer (some ⟨b9, 0, none⟩)), (10, .pointer (some ⟨b10, 0, none⟩)), (40, .slice A40 bs.length c40), (41, .int .i64 (bs.length : Int)), (42, .int .i64 (i : Int))] _ _
    refine St.seq fun K11 hK11 => ?_
    refine St.region ?_
    refine St.r (R.lss rfl rfl) rfl rfl ?_
    refine St.nil ?_
    refine St.weak [(0, _), (9, _), (10, _), (40, _), (41, _), (42, _), (43, _)] ⟨rfl, rfl, rfl, rfl, rfl, rfl, rfl, trivial⟩ ?_
    refine St.then_n ?_
    refine St.go hK11 ?_
    clear hK11
    refine St.seq fun K12 hK12 => ?_
    refine St.condD rfl (fun h43 => ?_) (fun h43 => ?_)
    ·
      obtain ⟨x, hx⟩ := get_of_lt (xs := bs) (k := i) (by omega)
      obtain ⟨xi, rfl, hxi⟩ := hlt x (List.mem_of_getElem? hx)
      obtain ⟨bb, oo, cc, heq, -, -, hcell⟩ := (o40.reads encInt_len).at (by omega)
      cases heq
      obtain ⟨cs, -, hx', rfl⟩ := hcell i _ hx
      refine St.skip ?_
      refine St.then_n ?_
      refine St.go hK12 ?_
      clear hK12
      refine St.seq fun K13 hK13 => ?_
      refine St.block ?_
      refine St.seq fun K14 hK14 => ?_
      refine St.region ?_
      refine St.r (R.indexS _ Tryd.underlying30 Tryd.sizeOf3 rfl rfl rfl (by omega)) rfl rfl ?_
      refine St.r (R.load1 Tryd.isAgg3 rfl (hx'.at 0 rfl)) rfl rfl ?_
      refine St.r (R.assign rfl) rfl rfl ?_
      refine St.nil ?_
      refine St.weak [(0, _), (9, _), (10, _), (13, _), (40, _), (41, _), (42, _)] ⟨rfl, rfl, rfl, rfl, rfl, rfl, rfl, trivial⟩ ?_
      refine St.then_n ?_
      refine St.go hK14 ?_
      clear hK14
      refine St.seq fun K15 hK15 => ?_
      refine St.region ?_
      refine St.r (R.move rfl) rfl rfl ?_
      refine St.r (R.move rfl) rfl rfl ?_
      have l10 := kc.lt
      refine St.call rfl rfl ent38 (Of_ret hxi h60 hel _ (hv.ext RCommit.firm E)) rfl ?_
      rintro r48 w48 ⟨g48, rfl, e48, hg48, k48⟩
      replace E := Ext.trans E e48
      replace kb := kb.ext e48
      replace kc := kc.ext e48
      replace o40 := o40.ext e48
      have l48 := k48.lt
      have z48 := e48.size
      refine St.r (R.move rfl) rfl rfl ?_
      refine St.nil ?_
      refine St.weak [(0, _), (9, _), (10, _), (13, _), (40, _), (41, _), (42, _), (48, _), (49, _)] ⟨rfl, rfl, rfl, rfl, rfl, rfl, rfl, rfl, rfl, trivial⟩ ?_
      refine St.then_n ?_
      refine St.go hK15 ?_
      clear hK15
      refine St.block ?_
      refine St.loop (fun (x : Nat × List Bool) => match x with | (k, s) => [(0, .slice A ls.length c), (9, .pointer (some ⟨b9, 0, none⟩)), (10, .pointer (some ⟨b10, 0, none⟩)), (13, .int .i64 (xi : Int)), (40, .slice (some ⟨bb, oo, none⟩) bs.length c40), (41, .int .i64 (bs.length : Int)), (42, .int .i64 (i : Int)), (48, .pointer (some ⟨g48, 0, none⟩)), (49, .int .i64 (k : Int))])
          (fun (x : Nat × List Bool) w => match x with | (k, s) => k ≤ 60 ∧ Ext w0 w ∧ Blk w b9 115 (bls (bothOf (ofSet ls a) (ofSet ls b))) ∧ Blk w b10 115 (bls s) ∧ Blk w g48 115 (bls (ofSet ls xi)) ∧ Own encInt 1 w10.heap.size 3 w (.slice (some ⟨bb, oo, none⟩) bs.length c40) bs ∧ Mid (fBelow ls (belowOf ls (bs.take i)) xi) (belowOf ls (bs.take i)) k s)
          (fun (x : Nat × List Bool) => match x with | (k, s) => 60 - k) (0, belowOf ls (bs.take i)) ⟨rfl, rfl, rfl, rfl, rfl, rfl, rfl, rfl, rfl, trivial⟩ ?_ ?_
      · exact ⟨by omega, E, kb, kc, k48, o40, Mid.start _ (belowOf_length _ _)⟩
      rintro ⟨k, s⟩ w ⟨hk, E, kb, kc, kd, o40, hM2⟩
      show St _ _ [(0, .slice A ls.length c), (9, .pointer (some ⟨b9, 0, none⟩)), (10, .pointer (some ⟨b10, 0, none⟩)), (13, .int .i64 (xi : Int)), (40, .slice (some ⟨bb, oo, none⟩) bs.length c40), (41, .int .i64 (bs.length : Int)), (42, .int .i64 (i : Int)), (48, .pointer (some ⟨g48, 0, none⟩)), (49, .int .i64 (k : Int))] _ _
      refine St.seq fun K16 hK16 => ?_
      refine St.region ?_
      refine St.r (R.lss rfl rfl) rfl rfl ?_
      refine St.nil ?_
      refine St.weak [(0, _), (9, _), (10, _), (13, _), (40, _), (41, _), (42, _), (48, _), (49, _), (50, _)] ⟨rfl, rfl, rfl, rfl, rfl, rfl, rfl, rfl, rfl, rfl, trivial⟩ ?_
      refine St.then_n ?_
      refine St.go hK16 ?_
      clear hK16
      refine St.seq fun K17 hK17 => ?_
      refine St.condD rfl (fun h50 => ?_) (fun h50 => ?_)
      ·
        obtain ⟨bi, hbi⟩ := get_of_lt (xs := ofSet ls xi) (k := k) (by rw [ofSet_length]; omega)
        obtain ⟨bo, hbs2⟩ := get_of_lt (xs := s) (k := k) (by rw [hM2.1]; omega)
        have hbo : (belowOf ls (bs.take i))[k]? = some bo := by rw [← hM2.2.2 k (Nat.le_refl _)]; exact hbs2
        refine St.skip ?_
        refine St.then_n ?_
        refine St.go hK17 ?_
        clear hK17
        refine St.seq fun K18 hK18 => ?_
        refine St.block ?_
        refine St.seq fun K19 hK19 => ?_
        refine St.weak [(0, _), (9, _), (10, _), (13, _), (40, _), (41, _), (42, _), (48, _), (49, _)] ⟨rfl, rfl, rfl, rfl, rfl, rfl, rfl, rfl, rfl, trivial⟩ ?_
        refine St.draw mixed rfl rfl rfl rfl ?_
        replace E := Ext.trans E (Ext.drew _)
        replace kb := kb.ext (Ext.drew _)
        replace kc := kc.ext (Ext.drew _)
        replace kd := kd.ext (Ext.drew _)
        replace o40 := o40.ext (Ext.drew _)
        refine ⟨_, OpOk.r (R.move rfl) rfl, ?_⟩
        refine ⟨_, OpOk.r (R.nilOk rfl) rfl, ?_⟩
        refine ⟨_, OpOk.r (R.indexA _ Tryd.underlying115 Tryd.sizeOf4 rfl rfl rfl (by omega)) rfl, ?_⟩
        refine ⟨_, OpOk.r (R.load1 Tryd.isAgg4 rfl (kd.cells.at (k * 1) (by rw [Nat.mul_one]; exact bls_get hbi))) rfl, ?_⟩
        refine ⟨_, OpOk.r (R.assign rfl) rfl, ?_⟩
        refine ⟨_, OpOk.r (R.assign rfl) rfl, ?_⟩
        show St _ _ _ _ _
        refine St.weak [(0, _), (9, _), (10, _), (13, _), (14, _), (15, _), (40, _), (41, _), (42, _), (48, _), (49, _)] ⟨rfl, rfl, rfl, rfl, rfl, rfl, rfl, rfl, rfl, rfl, rfl, trivial⟩ ?_
        refine St.then_n ?_
        refine St.go hK19 ?_
        clear hK19
        rcases Bool.eq_false_or_eq_true bo with hb59 | hb59
        ·
          refine St.region ?_
          refine St.r (R.move rfl) rfl rfl ?_
          refine St.r (R.move rfl) rfl rfl ?_
          refine St.r (R.indexA _ Tryd.underlying115 Tryd.sizeOf4 rfl rfl rfl (by omega)) rfl rfl ?_
          refine St.r (R.load1 Tryd.isAgg4 rfl (kc.cells.at (k * 1) (by rw [Nat.mul_one]; exact bls_get hbs2))) rfl rfl ?_
          refine St.r (Runs.lit (c := true) (R.move rfl) (hb59)) rfl rfl ?_
          refine St.pass (dg := 59) rfl rfl rfl rfl rfl ?_
          refine St.pass (dg := 59) rfl rfl rfl rfl rfl ?_
          refine St.passU (dg := 61) rfl rfl rfl rfl ?_
          refine St.passU (dg := 61) rfl rfl rfl rfl ?_
          refine St.passU (dg := 61) rfl rfl rfl rfl ?_
          refine St.pass (dg := 59) rfl rfl rfl rfl rfl ?_
          refine St.r (R.pickT rfl rfl) rfl rfl ?_
          refine St.r (R.indexA _ Tryd.underlying115 Tryd.sizeOf4 rfl rfl rfl (by omega)) rfl rfl ?_
          refine St.store Tryd.sizeOf4 rfl rfl kc rfl (by simp only [bls_length, hM2.1]; simp [Value.cells]; omega) (by simp [Value.cells, Value.oneCell']) ?_
          intro ws1 ks1 gs1 zs1
          replace E := Ext.then E gs1 (by intro j hj; omega)
          replace kb := kb.chg gs1 (by omega)
          replace kd := kd.chg gs1 (by omega)
          replace o40 := o40.chg gs1 (by intro k hk h; have := (o40.base hk).1; omega)
          clear kc; have kc := ks1; clear ks1
          refine St.nil ?_
          refine St.weak [(0, _), (9, _), (10, _), (13, _), (40, _), (41, _), (42, _), (48, _), (49, _)] ⟨rfl, rfl, rfl, rfl, rfl, rfl, rfl, rfl, rfl, trivial⟩ ?_
          refine St.in_n ?_
          refine St.then_n ?_
          refine St.go hK18 ?_
          clear hK18
          refine St.region ?_
          refine St.r (R.add rfl rfl (by omega) (by omega)) rfl rfl ?_
          refine St.r (R.move rfl) rfl rfl ?_
          refine St.nil ?_
          refine St.weak [(0, _), (9, _), (10, _), (13, _), (40, _), (41, _), (42, _), (48, _), (49, _)] ⟨rfl, rfl, rfl, rfl, rfl, rfl, rfl, rfl, rfl, trivial⟩ ?_
          refine St.then_n ?_
          refine St.round (k + 1, s.set k (fBelow ls (belowOf ls (bs.take i)) xi k)) ⟨rfl, rfl, rfl, rfl, rfl, rfl, rfl, rfl, rfl, trivial⟩ ?_ ?_
          · try dsimp only
            refine ⟨by omega, E, kb, ?_, kd, o40, hM2.step (by omega)⟩
            have h := kc
            simp only [Nat.zero_add, Nat.mul_one] at h
            have e : fBelow ls (belowOf ls (bs.take i)) xi k = true := by unfold fBelow; rw [List.getD_eq_getElem?_getD, List.getD_eq_getElem?_getD, hbo, hbi]; simp [hb59]
            rw [← bls_set, e]
            exact h
          · try dsimp only
            omega
        ·
          rcases Bool.eq_false_or_eq_true bi with hb61 | hb61
          ·
            refine St.region ?_
            refine St.r (R.move rfl) rfl rfl ?_
            refine St.r (R.move rfl) rfl rfl ?_
            refine St.r (R.indexA _ Tryd.underlying115 Tryd.sizeOf4 rfl rfl rfl (by omega)) rfl rfl ?_
            refine St.r (R.load1 Tryd.isAgg4 rfl (kc.cells.at (k * 1) (by rw [Nat.mul_one]; exact bls_get hbs2))) rfl rfl ?_
            refine St.r (Runs.lit (c := false) (R.move rfl) (hb59)) rfl rfl ?_
            refine St.take (dg := 59) rfl rfl ?_ rfl
            refine St.r (R.move rfl) rfl rfl ?_
            refine St.take (dg := 59) rfl rfl ?_ rfl
            refine St.r (Runs.lit (c := true) (R.move rfl) (hb61)) rfl rfl ?_
            refine St.take (dg := 61) rfl rfl ?_ rfl
            refine St.r (R.move rfl) rfl rfl ?_
            refine St.take (dg := 61) rfl rfl ?_ rfl
            refine St.r (R.move rfl) rfl rfl ?_
            refine St.take (dg := 61) rfl rfl ?_ rfl
            refine St.r (R.neq rfl rfl) rfl rfl ?_
            refine St.take (dg := 59) rfl rfl ?_ rfl
            refine St.r (R.pickT rfl rfl) rfl rfl ?_
            refine St.r (R.pickF rfl rfl) rfl rfl ?_
            refine St.r (R.indexA _ Tryd.underlying115 Tryd.sizeOf4 rfl rfl rfl (by omega)) rfl rfl ?_
            refine St.store Tryd.sizeOf4 rfl rfl kc rfl (by simp only [bls_length, hM2.1]; simp [Value.cells]; omega) (by simp [Value.cells, Value.oneCell']) ?_
            intro ws1 ks1 gs1 zs1
            replace E := Ext.then E gs1 (by intro j hj; omega)
            replace kb := kb.chg gs1 (by omega)
            replace kd := kd.chg gs1 (by omega)
            replace o40 := o40.chg gs1 (by intro k hk h; have := (o40.base hk).1; omega)
            clear kc; have kc := ks1; clear ks1
            refine St.nil ?_
            refine St.weak [(0, _), (9, _), (10, _), (13, _), (40, _), (41, _), (42, _), (48, _), (49, _)] ⟨rfl, rfl, rfl, rfl, rfl, rfl, rfl, rfl, rfl, trivial⟩ ?_
            refine St.in_n ?_
            refine St.then_n ?_
            refine St.go hK18 ?_
            clear hK18
            refine St.region ?_
            refine St.r (R.add rfl rfl (by omega) (by omega)) rfl rfl ?_
            refine St.r (R.move rfl) rfl rfl ?_
            refine St.nil ?_
            refine St.weak [(0, _), (9, _), (10, _), (13, _), (40, _), (41, _), (42, _), (48, _), (49, _)] ⟨rfl, rfl, rfl, rfl, rfl, rfl, rfl, rfl, rfl, trivial⟩ ?_
            refine St.then_n ?_
            refine St.round (k + 1, s.set k (fBelow ls (belowOf ls (bs.take i)) xi k)) ⟨rfl, rfl, rfl, rfl, rfl, rfl, rfl, rfl, rfl, trivial⟩ ?_ ?_
            · try dsimp only
              refine ⟨by omega, E, kb, ?_, kd, o40, hM2.step (by omega)⟩
              have h := kc
              simp only [Nat.zero_add, Nat.mul_one] at h
              have e : fBelow ls (belowOf ls (bs.take i)) xi k = decide ((k : Int) ≠ (xi : Int)) := by unfold fBelow; rw [List.getD_eq_getElem?_getD, List.getD_eq_getElem?_getD, hbo, hbi]; simp [hb59, hb61]
              rw [← bls_set, e]
              exact h
            · try dsimp only
              omega
          ·
            refine St.region ?_
            refine St.r (R.move rfl) rfl rfl ?_
            refine St.r (R.move rfl) rfl rfl ?_
            refine St.r (R.indexA _ Tryd.underlying115 Tryd.sizeOf4 rfl rfl rfl (by omega)) rfl rfl ?_
            refine St.r (R.load1 Tryd.isAgg4 rfl (kc.cells.at (k * 1) (by rw [Nat.mul_one]; exact bls_get hbs2))) rfl rfl ?_
            refine St.r (Runs.lit (c := false) (R.move rfl) (hb59)) rfl rfl ?_
            refine St.take (dg := 59) rfl rfl ?_ rfl
            refine St.r (R.move rfl) rfl rfl ?_
            refine St.take (dg := 59) rfl rfl ?_ rfl
            refine St.r (Runs.lit (c := false) (R.move rfl) (hb61)) rfl rfl ?_
            refine St.pass (dg := 61) rfl rfl rfl rfl rfl ?_
            refine St.pass (dg := 61) rfl rfl rfl rfl rfl ?_
            refine St.pass (dg := 61) rfl rfl rfl rfl rfl ?_
            refine St.take (dg := 59) rfl rfl ?_ rfl
            refine St.r (R.pickF rfl rfl) rfl rfl ?_
            refine St.r (R.pickF rfl rfl) rfl rfl ?_
            refine St.r (R.indexA _ Tryd.underlying115 Tryd.sizeOf4 rfl rfl rfl (by omega)) rfl rfl ?_
            refine St.store Tryd.sizeOf4 rfl rfl kc rfl (by simp only [bls_length, hM2.1]; simp [Value.cells]; omega) (by simp [Value.cells, Value.oneCell']) ?_
            intro ws1 ks1 gs1 zs1
            replace E := Ext.then E gs1 (by intro j hj; omega)
            replace kb := kb.chg gs1 (by omega)
            replace kd := kd.chg gs1 (by omega)
            replace o40 := o40.chg gs1 (by intro k hk h; have := (o40.base hk).1; omega)
            clear kc; have kc := ks1; clear ks1
            refine St.nil ?_
            refine St.weak [(0, _), (9, _), (10, _), (13, _), (40, _), (41, _), (42, _), (48, _), (49, _)] ⟨rfl, rfl, rfl, rfl, rfl, rfl, rfl, rfl, rfl, trivial⟩ ?_
            refine St.in_n ?_
            refine St.then_n ?_
            refine St.go hK18 ?_
            clear hK18
            refine St.region ?_
            refine St.r (R.add rfl rfl (by omega) (by omega)) rfl rfl ?_
            refine St.r (R.move rfl) rfl rfl ?_
            refine St.nil ?_
            refine St.weak [(0, _), (9, _), (10, _), (13, _), (40, _), (41, _), (42, _), (48, _), (49, _)] ⟨rfl, rfl, rfl, rfl, rfl, rfl, rfl, rfl, rfl, trivial⟩ ?_
            refine St.then_n ?_
            refine St.round (k + 1, s.set k (fBelow ls (belowOf ls (bs.take i)) xi k)) ⟨rfl, rfl, rfl, rfl, rfl, rfl, rfl, rfl, rfl, trivial⟩ ?_ ?_
            · try dsimp only
              refine ⟨by omega, E, kb, ?_, kd, o40, hM2.step (by omega)⟩
              have h := kc
              simp only [Nat.zero_add, Nat.mul_one] at h
              have e : fBelow ls (belowOf ls (bs.take i)) xi k = false := by unfold fBelow; rw [List.getD_eq_getElem?_getD, List.getD_eq_getElem?_getD, hbo, hbi]; simp [hb59, hb61]
              rw [← bls_set, e]
              exact h
            · try dsimp only
              omega
      ·
        obtain rfl : k = 60 := by omega
        have hS2 : s = belowStep ls (belowOf ls (bs.take i)) xi := hM2.all
        subst hS2
        refine St.exit ?_
        refine St.then_x ?_
        refine St.then_x ?_
        refine St.in_x ?_
        refine St.in_n ?_
        refine St.then_n ?_
        refine St.go hK13 ?_
        clear hK13
        refine St.region ?_
        refine St.r (R.add rfl rfl (by omega) (by omega)) rfl rfl ?_
        refine St.r (R.move rfl) rfl rfl ?_
        refine St.nil ?_
        refine St.weak [(0, _), (9, _), (10, _), (40, _), (41, _), (42, _)] ⟨rfl, rfl, rfl, rfl, rfl, rfl, trivial⟩ ?_
        refine St.then_n ?_
        refine St.round (i + 1) ⟨rfl, rfl, rfl, rfl, rfl, rfl, trivial⟩ ?_ ?_
        · refine ⟨by omega, E, kb, ?_, o40⟩
          rw [take_snoc hx, belowOf_snoc]
          exact kc
        · omega
    ·
      rw [List.take_of_length_le (by omega)] at kc
      refine St.exit ?_
      refine St.then_x ?_
      refine St.then_x ?_
      refine St.in_x ?_
      refine St.then_n ?_
      refine St.go hK9 ?_
      clear hK9
      refine St.seq fun K20 hK20 => ?_
      refine St.region ?_
      have zE := E.size
      have l70 := kc.lt
      refine St.call rfl rfl ent39 (list_ret (bothOf_length _ _) _ kb) rfl ?_
      rintro r70 w70 ⟨o70, e70⟩
      replace E := Ext.trans E e70
      replace kb := kb.ext e70
      replace kc := kc.ext e70
      replace o40 := o40.ext e70
      have z70 := e70.size
      rw [← hbs] at o70
      refine St.r (R.fn rfl rfl) rfl rfl ?_
      refine St.call rfl rfl ent59 (int_DeleteFunc (p := fun x => (belowOf ls bs).getD x.toNat false) _ o70 ent60 (fun W x C hx => by
          obtain ⟨xi, rfl, hxi⟩ := hlt x hx
          exact Base1_ret W (belowOf_length _ _) (by omega) (by omega) (kc.chg C (by intro hk; have := (o70.base hk).1; omega)))) rfl ?_
      rintro r72 w72 ⟨o72, C72⟩
      replace E := Ext.then E C72 (by intro j hj hk; have := (o70.base hk).1; omega)
      refine St.r (R.assign rfl) rfl rfl ?_
      refine St.nil ?_
      refine St.weak [(6, _)] ⟨rfl, trivial⟩ ?_
      refine St.then_n ?_
      refine St.go hK20 ?_
      clear hK20
      refine St.ret ?_
      refine St.ret1 Tryd.results41 rfl ?_
      exact ⟨_, rfl, by unfold baseOf; rw [← hbs]; exact o72.lower (by omega), E⟩

theorem Bases_ret {ls : List Commit} {v : Value} {a b : Int} (w0 : World) (hv : RCommits w0 v ls) :
    Ret Tryd.prog 15 [v, .int .i64 a, .int .i64 b] w0 fun r w' => ∃ sv, r = .tuple #[sv, errV 81 (readyErr ls [a, b])] ∧ RInts w' sv (baseList ls a b) ∧ Ext w0 w' := by
  have E : Ext w0 w0 := Ext.refl w0
  refine St.enter (N := 21) Tryd.func15 rfl Tryd.ntmps15 rfl ?_
  refine St.seq fun K0 hK0 => ?_
  refine St.region ?_
  refine St.r (R.assign rfl) rfl rfl ?_
  refine St.r (R.assign rfl) rfl rfl ?_
  refine St.nil ?_
  refine St.weak [(0, _), (1, _), (2, _)] ⟨rfl, rfl, rfl, trivial⟩ ?_
  refine St.then_n ?_
  refine St.go hK0 ?_
  clear hK0
  refine St.seq fun K1 hK1 => ?_
  refine St.seq fun K2 hK2 => ?_
  refine St.region ?_
  refine St.r (R.move rfl) rfl rfl ?_
  refine St.r (R.move rfl) rfl rfl ?_
  refine St.r (R.move rfl) rfl rfl ?_
  refine St.buildSl Tryd.underlying30 Tryd.sizeOf3 Tryd.zeroValue3 rfl rfl rfl rfl (by intro u hu; simp only [List.mem_cons, List.not_mem_nil, or_false] at hu; first | (subst hu; rfl) | (rcases hu with rfl | rfl <;> rfl) | (rcases hu with rfl | rfl | rfl <;> rfl) | (rcases hu with rfl | rfl | rfl | rfl <;> rfl)) rfl ?_
  intro w12 b12 hb12 hs12 e12 k12
  have qE12 := E.size
  replace E := Ext.trans E e12
  refine St.call rfl rfl ent37 (ready_ret (nums := [a, b]) _ (hv.ext RCommit.firm E) (RSl.mk (enc := encInt) (xs := [a, b]) encInt_len k12.cells (fun i u hu => hu) (by simp) (by simp))) rfl ?_
  rintro r13 w13 ⟨rfl, e13⟩
  replace E := Ext.trans E e13
  refine St.r (R.assign rfl) rfl rfl ?_
  refine St.nil ?_
  refine St.weak [(0, _), (1, _), (2, _), (8, _)] ⟨rfl, rfl, rfl, rfl, trivial⟩ ?_
  refine St.then_n ?_
  refine St.go hK2 ?_
  clear hK2
  refine St.seq fun K3 hK3 => ?_
  refine St.region ?_
  refine St.r (R.move rfl) rfl rfl ?_
  refine St.r (R.notNil (et := 81) (e := _) Tryd.underlying26 rfl) rfl rfl ?_
  refine St.nil ?_
  refine St.weak [(0, _), (1, _), (2, _), (8, _), (15, _)] ⟨rfl, rfl, rfl, rfl, rfl, trivial⟩ ?_
  refine St.then_n ?_
  refine St.go hK3 ?_
  clear hK3
  refine St.cond rfl (fun h15 => ?_) (fun h15 => ?_)
  ·
    refine St.seq fun K4 hK4 => ?_
    refine St.region ?_
    refine St.r (R.move rfl) rfl rfl ?_
    refine St.r (R.assign rfl) rfl rfl ?_
    refine St.r (R.assign rfl) rfl rfl ?_
    refine St.nil ?_
    refine St.weak [(6, _), (7, _)] ⟨rfl, rfl, trivial⟩ ?_
    refine St.then_n ?_
    refine St.go hK4 ?_
    clear hK4
    refine St.ret ?_
    refine St.then_r ?_
    refine St.ret2 Tryd.results15 rfl rfl ?_
    exact ⟨_, rfl, _, rfl, by rw [baseList, if_pos h15]; exact RSl.nil _ _ _, E⟩
  ·
    obtain ⟨h60, hel, hnums⟩ := ready_ok h15
    have hna := hnums a (by simp)
    have hnb := hnums b (by simp)
    obtain ⟨an, rfl⟩ : ∃ n : Nat, a = (n : Int) := ⟨a.toNat, by omega⟩
    obtain ⟨bn, rfl⟩ : ∃ n : Nat, b = (n : Int) := ⟨b.toNat, by omega⟩
    refine St.skip ?_
    refine St.then_n ?_
    refine St.go hK1 ?_
    clear hK1
    refine St.seq fun K5 hK5 => ?_
    refine St.region ?_
    refine St.r (R.move rfl) rfl rfl ?_
    refine St.r (R.move rfl) rfl rfl ?_
    refine St.r (R.move rfl) rfl rfl ?_
    refine St.call rfl rfl ent41 (Base_ret (by omega) (by omega) h60 hel _ (hv.ext RCommit.firm E)) rfl ?_
    rintro r20 w20 ⟨o20, e20⟩
    replace E := Ext.trans E e20
    refine St.r (R.assign rfl) rfl rfl ?_
    refine St.r (R.assign rfl) rfl rfl ?_
    refine St.nil ?_
    refine St.weak [(6, _), (7, _)] ⟨rfl, rfl, trivial⟩ ?_
    refine St.then_n ?_
    refine St.go hK5 ?_
    clear hK5
    refine St.ret ?_
    refine St.ret2 Tryd.results15 rfl rfl ?_
    refine ⟨_, rfl, _, by rw [isSome_false h15]; rfl, ?_, E⟩
    rw [baseList, if_neg (by rw [h15]; simp)]
    exact o20.reads encInt_len

theorem Ancestors_ret {ls : List Commit} {v : Value} {a : Int} (w0 : World) (hv : RCommits w0 v ls) :
    Ret Tryd.prog 10 [v, .int .i64 a] w0 fun r w' => ∃ sv, r = .tuple #[sv, errV 81 (readyErr ls [a])] ∧ Own encInt 1 w0.heap.size 3 w' sv (ancList ls a) ∧ Ext w0 w' := by
  have E : Ext w0 w0 := Ext.refl w0
  refine St.enter (N := 18) Tryd.func10 rfl Tryd.ntmps10 rfl ?_
  refine St.seq fun K0 hK0 => ?_
  refine St.region ?_
  refine St.r (R.assign rfl) rfl rfl ?_
  refine St.r (R.assign rfl) rfl rfl ?_
  refine St.nil ?_
  refine St.weak [(0, _), (1, _)] ⟨rfl, rfl, trivial⟩ ?_
  refine St.then_n ?_
  refine St.go hK0 ?_
  clear hK0
  refine St.seq fun K1 hK1 => ?_
  refine St.seq fun K2 hK2 => ?_
  refine St.region ?_
  refine St.r (R.move rfl) rfl rfl ?_
  refine St.r (R.move rfl) rfl rfl ?_
  refine St.buildSl Tryd.underlying30 Tryd.sizeOf3 Tryd.zeroValue3 rfl rfl rfl rfl (by intro u hu; simp only [List.mem_cons, List.not_mem_nil, or_false] at hu; first | (subst hu; rfl) | (rcases hu with rfl | rfl <;> rfl) | (rcases hu with rfl | rfl | rfl <;> rfl) | (rcases hu with rfl | rfl | rfl | rfl <;> rfl)) rfl ?_
  intro w9 b9 hb9 hs9 e9 k9
  have qE9 := E.size
  replace E := Ext.trans E e9
  refine St.call rfl rfl ent37 (ready_ret (nums := [a]) _ (hv.ext RCommit.firm E) (RSl.mk (enc := encInt) (xs := [a]) encInt_len k9.cells (fun i u hu => hu) (by simp) (by simp))) rfl ?_
  rintro r10 w10 ⟨rfl, e10⟩
  replace E := Ext.trans E e10
  refine St.r (R.assign rfl) rfl rfl ?_
  refine St.nil ?_
  refine St.weak [(0, _), (1, _), (6, _)] ⟨rfl, rfl, rfl, trivial⟩ ?_
  refine St.then_n ?_
  refine St.go hK2 ?_
  clear hK2
  refine St.seq fun K3 hK3 => ?_
  refine St.region ?_
  refine St.r (R.move rfl) rfl rfl ?_
  refine St.r (R.notNil (et := 81) (e := _) Tryd.underlying26 rfl) rfl rfl ?_
  refine St.nil ?_
  refine St.weak [(0, _), (1, _), (6, _), (12, _)] ⟨rfl, rfl, rfl, rfl, trivial⟩ ?_
  refine St.then_n ?_
  refine St.go hK3 ?_
  clear hK3
  refine St.cond rfl (fun h12 => ?_) (fun h12 => ?_)
  ·
    refine St.seq fun K4 hK4 => ?_
    refine St.region ?_
    refine St.r (R.move rfl) rfl rfl ?_
    refine St.r (R.assign rfl) rfl rfl ?_
    refine St.r (R.assign rfl) rfl rfl ?_
    refine St.nil ?_
    refine St.weak [(4, _), (5, _)] ⟨rfl, rfl, trivial⟩ ?_
    refine St.then_n ?_
    refine St.go hK4 ?_
    clear hK4
    refine St.ret ?_
    refine St.then_r ?_
    refine St.ret2 Tryd.results10 rfl rfl ?_
    exact ⟨_, rfl, _, rfl, by rw [ancList, if_pos h12]; exact Own.nil _ _ _ _ _, E⟩
  ·
    obtain ⟨h60, hel, hnums⟩ := ready_ok h12
    have hna := hnums a (by simp)
    obtain ⟨an, rfl⟩ : ∃ n : Nat, a = (n : Int) := ⟨a.toNat, by omega⟩
    refine St.skip ?_
    refine St.then_n ?_
    refine St.go hK1 ?_
    clear hK1
    refine St.seq fun K5 hK5 => ?_
    refine St.region ?_
    refine St.r (R.move rfl) rfl rfl ?_
    refine St.r (R.move rfl) rfl rfl ?_
    refine St.call rfl rfl ent38 (Of_ret (by omega) h60 hel _ (hv.ext RCommit.firm E)) rfl ?_
    rintro r16 w16 ⟨g16, rfl, e16, hg16, k16⟩
    replace E := Ext.trans E e16
    have zE := E.size
    refine St.call rfl rfl ent39 (list_ret (ofSet_length _ _) _ k16) rfl ?_
    rintro r17 w17 ⟨o17, e17⟩
    replace E := Ext.trans E e17
    replace k16 := k16.ext e17
    refine St.r (R.assign rfl) rfl rfl ?_
    refine St.r (R.assign rfl) rfl rfl ?_
    refine St.nil ?_
    refine St.weak [(4, _), (5, _)] ⟨rfl, rfl, trivial⟩ ?_
    refine St.then_n ?_
    refine St.go hK5 ?_
    clear hK5
    refine St.ret ?_
    refine St.ret2 Tryd.results10 rfl rfl ?_
    refine ⟨_, rfl, _, by rw [isSome_false h12]; rfl, ?_, E⟩
    rw [ancList, if_neg (by rw [h12]; simp)]
    exact o17.lower zE

theorem Is_ret {ls : List Commit} {v : Value} {a b : Int} (w0 : World) (hv : RCommits w0 v ls) :
    Ret Tryd.prog 16 [v, .int .i64 a, .int .i64 b] w0 fun r w' => r = .tuple #[.bool (isB ls a b), errV 81 (readyErr ls [a, b])] ∧ Ext w0 w' := by
  have E : Ext w0 w0 := Ext.refl w0
  refine St.enter (N := 24) Tryd.func16 rfl Tryd.ntmps16 rfl ?_
  refine St.seq fun K0 hK0 => ?_
  refine St.region ?_
  refine St.r (R.assign rfl) rfl rfl ?_
  refine St.r (R.assign rfl) rfl rfl ?_
  refine St.nil ?_
  refine St.weak [(0, _), (1, _), (2, _)] ⟨rfl, rfl, rfl, trivial⟩ ?_
  refine St.then_n ?_
  refine St.go hK0 ?_
  clear hK0
  refine St.seq fun K1 hK1 => ?_
  refine St.seq fun K2 hK2 => ?_
  refine St.region ?_
  refine St.r (R.move rfl) rfl rfl ?_
  refine St.r (R.move rfl) rfl rfl ?_
  refine St.r (R.move rfl) rfl rfl ?_
  refine St.buildSl Tryd.underlying30 Tryd.sizeOf3 Tryd.zeroValue3 rfl rfl rfl rfl (by intro u hu; simp only [List.mem_cons, List.not_mem_nil, or_false] at hu; first | (subst hu; rfl) | (rcases hu with rfl | rfl <;> rfl) | (rcases hu with rfl | rfl | rfl <;> rfl) | (rcases hu with rfl | rfl | rfl | rfl <;> rfl)) rfl ?_
  intro w12 b12 hb12 hs12 e12 k12
  have qE12 := E.size
  replace E := Ext.trans E e12
  refine St.call rfl rfl ent37 (ready_ret (nums := [a, b]) _ (hv.ext RCommit.firm E) (RSl.mk (enc := encInt) (xs := [a, b]) encInt_len k12.cells (fun i u hu => hu) (by simp) (by simp))) rfl ?_
  rintro r13 w13 ⟨rfl, e13⟩
  replace E := Ext.trans E e13
  refine St.r (R.assign rfl) rfl rfl ?_
  refine St.nil ?_
  refine St.weak [(0, _), (1, _), (2, _), (8, _)] ⟨rfl, rfl, rfl, rfl, trivial⟩ ?_
  refine St.then_n ?_
  refine St.go hK2 ?_
  clear hK2
  refine St.seq fun K3 hK3 => ?_
  refine St.region ?_
  refine St.r (R.move rfl) rfl rfl ?_
  refine St.r (R.notNil (et := 81) (e := _) Tryd.underlying26 rfl) rfl rfl ?_
  refine St.nil ?_
  refine St.weak [(0, _), (1, _), (2, _), (8, _), (15, _)] ⟨rfl, rfl, rfl, rfl, rfl, trivial⟩ ?_
  refine St.then_n ?_
  refine St.go hK3 ?_
  clear hK3
  refine St.cond rfl (fun h15 => ?_) (fun h15 => ?_)
  ·
    refine St.seq fun K4 hK4 => ?_
    refine St.region ?_
    refine St.r (R.move rfl) rfl rfl ?_
    refine St.r (R.assign rfl) rfl rfl ?_
    refine St.r (R.assign rfl) rfl rfl ?_
    refine St.nil ?_
    refine St.weak [(6, _), (7, _)] ⟨rfl, rfl, trivial⟩ ?_
    refine St.then_n ?_
    refine St.go hK4 ?_
    clear hK4
    refine St.ret ?_
    refine St.then_r ?_
    refine St.ret2 Tryd.results16 rfl rfl ?_
    exact ⟨_, rfl, by rw [isB, if_pos h15], E⟩
  ·
    obtain ⟨h60, hel, hnums⟩ := ready_ok h15
    have hna := hnums a (by simp)
    have hnb := hnums b (by simp)
    obtain ⟨an, rfl⟩ : ∃ n : Nat, a = (n : Int) := ⟨a.toNat, by omega⟩
    obtain ⟨bn, rfl⟩ : ∃ n : Nat, b = (n : Int) := ⟨b.toNat, by omega⟩
    obtain ⟨bi, hbi⟩ := get_of_lt (xs := ofSet ls bn) (k := an) (by rw [ofSet_length]; omega)
    refine St.skip ?_
    refine St.then_n ?_
    refine St.go hK1 ?_
    clear hK1
    refine St.seq fun K5 hK5 => ?_
    refine St.region ?_
    refine St.r (R.move rfl) rfl rfl ?_
    refine St.r (R.move rfl) rfl rfl ?_
    refine St.call rfl rfl ent38 (Of_ret (by omega) h60 hel _ (hv.ext RCommit.firm E)) rfl ?_
    rintro r19 w19 ⟨g19, rfl, e19, hg19, k19⟩
    replace E := Ext.trans E e19
    refine St.r (R.move rfl) rfl rfl ?_
    refine St.r (R.nilOk rfl) rfl rfl ?_
    refine St.r (R.indexA an Tryd.underlying115 Tryd.sizeOf4 rfl rfl rfl (by omega)) rfl rfl ?_
    refine St.r (R.load1 Tryd.isAgg4 rfl (k19.cells.at (an * 1) (by rw [Nat.mul_one]; exact bls_get hbi))) rfl rfl ?_
    refine St.r (R.assign rfl) rfl rfl ?_
    refine St.r (R.assign rfl) rfl rfl ?_
    refine St.nil ?_
    refine St.weak [(6, _), (7, _)] ⟨rfl, rfl, trivial⟩ ?_
    refine St.then_n ?_
    refine St.go hK5 ?_
    clear hK5
    refine St.ret ?_
    refine St.ret2 Tryd.results16 rfl rfl ?_
    refine ⟨_, rfl, ?_, E⟩
    rw [isSome_false h15, isB, if_neg (by rw [h15]; simp), Int.toNat_natCast, Int.toNat_natCast, List.getD_eq_getElem?_getD, hbi]
    rfl

end Go.Proofs.YtjgcmpondbocfaaDoor

/- What the functions of package dag come to: each walked once, against plain Lean. Each under the reading of its arguments. -/
import Derived.Test.YtjgcmpondbocfaaGreatDoorProg
import Derived.Test.YtjgcmpondbocfaaGreatDoorDagAnc
namespace Go.Proofs.YtjgcmpondbocfaaGreatDoor
open Go.RowKit 
theorem ent81 : Ent Tryz.prog 81 := Ent.of Tryz.func81 (by kernel_rfl) rfl
theorem ent94 : Ent Tryz.prog 94 := Ent.of Tryz.func94 (by kernel_rfl) rfl
theorem ent95 : Ent Tryz.prog 95 := Ent.of Tryz.func95 (by kernel_rfl) rfl
theorem ent135 : Ent Tryz.prog 135 := Ent.of Tryz.func135 (by kernel_rfl) rfl
theorem ent140 : Ent Tryz.prog 140 := Ent.of Tryz.func140 (by kernel_rfl) rfl
theorem ent158 : Ent Tryz.prog 158 := Ent.of Tryz.func158 (by kernel_rfl) rfl
theorem ent159 : Ent Tryz.prog 159 := Ent.of Tryz.func159 (by kernel_rfl) rfl
theorem ent160 : Ent Tryz.prog 160 := Ent.of Tryz.func160 (by kernel_rfl) rfl
theorem ent211 : Ent Tryz.prog 211 := Ent.of Tryz.func211 (by kernel_rfl) rfl
theorem ent252 : Ent Tryz.prog 252 := Ent.of Tryz.func252 (by kernel_rfl) rfl
theorem comparable119 : (Tryz.prog.info? 119).map (·.comparable) = some true := by kernel_rfl
theorem info3 : (Tryz.prog.info? 3).map (fun i => (i.zero, i.size, i.bytes)) = some (some (.int .i64 0), 1, 8) := by kernel_rfl
theorem mixed : Tryz.prog.follows .mixedOrders = true := by kernel_rfl
theorem int_IndexFunc {xs : List Int} {v : Value} {g : FuncId} {caps : Array Value} {p : Int → Bool} (w0 : World) (hv : RSl (REnc encInt) 1 w0 v xs) (he : Ent Tryz.prog g)
    (hp : ∀ W x, Ext w0 W → x ∈ xs → Ret Tryz.prog g ([.int .i64 x] ++ caps.toList) W fun r W' => r = .bool (p x) ∧ Ext W W') :
    Ret Tryz.prog 135 [v, .func (.func g) #[] caps] w0 fun r w' => r = .int .i64 (idxOf p xs) ∧ Ext w0 w' := by
  obtain ⟨A, c, rfl, hc1, hc2⟩ := hv.form
  have E : Ext w0 w0 := Ext.refl w0
  refine St.enter (N := 19) Tryz.func135 rfl Tryz.ntmps135 rfl ?_
  refine St.seq fun K0 hK0 => ?_
  refine St.region ?_
  refine St.r (R.assign rfl) rfl rfl ?_
  refine St.nil ?_
  refine St.weak [(0, _), (1, _)] ⟨rfl, rfl, trivial⟩ ?_
  refine St.then_n ?_
  refine St.go hK0 ?_
  clear hK0
  refine St.seq fun K1 hK1 => ?_
  refine St.seq fun K2 hK2 => ?_
  refine St.region ?_
  refine St.r (R.move rfl) rfl rfl ?_
  refine St.r (R.lenSl Tryz.underlying27 rfl) rfl rfl ?_
  refine St.r (R.move rfl) rfl rfl ?_
  refine St.nil ?_
  refine St.weak [(0, _), (1, _), (7, _), (8, _)] ⟨rfl, rfl, rfl, rfl, trivial⟩ ?_
  refine St.then_n ?_
  refine St.go hK2 ?_
  clear hK2
  refine St.block ?_
  refine St.loop (fun (k : Nat) => [(0, .slice A xs.length c), (1, .func (.func g) #[] caps), (7, .int .i64 (xs.length : Int)), (8, .int .i64 (k : Int))])
      (fun (k : Nat) w => k ≤ xs.length ∧ Ext w0 w ∧ ∀ y ∈ xs.take k, p y = false)
      (fun (k : Nat) => xs.length - k) 0 ⟨rfl, rfl, rfl, rfl, trivial⟩ ?_ ?_
  · exact ⟨Nat.zero_le _, E, by simp⟩
  rintro k w ⟨hk, E, hall⟩
  show St _ _ [(0, .slice A xs.length c), (1, .func (.func g) #[] caps), (7, .int .i64 (xs.length : Int)), (8, .int .i64 (k : Int))] _ _
  refine St.seq fun K3 hK3 => ?_
  refine St.region ?_
  refine St.r (R.lss rfl rfl) rfl rfl ?_
  refine St.nil ?_
  refine St.weak [(0, _), (1, _), (7, _), (8, _), (9, _)] ⟨rfl, rfl, rfl, rfl, rfl, trivial⟩ ?_
  refine St.then_n ?_
  refine St.go hK3 ?_
  clear hK3
  refine St.seq fun K4 hK4 => ?_
  refine St.condD rfl (fun h9 => ?_) (fun h9 => ?_)
  ·
    obtain ⟨x, hx⟩ := get_of_lt (xs := xs) (k := k) (by omega)
    obtain ⟨b, o, c', heq, -, -, hcell⟩ := hv.at (by omega)
    cases heq
    obtain ⟨cs, -, hx', rfl⟩ := hcell k x hx
    refine St.skip ?_
    refine St.then_n ?_
    refine St.go hK4 ?_
    clear hK4
    refine St.seq fun K5 hK5 => ?_
    refine St.block ?_
    refine St.seq fun K6 hK6 => ?_
    refine St.region ?_
    refine St.r (R.move rfl) rfl rfl ?_
    refine St.r (R.assign rfl) rfl rfl ?_
    refine St.nil ?_
    refine St.weak [(0, _), (1, _), (5, _), (7, _), (8, _)] ⟨rfl, rfl, rfl, rfl, rfl, trivial⟩ ?_
    refine St.then_n ?_
    refine St.go hK6 ?_
    clear hK6
    refine St.seq fun K7 hK7 => ?_
    refine St.region ?_
    refine St.r (R.move rfl) rfl rfl ?_
    refine St.r (R.move rfl) rfl rfl ?_
    refine St.r (R.move rfl) rfl rfl ?_
    refine St.r (R.indexS _ Tryz.underlying27 Tryz.sizeOf3 rfl rfl rfl (by omega)) rfl rfl ?_
    refine St.r (R.load1 Tryz.isAgg3 rfl ((E.cells hx').at 0 rfl)) rfl rfl ?_
    refine St.call rfl rfl he (hp _ x E (List.mem_of_getElem? hx)) rfl ?_
    rintro r16 w16 ⟨rfl, e16⟩
    replace E := Ext.trans E e16
    refine St.nil ?_
    refine St.weak [(0, _), (1, _), (5, _), (7, _), (8, _), (16, _)] ⟨rfl, rfl, rfl, rfl, rfl, rfl, trivial⟩ ?_
    refine St.then_n ?_
    refine St.go hK7 ?_
    clear hK7
    refine St.cond rfl (fun h16 => ?_) (fun h16 => ?_)
    ·
      refine St.seq fun K8 hK8 => ?_
      refine St.region ?_
      refine St.r (R.move rfl) rfl rfl ?_
      refine St.r (R.assign rfl) rfl rfl ?_
      refine St.nil ?_
      refine St.weak [(4, _)] ⟨rfl, trivial⟩ ?_
      refine St.then_n ?_
      refine St.go hK8 ?_
      clear hK8
      refine St.ret ?_
      refine St.in_r ?_
      refine St.then_r ?_
      refine St.then_r ?_
      refine St.in_r ?_
      refine St.then_r ?_
      refine St.ret1 Tryz.results135 rfl ?_
      exact ⟨_, rfl, by rw [idxOf_found hx h16 hall], E⟩
    ·
      refine St.skip ?_
      refine St.in_n ?_
      refine St.then_n ?_
      refine St.go hK5 ?_
      clear hK5
      refine St.region ?_
      refine St.r (R.add rfl rfl (by omega) (by omega)) rfl rfl ?_
      refine St.r (R.move rfl) rfl rfl ?_
      refine St.nil ?_
      refine St.weak [(0, _), (1, _), (7, _), (8, _)] ⟨rfl, rfl, rfl, rfl, trivial⟩ ?_
      refine St.then_n ?_
      refine St.round (k + 1) ⟨rfl, rfl, rfl, rfl, trivial⟩ ?_ ?_
      · refine ⟨by omega, E, ?_⟩
        rw [take_snoc hx]
        intro y hy
        rcases List.mem_append.1 hy with hy | hy
        · exact hall y hy
        · rw [List.mem_singleton] at hy; subst hy; exact h16
      · omega
  ·
    refine St.exit ?_
    refine St.then_x ?_
    refine St.then_x ?_
    refine St.in_x ?_
    refine St.then_n ?_
    refine St.go hK1 ?_
    clear hK1
    refine St.seq fun K9 hK9 => ?_
    refine St.region ?_
    refine St.r (R.assign rfl) rfl rfl ?_
    refine St.nil ?_
    refine St.weak [(4, _)] ⟨rfl, trivial⟩ ?_
    refine St.then_n ?_
    refine St.go hK9 ?_
    clear hK9
    refine St.ret ?_
    refine St.ret1 Tryz.results135 rfl ?_
    exact ⟨_, rfl, by rw [idxOf_none (fun x hx => hall x (by rw [List.take_of_length_le (by omega)]; exact hx))], E⟩

theorem int_ContainsFunc {xs : List Int} {v : Value} {g : FuncId} {caps : Array Value} {p : Int → Bool} (w0 : World) (hv : RSl (REnc encInt) 1 w0 v xs) (he : Ent Tryz.prog g)
    (hp : ∀ W x, Ext w0 W → x ∈ xs → Ret Tryz.prog g ([.int .i64 x] ++ caps.toList) W fun r W' => r = .bool (p x) ∧ Ext W W') :
    Ret Tryz.prog 159 [v, .func (.func g) #[] caps] w0 fun r w' => r = .bool (xs.any p) ∧ Ext w0 w' := by
  have E : Ext w0 w0 := Ext.refl w0
  refine St.enter (N := 9) Tryz.func159 rfl Tryz.ntmps159 rfl ?_
  refine St.seq fun K0 hK0 => ?_
  refine St.region ?_
  refine St.r (R.assign rfl) rfl rfl ?_
  refine St.nil ?_
  refine St.weak [(0, _), (1, _)] ⟨rfl, rfl, trivial⟩ ?_
  refine St.then_n ?_
  refine St.go hK0 ?_
  clear hK0
  refine St.seq fun K1 hK1 => ?_
  refine St.region ?_
  refine St.r (R.move rfl) rfl rfl ?_
  refine St.r (R.move rfl) rfl rfl ?_
  refine St.call rfl rfl ent135 (int_IndexFunc w0 hv he hp) rfl ?_
  rintro r7 w7 ⟨rfl, e7⟩
  replace E := Ext.trans E e7
  refine St.r (Runs.eq (R.geq rfl rfl) ((congrArg Value.bool (idxOf_any p xs)))) rfl rfl ?_
  refine St.r (R.assign rfl) rfl rfl ?_
  refine St.nil ?_
  refine St.weak [(4, _)] ⟨rfl, trivial⟩ ?_
  refine St.then_n ?_
  refine St.go hK1 ?_
  clear hK1
  refine St.ret ?_
  refine St.ret1 Tryz.results159 rfl ?_
  exact ⟨_, rfl, rfl, E⟩

theorem int_DeleteFunc {xs : List Int} {v : Value} {g : FuncId} {caps : Array Value} {p : Int → Bool} {base : Nat} (w0 : World) (ho : Own encInt 1 base 3 w0 v xs) (he : Ent Tryz.prog g)
    (hp : ∀ W x, Chg (fun k => v.ownBlock = some k) w0 W → x ∈ xs → Ret Tryz.prog g ([.int .i64 x] ++ caps.toList) W fun r W' => r = .bool (p x) ∧ Ext W W') :
    Ret Tryz.prog 64 [v, .func (.func g) #[] caps] w0 fun r w' => Own encInt 1 base 3 w' r (xs.filter fun x => !p x) ∧ Chg (fun k => v.ownBlock = some k) w0 w' := by
  refine St.enter (N := 42) Tryz.func64 rfl Tryz.ntmps64 rfl ?_
  refine St.seq fun K0 hK0 => ?_
  refine St.region ?_
  refine St.r (R.assign rfl) rfl rfl ?_
  refine St.nil ?_
  refine St.weak [(0, _), (1, _)] ⟨rfl, rfl, trivial⟩ ?_
  refine St.then_n ?_
  refine St.go hK0 ?_
  clear hK0
  refine St.seq fun K1 hK1 => ?_
  refine St.region ?_
  refine St.r (R.move rfl) rfl rfl ?_
  refine St.r (R.move rfl) rfl rfl ?_
  refine St.call rfl rfl ent135 (int_IndexFunc w0 (ho.reads encInt_len) he (fun W x eW hx => hp W x (Chg.mono eW fun _ _ h => h.elim) hx)) rfl ?_
  rintro r10 w10 ⟨rfl, e10⟩
  have C : Chg (fun k => v.ownBlock = some k) w0 w10 := Chg.mono e10 fun _ _ h => h.elim
  refine St.r (R.assign rfl) rfl rfl ?_
  refine St.nil ?_
  refine St.weak [(0, _), (1, _), (5, _)] ⟨rfl, rfl, rfl, trivial⟩ ?_
  refine St.then_n ?_
  refine St.go hK1 ?_
  clear hK1
  refine St.seq fun K2 hK2 => ?_
  refine St.seq fun K3 hK3 => ?_
  refine St.region ?_
  refine St.r (R.move rfl) rfl rfl ?_
  refine St.r (R.eql rfl rfl) rfl rfl ?_
  refine St.nil ?_
  refine St.weak [(0, _), (1, _), (5, _), (12, _)] ⟨rfl, rfl, rfl, rfl, trivial⟩ ?_
  refine St.then_n ?_
  refine St.go hK3 ?_
  clear hK3
  refine St.condD rfl (fun h12 => ?_) (fun h12 => ?_)
  ·
    have hno : ∀ x ∈ xs, p x = false := by
      rcases idxOf_cases p xs with ⟨_, h⟩ | ⟨k, x, h, _⟩
      · exact h
      · omega
    have hfil : (xs.filter fun x => !p x) = xs := List.filter_eq_self.2 (fun x hx => by rw [hno x hx]; rfl)
    refine St.seq fun K4 hK4 => ?_
    refine St.region ?_
    refine St.r (R.move rfl) rfl rfl ?_
    refine St.r (R.assign rfl) rfl rfl ?_
    refine St.nil ?_
    refine St.weak [(4, _)] ⟨rfl, trivial⟩ ?_
    refine St.then_n ?_
    refine St.go hK4 ?_
    clear hK4
    refine St.ret ?_
    refine St.then_r ?_
    refine St.ret1 Tryz.results64 rfl ?_
    exact ⟨_, rfl, by rw [hfil]; exact ho.ext e10, C⟩
  ·
    obtain ⟨i0, x0, hi1, hx0, hpx0, hi2⟩ : ∃ (k : Nat) (x : Int), idxOf p xs = (k : Int) ∧ xs[k]? = some x ∧ p x = true ∧ ∀ y ∈ xs.take k, p y = false := by
      rcases idxOf_cases p xs with ⟨h, _⟩ | h
      · omega
      · exact h
    have hn0 := lt_of_get hx0
    obtain ⟨gb, c, sp, rfl, hgb, kS, hc1, hc2, hlen⟩ := ho.blk (by omega)
    rw [hi1]
    have C' : Chg (fun k => k = gb) w0 w10 := Chg.mono e10 fun _ _ h => h.elim
    replace kS := kS.ext e10
    refine St.skip ?_
    refine St.then_n ?_
    refine St.go hK2 ?_
    clear hK2
    refine St.seq fun K5 hK5 => ?_
    refine St.seq fun K6 hK6 => ?_
    refine St.region ?_
    refine St.r (R.move rfl) rfl rfl ?_
    refine St.r (R.add rfl rfl (by omega) (by omega)) rfl rfl ?_
    refine St.r (R.assign rfl) rfl rfl ?_
    refine St.nil ?_
    refine St.weak [(0, _), (1, _), (5, _), (6, _)] ⟨rfl, rfl, rfl, rfl, trivial⟩ ?_
    refine St.then_n ?_
    refine St.go hK6 ?_
    clear hK6
    refine St.block ?_
    refine St.loop (fun (x : Nat × Nat × List Int) => match x with | (j, i, ys) => [(0, .slice (some ⟨gb, 0, none⟩) xs.length c), (1, .func (.func g) #[] caps), (5, .int .i64 (i : Int)), (6, .int .i64 (j : Int))])
        (fun (x : Nat × Nat × List Int) w => match x with | (j, i, ys) => i < j ∧ j ≤ xs.length ∧ ys.length = xs.length ∧ (ys.take i = (xs.take j).filter fun x => !p x) ∧ ys.drop j = xs.drop j ∧ Chg (fun k => k = gb) w0 w ∧ Blk w gb 3 (ys.flatMap encInt ++ sp))
        (fun (x : Nat × Nat × List Int) => match x with | (j, i, ys) => xs.length - j) (i0 + 1, i0, xs) ⟨rfl, rfl, rfl, rfl, trivial⟩ ?_ ?_
    · refine ⟨by omega, by omega, rfl, ?_, rfl, C', kS⟩
      rw [take_snoc hx0, filter_snoc, hpx0]
      simp only [Bool.not_true, Bool.false_eq_true, if_false, List.append_nil]
      exact (List.filter_eq_self.2 (fun x hx => by rw [hi2 x hx]; rfl)).symm
    rintro ⟨j, i, ys⟩ w ⟨hij, hjn, hys, htk, hdr, C, kS⟩
    show St _ _ [(0, .slice (some ⟨gb, 0, none⟩) xs.length c), (1, .func (.func g) #[] caps), (5, .int .i64 (i : Int)), (6, .int .i64 (j : Int))] _ _
    refine St.seq fun K7 hK7 => ?_
    refine St.seq fun K8 hK8 => ?_
    refine St.region ?_
    refine St.r (R.move rfl) rfl rfl ?_
    refine St.r (R.move rfl) rfl rfl ?_
    refine St.r (R.lenSl Tryz.underlying27 rfl) rfl rfl ?_
    refine St.r (R.lss rfl rfl) rfl rfl ?_
    refine St.nil ?_
    refine St.weak [(0, _), (1, _), (5, _), (6, _), (19, _)] ⟨rfl, rfl, rfl, rfl, rfl, trivial⟩ ?_
    refine St.then_n ?_
    refine St.go hK8 ?_
    clear hK8
    refine St.condD rfl (fun h19 => ?_) (fun h19 => ?_)
    ·
      obtain ⟨x, hx⟩ := get_of_lt (xs := xs) (k := j) (by omega)
      have hyx : ys[j]? = some x := by
        have h := congrArg (fun l => l[0]?) hdr
        simp only [List.getElem?_drop, Nat.add_zero] at h
        rw [h, hx]
      refine St.skip ?_
      refine St.then_n ?_
      refine St.go hK7 ?_
      clear hK7
      refine St.seq fun K9 hK9 => ?_
      refine St.block ?_
      refine St.seq fun K10 hK10 => ?_
      refine St.region ?_
      refine St.r (R.move rfl) rfl rfl ?_
      refine St.r (R.move rfl) rfl rfl ?_
      refine St.r (R.indexS _ Tryz.underlying27 Tryz.sizeOf3 rfl rfl rfl (by omega)) rfl rfl ?_
      refine St.r (R.load1 Tryz.isAgg3 rfl ((kS.elem encInt_len hyx).at 0 rfl)) rfl rfl ?_
      refine St.r (R.assign rfl) rfl rfl ?_
      refine St.nil ?_
      refine St.weak [(0, _), (1, _), (5, _), (6, _), (7, _)] ⟨rfl, rfl, rfl, rfl, rfl, trivial⟩ ?_
      refine St.then_n ?_
      refine St.go hK10 ?_
      clear hK10
      refine St.seq fun K11 hK11 => ?_
      refine St.region ?_
      refine St.r (R.move rfl) rfl rfl ?_
      refine St.r (R.move rfl) rfl rfl ?_
      refine St.call rfl rfl he (hp _ x (Chg.mono C fun _ _ h => by subst h; rfl) (List.mem_of_getElem? hx)) rfl ?_
      rintro r28 w28 ⟨rfl, e28⟩
      replace kS := kS.ext e28
      refine St.r (R.not rfl) rfl rfl ?_
      refine St.nil ?_
      refine St.weak [(0, _), (1, _), (5, _), (6, _), (7, _), (29, _)] ⟨rfl, rfl, rfl, rfl, rfl, rfl, trivial⟩ ?_
      refine St.then_n ?_
      refine St.go hK11 ?_
      clear hK11
      refine St.cond rfl (fun h29 => ?_) (fun h29 => ?_)
      ·
        have hpx : p x = false := by cases h : p x <;> simp [h] at h29 <;> rfl
        refine St.seq fun K12 hK12 => ?_
        refine St.region ?_
        refine St.r (R.move rfl) rfl rfl ?_
        refine St.r (R.move rfl) rfl rfl ?_
        refine St.r (R.move rfl) rfl rfl ?_
        refine St.r (R.indexS _ Tryz.underlying27 Tryz.sizeOf3 rfl rfl rfl (by omega)) rfl rfl ?_
        refine St.store Tryz.sizeOf3 rfl rfl kS rfl (by simp only [List.length_append, flat_length encInt_len]; simp [Value.cells]; omega) (by intro u hu; simp [Value.cells] at hu; subst hu; rfl) ?_
        intro ws0 ks0 gs0 zs0
        clear kS; have kS := ks0; clear ks0
        refine St.nil ?_
        refine St.weak [(0, _), (1, _), (5, _), (6, _)] ⟨rfl, rfl, rfl, rfl, trivial⟩ ?_
        refine St.then_n ?_
        refine St.go hK12 ?_
        clear hK12
        refine St.region ?_
        refine St.r (R.move rfl) rfl rfl ?_
        refine St.r (R.add rfl rfl (by omega) (by omega)) rfl rfl ?_
        refine St.r (R.assign rfl) rfl rfl ?_
        refine St.nil ?_
        refine St.weak [(0, _), (1, _), (5, _), (6, _)] ⟨rfl, rfl, rfl, rfl, trivial⟩ ?_
        refine St.in_n ?_
        refine St.then_n ?_
        refine St.go hK9 ?_
        clear hK9
        refine St.region ?_
        refine St.r (R.move rfl) rfl rfl ?_
        refine St.r (R.add rfl rfl (by omega) (by omega)) rfl rfl ?_
        refine St.r (R.assign rfl) rfl rfl ?_
        refine St.nil ?_
        refine St.weak [(0, _), (1, _), (5, _), (6, _)] ⟨rfl, rfl, rfl, rfl, trivial⟩ ?_
        refine St.then_n ?_
        refine St.round (j + 1, i + 1, ys.set i x) ⟨rfl, rfl, rfl, rfl, trivial⟩ ?_ ?_
        · try dsimp only
          have hd1 : (ys.set i x).drop (j + 1) = xs.drop (j + 1) := by
            rw [List.drop_set_of_lt (by omega), ← List.drop_drop, hdr, List.drop_drop]
          refine ⟨by omega, by omega, by rw [List.length_set]; exact hys, ?_, hd1, (C.then e28 (fun _ _ h => h.elim)).trans gs0, ?_⟩
          · rw [List.take_succ_eq_append_getElem (by rw [List.length_set]; omega), List.take_set_of_le (Nat.le_refl _), htk, take_snoc hx, filter_snoc, hpx]
            simp
          · have h := kS
            rw [Nat.zero_add] at h
            rw [← splice_flat encInt_len (by omega)]
            exact h
        · try dsimp only
          omega
      ·
        have hpx : p x = true := by cases h : p x <;> simp [h] at h29 <;> rfl
        refine St.skip ?_
        refine St.in_n ?_
        refine St.then_n ?_
        refine St.go hK9 ?_
        clear hK9
        refine St.region ?_
        refine St.r (R.move rfl) rfl rfl ?_
        refine St.r (R.add rfl rfl (by omega) (by omega)) rfl rfl ?_
        refine St.r (R.assign rfl) rfl rfl ?_
        refine St.nil ?_
        refine St.weak [(0, _), (1, _), (5, _), (6, _)] ⟨rfl, rfl, rfl, rfl, trivial⟩ ?_
        refine St.then_n ?_
        refine St.round (j + 1, i, ys) ⟨rfl, rfl, rfl, rfl, trivial⟩ ?_ ?_
        · try dsimp only
          have hd1 : ys.drop (j + 1) = xs.drop (j + 1) := by rw [← List.drop_drop, hdr, List.drop_drop]
          refine ⟨by omega, by omega, hys, ?_, hd1, C.then e28 (fun _ _ h => h.elim), kS⟩
          rw [htk, take_snoc hx, filter_snoc, hpx]
          simp
        · try dsimp only
          omega
    ·
      obtain rfl : j = xs.length := by omega
      rw [List.take_length] at htk
      refine St.exit ?_
      refine St.then_x ?_
      refine St.then_x ?_
      refine St.in_x ?_
      refine St.then_n ?_
      refine St.go hK5 ?_
      clear hK5
      refine St.seq fun K13 hK13 => ?_
      refine St.region ?_
      refine St.r (R.move rfl) rfl rfl ?_
      refine St.r (R.move rfl) rfl rfl ?_
      refine St.r (R.cutLo i Tryz.underlying27 Tryz.sizeOf3 rfl rfl rfl (by omega) (by omega)) rfl rfl ?_
      refine St.clear Tryz.underlying27 Tryz.zeroValue3 rfl (by omega) kS (by simp only [List.length_append, flat_length encInt_len]; simp [Value.cells]; omega) (zeroCells_one (by decide) (by intro u hu; simp [Value.cells] at hu; subst hu; rfl) _) ?_
      intro wc kC gC zC
      refine St.nil ?_
      refine St.weak [(0, _), (5, _)] ⟨rfl, rfl, trivial⟩ ?_
      refine St.then_n ?_
      refine St.go hK13 ?_
      clear hK13
      refine St.seq fun K14 hK14 => ?_
      refine St.region ?_
      refine St.r (R.move rfl) rfl rfl ?_
      refine St.r (R.move rfl) rfl rfl ?_
      refine St.r (R.cutHi i Tryz.underlying27 Tryz.sizeOf3 rfl rfl rfl (by omega)) rfl rfl ?_
      refine St.r (R.assign rfl) rfl rfl ?_
      refine St.nil ?_
      refine St.weak [(4, _)] ⟨rfl, trivial⟩ ?_
      refine St.then_n ?_
      refine St.go hK14 ?_
      clear hK14
      refine St.ret ?_
      refine St.ret1 Tryz.results64 rfl ?_
      have hfl : i = (xs.filter fun x => !p x).length := by rw [← htk, List.length_take]; omega
      refine ⟨_, rfl, ?_, Chg.mono (C.trans gC) fun _ _ h => by subst h; rfl⟩
      have hz : (Builtin.zeroCells (Value.cells (.int .i64 0)) (xs.length - i)).toList.length = (xs.length - i) * 1 := by simp [Builtin.zeroCells, Value.cells]
      rw [splice_eq (by simp only [Nat.zero_add, hz, List.length_append, flat_length encInt_len]; omega), Nat.zero_add, flat_take encInt_len ys sp (by omega), htk, List.append_assoc] at kC
      rw [hfl]
      refine Own.of_blk encInt_len kC hgb (by omega) hc2 ?_
      rw [← hlen]
      have h1 := congrArg List.length htk
      simp only [List.length_append, flat_length encInt_len, hz, List.length_drop]
      omega

theorem commit1_ret {p i : Int} {B : Nat} (w0 : World) (hB : w0.cell? ⟨B, 0, none⟩ = some (.int .i64 i)) : Ret Tryz.prog 252 [.int .i64 p, .pointer (some ⟨B, 0, none⟩)] w0 fun r w' => r = .bool (badParent i p) ∧ Ext w0 w' := by
  refine St.enter (N := 11) Tryz.func252 rfl Tryz.ntmps252 rfl ?_
  refine St.seq fun K0 hK0 => ?_
  refine St.region ?_
  refine St.r (R.assign rfl) rfl rfl ?_
  refine St.nil ?_
  refine St.weak [(0, _), (1, _)] ⟨rfl, rfl, trivial⟩ ?_
  refine St.then_n ?_
  refine St.go hK0 ?_
  clear hK0
  refine St.seq fun K1 hK1 => ?_
  by_cases h6 : p < 0
  ·
    refine St.region ?_
    refine St.r (R.move rfl) rfl rfl ?_
    refine St.r (R.lss rfl rfl) rfl rfl ?_
    refine St.r (Runs.lit (c := true) (R.move rfl) (decide_eq_true h6)) rfl rfl ?_
    refine St.pass (dg := 6) rfl rfl rfl rfl rfl ?_
    refine St.pass (dg := 6) rfl rfl rfl rfl rfl ?_
    refine St.pass (dg := 6) rfl rfl rfl rfl rfl ?_
    refine St.r (R.pickT rfl rfl) rfl rfl ?_
    refine St.r (R.assign rfl) rfl rfl ?_
    refine St.nil ?_
    refine St.weak [(3, _)] ⟨rfl, trivial⟩ ?_
    refine St.then_n ?_
    refine St.go hK1 ?_
    clear hK1
    refine St.ret ?_
    refine St.ret1 Tryz.results252 rfl ?_
    exact ⟨_, rfl, by rw [badParent, decide_eq_true h6]; rfl, Ext.refl _⟩
  ·
    refine St.region ?_
    refine St.r (R.move rfl) rfl rfl ?_
    refine St.r (R.lss rfl rfl) rfl rfl ?_
    refine St.r (Runs.lit (c := false) (R.move rfl) (decide_eq_false h6)) rfl rfl ?_
    refine St.take (dg := 6) rfl rfl ?_ rfl
    refine St.r (R.move rfl) rfl rfl ?_
    refine St.take (dg := 6) rfl rfl ?_ rfl
    refine St.r (R.load1 Tryz.isAgg3 rfl hB) rfl rfl ?_
    refine St.take (dg := 6) rfl rfl ?_ rfl
    refine St.r (R.geq rfl rfl) rfl rfl ?_
    refine St.r (R.pickF rfl rfl) rfl rfl ?_
    refine St.r (R.assign rfl) rfl rfl ?_
    refine St.nil ?_
    refine St.weak [(3, _)] ⟨rfl, trivial⟩ ?_
    refine St.then_n ?_
    refine St.go hK1 ?_
    clear hK1
    refine St.ret ?_
    refine St.ret1 Tryz.results252 rfl ?_
    exact ⟨_, rfl, by rw [badParent, decide_eq_false h6]; rfl, Ext.refl _⟩

theorem ready1_ret {p : Int} {B n c : Nat} {A : Option Addr} (w0 : World) (hB : w0.cell? ⟨B, 0, none⟩ = some (.slice A n c)) : Ret Tryz.prog 160 [.int .i64 p, .pointer (some ⟨B, 0, none⟩)] w0 fun r w' => r = .bool (badNum n p) ∧ Ext w0 w' := by
  refine St.enter (N := 12) Tryz.func160 rfl Tryz.ntmps160 rfl ?_
  refine St.seq fun K0 hK0 => ?_
  refine St.region ?_
  refine St.r (R.assign rfl) rfl rfl ?_
  refine St.nil ?_
  refine St.weak [(0, _), (1, _)] ⟨rfl, rfl, trivial⟩ ?_
  refine St.then_n ?_
  refine St.go hK0 ?_
  clear hK0
  refine St.seq fun K1 hK1 => ?_
  by_cases h6 : p < 0
  ·
    refine St.region ?_
    refine St.r (R.move rfl) rfl rfl ?_
    refine St.r (R.lss rfl rfl) rfl rfl ?_
    refine St.r (Runs.lit (c := true) (R.move rfl) (decide_eq_true h6)) rfl rfl ?_
    refine St.pass (dg := 6) rfl rfl rfl rfl rfl ?_
    refine St.pass (dg := 6) rfl rfl rfl rfl rfl ?_
    refine St.pass (dg := 6) rfl rfl rfl rfl rfl ?_
    refine St.pass (dg := 6) rfl rfl rfl rfl rfl ?_
    refine St.r (R.pickT rfl rfl) rfl rfl ?_
    refine St.r (R.assign rfl) rfl rfl ?_
    refine St.nil ?_
    refine St.weak [(3, _)] ⟨rfl, trivial⟩ ?_
    refine St.then_n ?_
    refine St.go hK1 ?_
    clear hK1
    refine St.ret ?_
    refine St.ret1 Tryz.results160 rfl ?_
    exact ⟨_, rfl, by rw [badNum, decide_eq_true h6]; rfl, Ext.refl _⟩
  ·
    refine St.region ?_
    refine St.r (R.move rfl) rfl rfl ?_
    refine St.r (R.lss rfl rfl) rfl rfl ?_
    refine St.r (Runs.lit (c := false) (R.move rfl) (decide_eq_false h6)) rfl rfl ?_
    refine St.take (dg := 6) rfl rfl ?_ rfl
    refine St.r (R.move rfl) rfl rfl ?_
    refine St.take (dg := 6) rfl rfl ?_ rfl
    refine St.r (R.load1 Tryz.isAgg66 rfl hB) rfl rfl ?_
    refine St.take (dg := 6) rfl rfl ?_ rfl
    refine St.r (R.lenSl Tryz.underlying66 rfl) rfl rfl ?_
    refine St.take (dg := 6) rfl rfl ?_ rfl
    refine St.r (R.geq rfl rfl) rfl rfl ?_
    refine St.r (R.pickF rfl rfl) rfl rfl ?_
    refine St.r (R.assign rfl) rfl rfl ?_
    refine St.nil ?_
    refine St.weak [(3, _)] ⟨rfl, trivial⟩ ?_
    refine St.then_n ?_
    refine St.go hK1 ?_
    clear hK1
    refine St.ret ?_
    refine St.ret1 Tryz.results160 rfl ?_
    exact ⟨_, rfl, by rw [badNum, decide_eq_false h6]; rfl, Ext.refl _⟩

theorem Message_ret {s : ByteArray} (w0 : World) : Ret Tryz.prog 140 [.string s] w0 fun r w' => r = errV 119 (msgErr s) ∧ Ext w0 w' := by
  have hlen : s.data.toList.length = s.size := by rw [Array.length_toList]; rfl
  have E : Ext w0 w0 := Ext.refl w0
  refine St.enter (N := 24) Tryz.func140 rfl Tryz.ntmps140 rfl ?_
  refine St.seq fun K0 hK0 => ?_
  refine St.region ?_
  refine St.r (R.assign rfl) rfl rfl ?_
  refine St.nil ?_
  refine St.weak [(0, _)] ⟨rfl, trivial⟩ ?_
  refine St.then_n ?_
  refine St.go hK0 ?_
  clear hK0
  refine St.seq fun K1 hK1 => ?_
  refine St.seq fun K2 hK2 => ?_
  refine St.region ?_
  refine St.r (R.move rfl) rfl rfl ?_
  refine St.r (R.lenStr Tryz.underlying9 rfl) rfl rfl ?_
  refine St.r (R.gtr rfl rfl) rfl rfl ?_
  refine St.nil ?_
  refine St.weak [(0, _), (7, _)] ⟨rfl, rfl, trivial⟩ ?_
  refine St.then_n ?_
  refine St.go hK2 ?_
  clear hK2
  refine St.condD rfl (fun h7 => ?_) (fun h7 => ?_)
  ·
    refine St.seq fun K3 hK3 => ?_
    refine St.region ?_
    refine St.r (R.iface Tryz.underlying119 rfl rfl) rfl rfl ?_
    refine St.r (R.assign rfl) rfl rfl ?_
    refine St.nil ?_
    refine St.weak [(2, _)] ⟨rfl, trivial⟩ ?_
    refine St.then_n ?_
    refine St.go hK3 ?_
    clear hK3
    refine St.ret ?_
    refine St.then_r ?_
    refine St.ret1 Tryz.results140 rfl ?_
    exact ⟨_, rfl, by rw [msgErr_long h7]; rfl, E⟩
  ·
    refine St.skip ?_
    refine St.then_n ?_
    refine St.go hK1 ?_
    clear hK1
    refine St.seq fun K4 hK4 => ?_
    refine St.seq fun K5 hK5 => ?_
    refine St.region ?_
    refine St.r (R.move rfl) rfl rfl ?_
    refine St.bytes Tryz.underlying9 Tryz.underlying155 Tryz.underlying5 rfl (by omega) rfl ?_
    intro w10 b10 c10 hb10 hs10 e10 r10 k10
    replace E := Ext.trans E e10
    refine St.r (R.lenSl Tryz.underlying155 rfl) rfl rfl ?_
    refine St.r (R.move rfl) rfl rfl ?_
    have F10 := Ext.refl w10
    refine St.nil ?_
    refine St.weak [(10, _), (11, _), (12, _)] ⟨rfl, rfl, rfl, trivial⟩ ?_
    refine St.then_n ?_
    refine St.go hK5 ?_
    clear hK5
    refine St.block ?_
    refine St.loop (fun (k : Nat) => [(10, .slice (some ⟨b10, 0, none⟩) s.data.toList.length c10), (11, .int .i64 (s.data.toList.length : Int)), (12, .int .i64 (k : Int))])
        (fun (k : Nat) w => k ≤ s.data.toList.length ∧ Ext w0 w ∧ Ext w10 w ∧ ∀ y ∈ s.data.toList.take k, badMsg y = false)
        (fun (k : Nat) => s.data.toList.length - k) 0 ⟨rfl, rfl, rfl, trivial⟩ ?_ ?_
    · exact ⟨Nat.zero_le _, E, F10, by simp⟩
    rintro k w ⟨hk, E, E10, hall⟩
    show St _ _ [(10, .slice (some ⟨b10, 0, none⟩) s.data.toList.length c10), (11, .int .i64 (s.data.toList.length : Int)), (12, .int .i64 (k : Int))] _ _
    refine St.seq fun K6 hK6 => ?_
    refine St.region ?_
    refine St.r (R.lss rfl rfl) rfl rfl ?_
    refine St.nil ?_
    refine St.weak [(10, _), (11, _), (12, _), (13, _)] ⟨rfl, rfl, rfl, rfl, trivial⟩ ?_
    refine St.then_n ?_
    refine St.go hK6 ?_
    clear hK6
    refine St.seq fun K7 hK7 => ?_
    refine St.condD rfl (fun h13 => ?_) (fun h13 => ?_)
    ·
      obtain ⟨x, hx⟩ := get_of_lt (xs := s.data.toList) (k := k) (by omega)
      obtain ⟨b, o, c', heq, -, -, hcell⟩ := r10.at (by omega)
      cases heq
      obtain ⟨cs, -, hx', rfl⟩ := hcell k x hx
      refine St.skip ?_
      refine St.then_n ?_
      refine St.go hK7 ?_
      clear hK7
      refine St.seq fun K8 hK8 => ?_
      refine St.block ?_
      refine St.seq fun K9 hK9 => ?_
      refine St.region ?_
      refine St.r (R.indexS _ Tryz.underlying155 Tryz.sizeOf5 rfl rfl rfl (by omega)) rfl rfl ?_
      refine St.r (R.load1 Tryz.isAgg5 rfl ((E10.cells hx').at 0 rfl)) rfl rfl ?_
      refine St.r (R.assign rfl) rfl rfl ?_
      refine St.nil ?_
      refine St.weak [(4, _), (10, _), (11, _), (12, _)] ⟨rfl, rfl, rfl, rfl, trivial⟩ ?_
      refine St.then_n ?_
      refine St.go hK9 ?_
      clear hK9
      refine St.seq fun K10 hK10 => ?_
      by_cases h18 : (x.toNat : Int) < 32
      ·
        refine St.region ?_
        refine St.r (R.move rfl) rfl rfl ?_
        refine St.r (R.lss rfl rfl) rfl rfl ?_
        refine St.r (Runs.lit (c := true) (R.move rfl) (decide_eq_true h18)) rfl rfl ?_
        refine St.pass (dg := 18) rfl rfl rfl rfl rfl ?_
        refine St.pass (dg := 18) rfl rfl rfl rfl rfl ?_
        refine St.r (R.pickT rfl rfl) rfl rfl ?_
        refine St.nil ?_
        refine St.weak [(10, _), (11, _), (12, _), (21, _)] ⟨rfl, rfl, rfl, rfl, trivial⟩ ?_
        refine St.then_n ?_
        refine St.go hK10 ?_
        clear hK10
        refine St.condT rfl ?_
        refine St.seq fun K11 hK11 => ?_
        refine St.region ?_
        refine St.r (R.iface Tryz.underlying119 rfl rfl) rfl rfl ?_
        refine St.r (R.assign rfl) rfl rfl ?_
        refine St.nil ?_
        refine St.weak [(2, _)] ⟨rfl, trivial⟩ ?_
        refine St.then_n ?_
        refine St.go hK11 ?_
        clear hK11
        refine St.ret ?_
        refine St.in_r ?_
        refine St.then_r ?_
        refine St.then_r ?_
        refine St.in_r ?_
        refine St.then_r ?_
        refine St.ret1 Tryz.results140 rfl ?_
        exact ⟨_, rfl, by rw [msgErr_bad h7 hx (by rw [badMsg, decide_eq_true h18]; rfl)]; rfl, E⟩
      ·
        refine St.region ?_
        refine St.r (R.move rfl) rfl rfl ?_
        refine St.r (R.lss rfl rfl) rfl rfl ?_
        refine St.r (Runs.lit (c := false) (R.move rfl) (decide_eq_false h18)) rfl rfl ?_
        refine St.take (dg := 18) rfl rfl ?_ rfl
        refine St.r (R.move rfl) rfl rfl ?_
        refine St.take (dg := 18) rfl rfl ?_ rfl
        refine St.r (R.gtr rfl rfl) rfl rfl ?_
        refine St.r (R.pickF rfl rfl) rfl rfl ?_
        refine St.nil ?_
        refine St.weak [(10, _), (11, _), (12, _), (21, _)] ⟨rfl, rfl, rfl, rfl, trivial⟩ ?_
        refine St.then_n ?_
        refine St.go hK10 ?_
        clear hK10
        refine St.condD rfl (fun h21 => ?_) (fun h21 => ?_)
        ·
          refine St.seq fun K12 hK12 => ?_
          refine St.region ?_
          refine St.r (R.iface Tryz.underlying119 rfl rfl) rfl rfl ?_
          refine St.r (R.assign rfl) rfl rfl ?_
          refine St.nil ?_
          refine St.weak [(2, _)] ⟨rfl, trivial⟩ ?_
          refine St.then_n ?_
          refine St.go hK12 ?_
          clear hK12
          refine St.ret ?_
          refine St.in_r ?_
          refine St.then_r ?_
          refine St.then_r ?_
          refine St.in_r ?_
          refine St.then_r ?_
          refine St.ret1 Tryz.results140 rfl ?_
          exact ⟨_, rfl, by rw [msgErr_bad h7 hx (by rw [badMsg, decide_eq_false h18, decide_eq_true h21]; rfl)]; rfl, E⟩
        ·
          refine St.skip ?_
          refine St.in_n ?_
          refine St.then_n ?_
          refine St.go hK8 ?_
          clear hK8
          refine St.region ?_
          refine St.r (R.add rfl rfl (by omega) (by omega)) rfl rfl ?_
          refine St.r (R.move rfl) rfl rfl ?_
          have F10 := Ext.refl w10
          refine St.nil ?_
          refine St.weak [(10, _), (11, _), (12, _)] ⟨rfl, rfl, rfl, trivial⟩ ?_
          refine St.then_n ?_
          refine St.round (k + 1) ⟨rfl, rfl, rfl, trivial⟩ ?_ ?_
          · refine ⟨by omega, E, E10, ?_⟩
            rw [take_snoc hx]
            intro y hy
            rcases List.mem_append.1 hy with hy | hy
            · exact hall y hy
            · rw [List.mem_singleton] at hy; subst hy; rw [badMsg, decide_eq_false h18, decide_eq_false h21]; rfl
          · omega
    ·
      refine St.exit ?_
      refine St.then_x ?_
      refine St.then_x ?_
      refine St.in_x ?_
      refine St.then_n ?_
      refine St.go hK4 ?_
      clear hK4
      refine St.seq fun K13 hK13 => ?_
      refine St.region ?_
      refine St.r (R.assign rfl) rfl rfl ?_
      refine St.nil ?_
      refine St.weak [(2, _)] ⟨rfl, trivial⟩ ?_
      refine St.then_n ?_
      refine St.go hK13 ?_
      clear hK13
      refine St.ret ?_
      refine St.ret1 Tryz.results140 rfl ?_
      exact ⟨_, rfl, by rw [msgErr_ok h7 (fun x hx => hall x (by rw [List.take_of_length_le (by omega)]; exact hx))]; rfl, E⟩

theorem commit_ret {c : Commit} {cs : List Value} {i : Int} (w0 : World) (hc : RCommit w0 cs c) : Ret Tryz.prog 211 [.agg cs.toArray, .int .i64 i] w0 fun r w' => r = errV 119 (commitErr c i) ∧ Ext w0 w' := by
  obtain ⟨pv, rfl, hpv⟩ := hc
  obtain ⟨pA, pc, rfl, hpc1, hpc2⟩ := hpv.form
  have E : Ext w0 w0 := Ext.refl w0
  refine St.enter (N := 57) Tryz.func211 rfl Tryz.ntmps211 rfl ?_
  refine St.seq fun K0 hK0 => ?_
  refine St.region ?_
  refine St.box rfl rfl ?_
  intro w2 b2 hb2 hs2 e2 k2
  have qE2 := E.size
  replace E := Ext.trans E e2
  refine St.box rfl rfl ?_
  intro w3 b3 hb3 hs3 e3 k3
  have qE3 := E.size
  replace E := Ext.trans E e3
  replace k2 := k2.ext e3
  refine St.r (R.assign rfl) rfl rfl ?_
  refine St.nil ?_
  refine St.weak [(2, _), (3, _)] ⟨rfl, rfl, trivial⟩ ?_
  refine St.then_n ?_
  refine St.go hK0 ?_
  clear hK0
  refine St.seq fun K1 hK1 => ?_
  refine St.region ?_
  refine St.r (R.fieldA Tryz.underlying148 rfl Tryz.sizeOf9 rfl rfl rfl) rfl rfl ?_
  refine St.r (R.load1 Tryz.isAgg9 rfl (k2.cells.at 2 rfl)) rfl rfl ?_
  refine St.call rfl rfl ent140 (Message_ret _) rfl ?_
  rintro r8 w8 ⟨rfl, e8⟩
  replace E := Ext.trans E e8
  replace k2 := k2.ext e8
  replace k3 := k3.ext e8
  refine St.r (R.assign rfl) rfl rfl ?_
  refine St.nil ?_
  refine St.weak [(2, _), (3, _), (5, _)] ⟨rfl, rfl, rfl, trivial⟩ ?_
  refine St.then_n ?_
  refine St.go hK1 ?_
  clear hK1
  refine St.seq fun K2 hK2 => ?_
  refine St.block ?_
  refine St.seq fun K3 hK3 => ?_
  by_cases h14 : 2 < (c.parents.length : Int)
  ·
    refine St.region ?_
    refine St.r (R.fieldA Tryz.underlying148 rfl Tryz.sizeOf27 rfl rfl rfl) rfl rfl ?_
    refine St.r (R.load1 Tryz.isAgg27 rfl (k2.cells.at 0 rfl)) rfl rfl ?_
    refine St.r (R.lenSl Tryz.underlying27 rfl) rfl rfl ?_
    refine St.r (R.gtr rfl rfl) rfl rfl ?_
    refine St.r (Runs.lit (c := true) (R.move rfl) (decide_eq_true h14)) rfl rfl ?_
    refine St.pass (dg := 14) rfl rfl rfl rfl rfl ?_
    refine St.pass (dg := 14) rfl rfl rfl rfl rfl ?_
    refine St.pass (dg := 14) rfl rfl rfl rfl rfl ?_
    refine St.r (R.pickT rfl rfl) rfl rfl ?_
    refine St.r (R.assign rfl) rfl rfl ?_
    refine St.nil ?_
    refine St.weak [(2, _), (3, _), (5, _), (9, _)] ⟨rfl, rfl, rfl, rfl, trivial⟩ ?_
    refine St.then_n ?_
    refine St.go hK3 ?_
    clear hK3
    refine St.condT rfl ?_
    refine St.seq fun K4 hK4 => ?_
    refine St.region ?_
    refine St.r (R.iface Tryz.underlying119 rfl rfl) rfl rfl ?_
    refine St.r (R.assign rfl) rfl rfl ?_
    refine St.nil ?_
    refine St.weak [(4, _)] ⟨rfl, trivial⟩ ?_
    refine St.then_n ?_
    refine St.go hK4 ?_
    clear hK4
    refine St.ret ?_
    refine St.in_r ?_
    refine St.then_r ?_
    refine St.ret1 Tryz.results211 rfl ?_
    exact ⟨_, rfl, by rw [ce4 (.inl h14)]; rfl, E⟩
  ·
    refine St.region ?_
    refine St.r (R.fieldA Tryz.underlying148 rfl Tryz.sizeOf27 rfl rfl rfl) rfl rfl ?_
    refine St.r (R.load1 Tryz.isAgg27 rfl (k2.cells.at 0 rfl)) rfl rfl ?_
    refine St.r (R.lenSl Tryz.underlying27 rfl) rfl rfl ?_
    refine St.r (R.gtr rfl rfl) rfl rfl ?_
    refine St.r (Runs.lit (c := false) (R.move rfl) (decide_eq_false h14)) rfl rfl ?_
    refine St.take (dg := 14) rfl rfl ?_ rfl
    refine St.r (R.move rfl) rfl rfl ?_
    refine St.take (dg := 14) rfl rfl ?_ rfl
    refine St.r (R.iface Tryz.underlying119 rfl rfl) rfl rfl ?_
    refine St.take (dg := 14) rfl rfl ?_ rfl
    refine St.r (R.eqErr Tryz.underlying32 Tryz.underlying119 comparable119 rfl rfl) rfl rfl ?_
    refine St.r (R.pickF rfl rfl) rfl rfl ?_
    refine St.r (R.assign rfl) rfl rfl ?_
    refine St.nil ?_
    refine St.weak [(2, _), (3, _), (5, _), (9, _)] ⟨rfl, rfl, rfl, rfl, trivial⟩ ?_
    refine St.then_n ?_
    refine St.go hK3 ?_
    clear hK3
    refine St.condD rfl (fun h9 => ?_) (fun h9 => ?_)
    ·
      refine St.seq fun K5 hK5 => ?_
      refine St.region ?_
      refine St.r (R.iface Tryz.underlying119 rfl rfl) rfl rfl ?_
      refine St.r (R.assign rfl) rfl rfl ?_
      refine St.nil ?_
      refine St.weak [(4, _)] ⟨rfl, trivial⟩ ?_
      refine St.then_n ?_
      refine St.go hK5 ?_
      clear hK5
      refine St.ret ?_
      refine St.in_r ?_
      refine St.then_r ?_
      refine St.ret1 Tryz.results211 rfl ?_
      exact ⟨_, rfl, by rw [ce4 (.inr h9)]; rfl, E⟩
    ·
      refine St.seq fun K6 hK6 => ?_
      refine St.region ?_
      refine St.r (R.fieldA Tryz.underlying148 rfl Tryz.sizeOf27 rfl rfl rfl) rfl rfl ?_
      refine St.r (R.load1 Tryz.isAgg27 rfl (k2.cells.at 0 rfl)) rfl rfl ?_
      refine St.r (R.fn rfl rfl) rfl rfl ?_
      refine St.call rfl rfl ent159 (int_ContainsFunc (p := badParent i) _ (hpv.ext (REnc.firm _) E) ent252 (fun W x eW _ => commit1_ret W (eW.cell (k3.cell 0 rfl)))) rfl ?_
      rintro r24 w24 ⟨rfl, e24⟩
      replace E := Ext.trans E e24
      replace k2 := k2.ext e24
      replace k3 := k3.ext e24
      refine St.r (R.assign rfl) rfl rfl ?_
      refine St.nil ?_
      refine St.weak [(2, _), (5, _), (20, _)] ⟨rfl, rfl, rfl, trivial⟩ ?_
      refine St.then_n ?_
      refine St.go hK6 ?_
      clear hK6
      refine St.cond rfl (fun h20 => ?_) (fun h20 => ?_)
      ·
        refine St.seq fun K7 hK7 => ?_
        refine St.region ?_
        refine St.r (R.iface Tryz.underlying119 rfl rfl) rfl rfl ?_
        refine St.r (R.assign rfl) rfl rfl ?_
        refine St.nil ?_
        refine St.weak [(4, _)] ⟨rfl, trivial⟩ ?_
        refine St.then_n ?_
        refine St.go hK7 ?_
        clear hK7
        refine St.ret ?_
        refine St.in_r ?_
        refine St.then_r ?_
        refine St.ret1 Tryz.results211 rfl ?_
        exact ⟨_, rfl, by rw [ce1 h14 h9 h20]; rfl, E⟩
      ·
        refine St.seq fun K8 hK8 => ?_
        by_cases h31 : (c.parents.length : Int) = 2
        ·
          obtain ⟨p0, hp0⟩ := get_of_lt (xs := c.parents) (k := 0) (by omega)
          obtain ⟨p1, hp1⟩ := get_of_lt (xs := c.parents) (k := 1) (by omega)
          have g0 : c.parents.getD 0 0 = p0 := by simp [List.getD_eq_getElem?_getD, hp0]
          have g1 : c.parents.getD 1 0 = p1 := by simp [List.getD_eq_getElem?_getD, hp1]
          obtain ⟨b, o, c', heq, -, -, hcell⟩ := hpv.at (by omega)
          cases heq
          obtain ⟨cs0, -, hx0, rfl⟩ := hcell 0 p0 hp0
          obtain ⟨cs1, -, hx1, rfl⟩ := hcell 1 p1 hp1
          refine St.weak [(2, _), (5, _)] ⟨rfl, rfl, trivial⟩ ?_
          refine St.draw mixed rfl rfl rfl rfl ?_
          replace E := Ext.trans E (Ext.drew _)
          replace k2 := k2.ext (Ext.drew _)
          replace k3 := k3.ext (Ext.drew _)
          refine ⟨_, OpOk.r (R.fieldA Tryz.underlying148 rfl Tryz.sizeOf27 rfl rfl rfl) rfl, ?_⟩
          refine ⟨_, OpOk.r (R.load1 Tryz.isAgg27 rfl (k2.cells.at 0 rfl)) rfl, ?_⟩
          refine ⟨_, OpOk.r (R.lenSl Tryz.underlying27 rfl) rfl, ?_⟩
          refine ⟨_, OpOk.r (R.eql rfl rfl) rfl, ?_⟩
          refine ⟨_, OpOk.r (Runs.lit (c := true) (R.move rfl) (decide_eq_true h31)) rfl, ?_⟩
          refine ⟨_, OpOk.take (dg := 31) (R.fieldA Tryz.underlying148 rfl Tryz.sizeOf27 rfl rfl rfl) rfl rfl rfl rfl, ?_⟩
          refine ⟨_, OpOk.take (dg := 31) (R.load1 Tryz.isAgg27 rfl (k2.cells.at 0 rfl)) rfl rfl rfl rfl, ?_⟩
          refine ⟨_, OpOk.take (dg := 31) (R.indexS 0 Tryz.underlying27 Tryz.sizeOf3 rfl rfl rfl (by omega)) rfl rfl rfl rfl, ?_⟩
          refine ⟨_, OpOk.take (dg := 31) (R.load1 Tryz.isAgg3 rfl ((E.cells hx0).at 0 rfl)) rfl rfl rfl rfl, ?_⟩
          refine ⟨_, OpOk.take (dg := 31) (R.fieldA Tryz.underlying148 rfl Tryz.sizeOf27 rfl rfl rfl) rfl rfl rfl rfl, ?_⟩
          refine ⟨_, OpOk.take (dg := 31) (R.load1 Tryz.isAgg27 rfl (k2.cells.at 0 rfl)) rfl rfl rfl rfl, ?_⟩
          refine ⟨_, OpOk.take (dg := 31) (R.indexS 1 Tryz.underlying27 Tryz.sizeOf3 rfl rfl rfl (by omega)) rfl rfl rfl rfl, ?_⟩
          refine ⟨_, OpOk.take (dg := 31) (R.load1 Tryz.isAgg3 rfl ((E.cells hx1).at 0 rfl)) rfl rfl rfl rfl, ?_⟩
          refine ⟨_, OpOk.take (dg := 31) (R.eql rfl rfl) rfl rfl rfl rfl, ?_⟩
          refine ⟨_, OpOk.r (R.pickT rfl rfl) rfl, ?_⟩
          refine ⟨_, OpOk.r (R.assign rfl) rfl, ?_⟩
          show St _ _ _ _ _
          refine St.weak [(2, _), (5, _), (26, _)] ⟨rfl, rfl, rfl, trivial⟩ ?_
          refine St.then_n ?_
          refine St.go hK8 ?_
          clear hK8
          refine St.condD rfl (fun h26 => ?_) (fun h26 => ?_)
          ·
            refine St.seq fun K9 hK9 => ?_
            refine St.region ?_
            refine St.r (R.iface Tryz.underlying119 rfl rfl) rfl rfl ?_
            refine St.r (R.assign rfl) rfl rfl ?_
            refine St.nil ?_
            refine St.weak [(4, _)] ⟨rfl, trivial⟩ ?_
            refine St.then_n ?_
            refine St.go hK9 ?_
            clear hK9
            refine St.ret ?_
            refine St.in_r ?_
            refine St.then_r ?_
            refine St.ret1 Tryz.results211 rfl ?_
            exact ⟨_, rfl, by rw [ce7 h14 h9 h20 ⟨h31, by rw [g0, g1]; exact h26⟩]; rfl, E⟩
          ·
            have hB : ¬ ((c.parents.length : Int) = 2 ∧ c.parents.getD 0 0 = c.parents.getD 1 0) := fun h => h26 (by rw [← g0, ← g1]; exact h.2)
            refine St.seq fun K10 hK10 => ?_
            refine St.region ?_
            refine St.r (R.move rfl) rfl rfl ?_
            refine St.r (R.notNil (et := 119) (e := _) Tryz.underlying32 rfl) rfl rfl ?_
            refine St.r (R.assign rfl) rfl rfl ?_
            refine St.nil ?_
            refine St.weak [(2, _), (5, _), (43, _)] ⟨rfl, rfl, rfl, trivial⟩ ?_
            refine St.then_n ?_
            refine St.go hK10 ?_
            clear hK10
            refine St.cond rfl (fun h43 => ?_) (fun h43 => ?_)
            ·
              refine St.seq fun K11 hK11 => ?_
              refine St.region ?_
              refine St.r (R.move rfl) rfl rfl ?_
              refine St.r (R.assign rfl) rfl rfl ?_
              refine St.nil ?_
              refine St.weak [(4, _)] ⟨rfl, trivial⟩ ?_
              refine St.then_n ?_
              refine St.go hK11 ?_
              clear hK11
              refine St.ret ?_
              refine St.in_r ?_
              refine St.then_r ?_
              refine St.ret1 Tryz.results211 rfl ?_
              exact ⟨_, rfl, by rw [ceM h14 h9 h20 hB h43], E⟩
            ·
              refine St.seq fun K12 hK12 => ?_
              by_cases h51 : c.layer < 1
              ·
                refine St.region ?_
                refine St.r (R.fieldA Tryz.underlying148 rfl Tryz.sizeOf3 rfl rfl rfl) rfl rfl ?_
                refine St.r (R.load1 Tryz.isAgg3 rfl (k2.cells.at 1 rfl)) rfl rfl ?_
                refine St.r (R.lss rfl rfl) rfl rfl ?_
                refine St.r (Runs.lit (c := true) (R.move rfl) (decide_eq_true h51)) rfl rfl ?_
                refine St.pass (dg := 51) rfl rfl rfl rfl rfl ?_
                refine St.pass (dg := 51) rfl rfl rfl rfl rfl ?_
                refine St.pass (dg := 51) rfl rfl rfl rfl rfl ?_
                refine St.r (R.pickT rfl rfl) rfl rfl ?_
                refine St.r (R.assign rfl) rfl rfl ?_
                refine St.nil ?_
                refine St.weak [(47, _)] ⟨rfl, trivial⟩ ?_
                refine St.then_n ?_
                refine St.go hK12 ?_
                clear hK12
                refine St.condT rfl ?_
                refine St.seq fun K13 hK13 => ?_
                refine St.region ?_
                refine St.r (R.iface Tryz.underlying119 rfl rfl) rfl rfl ?_
                refine St.r (R.assign rfl) rfl rfl ?_
                refine St.nil ?_
                refine St.weak [(4, _)] ⟨rfl, trivial⟩ ?_
                refine St.then_n ?_
                refine St.go hK13 ?_
                clear hK13
                refine St.ret ?_
                refine St.in_r ?_
                refine St.then_r ?_
                refine St.ret1 Tryz.results211 rfl ?_
                exact ⟨_, rfl, by rw [ceL h14 h9 h20 hB h43 (.inl h51)]; rfl, E⟩
              ·
                refine St.region ?_
                refine St.r (R.fieldA Tryz.underlying148 rfl Tryz.sizeOf3 rfl rfl rfl) rfl rfl ?_
                refine St.r (R.load1 Tryz.isAgg3 rfl (k2.cells.at 1 rfl)) rfl rfl ?_
                refine St.r (R.lss rfl rfl) rfl rfl ?_
                refine St.r (Runs.lit (c := false) (R.move rfl) (decide_eq_false h51)) rfl rfl ?_
                refine St.take (dg := 51) rfl rfl ?_ rfl
                refine St.r (R.fieldA Tryz.underlying148 rfl Tryz.sizeOf3 rfl rfl rfl) rfl rfl ?_
                refine St.take (dg := 51) rfl rfl ?_ rfl
                refine St.r (R.load1 Tryz.isAgg3 rfl (k2.cells.at 1 rfl)) rfl rfl ?_
                refine St.take (dg := 51) rfl rfl ?_ rfl
                refine St.r (R.gtr rfl rfl) rfl rfl ?_
                refine St.r (R.pickF rfl rfl) rfl rfl ?_
                refine St.r (R.assign rfl) rfl rfl ?_
                refine St.nil ?_
                refine St.weak [(47, _)] ⟨rfl, trivial⟩ ?_
                refine St.then_n ?_
                refine St.go hK12 ?_
                clear hK12
                refine St.condD rfl (fun h47 => ?_) (fun h47 => ?_)
                ·
                  refine St.seq fun K14 hK14 => ?_
                  refine St.region ?_
                  refine St.r (R.iface Tryz.underlying119 rfl rfl) rfl rfl ?_
                  refine St.r (R.assign rfl) rfl rfl ?_
                  refine St.nil ?_
                  refine St.weak [(4, _)] ⟨rfl, trivial⟩ ?_
                  refine St.then_n ?_
                  refine St.go hK14 ?_
                  clear hK14
                  refine St.ret ?_
                  refine St.in_r ?_
                  refine St.then_r ?_
                  refine St.ret1 Tryz.results211 rfl ?_
                  exact ⟨_, rfl, by rw [ceL h14 h9 h20 hB h43 (.inr h47)]; rfl, E⟩
                ·
                  refine St.skip ?_
                  refine St.in_n ?_
                  refine St.then_n ?_
                  refine St.go hK2 ?_
                  clear hK2
                  refine St.seq fun K15 hK15 => ?_
                  refine St.region ?_
                  refine St.r (R.assign rfl) rfl rfl ?_
                  refine St.nil ?_
                  refine St.weak [(4, _)] ⟨rfl, trivial⟩ ?_
                  refine St.then_n ?_
                  refine St.go hK15 ?_
                  clear hK15
                  refine St.ret ?_
                  refine St.ret1 Tryz.results211 rfl ?_
                  exact ⟨_, rfl, by rw [ceN h14 h9 h20 hB h43 h51 h47]; rfl, E⟩
        ·
          have hB : ¬ ((c.parents.length : Int) = 2 ∧ c.parents.getD 0 0 = c.parents.getD 1 0) := fun h => h31 h.1
          refine St.weak [(2, _), (5, _)] ⟨rfl, rfl, trivial⟩ ?_
          refine St.draw mixed rfl rfl rfl rfl ?_
          replace E := Ext.trans E (Ext.drew _)
          replace k2 := k2.ext (Ext.drew _)
          replace k3 := k3.ext (Ext.drew _)
          refine ⟨_, OpOk.r (R.fieldA Tryz.underlying148 rfl Tryz.sizeOf27 rfl rfl rfl) rfl, ?_⟩
          refine ⟨_, OpOk.r (R.load1 Tryz.isAgg27 rfl (k2.cells.at 0 rfl)) rfl, ?_⟩
          refine ⟨_, OpOk.r (R.lenSl Tryz.underlying27 rfl) rfl, ?_⟩
          refine ⟨_, OpOk.r (R.eql rfl rfl) rfl, ?_⟩
          refine ⟨_, OpOk.r (Runs.lit (c := false) (R.move rfl) (decide_eq_false h31)) rfl, ?_⟩
          refine ⟨_, OpOk.pass (dg := 31) rfl rfl rfl rfl rfl, ?_⟩
          refine ⟨_, OpOk.pass (dg := 31) rfl rfl rfl rfl rfl, ?_⟩
          refine ⟨_, OpOk.pass (dg := 31) rfl rfl rfl rfl rfl, ?_⟩
          refine ⟨_, OpOk.pass (dg := 31) rfl rfl rfl rfl rfl, ?_⟩
          refine ⟨_, OpOk.pass (dg := 31) rfl rfl rfl rfl rfl, ?_⟩
          refine ⟨_, OpOk.pass (dg := 31) rfl rfl rfl rfl rfl, ?_⟩
          refine ⟨_, OpOk.pass (dg := 31) rfl rfl rfl rfl rfl, ?_⟩
          refine ⟨_, OpOk.pass (dg := 31) rfl rfl rfl rfl rfl, ?_⟩
          refine ⟨_, OpOk.pass (dg := 31) rfl rfl rfl rfl rfl, ?_⟩
          refine ⟨_, OpOk.r (R.pickF rfl rfl) rfl, ?_⟩
          refine ⟨_, OpOk.r (R.assign rfl) rfl, ?_⟩
          show St _ _ _ _ _
          refine St.weak [(2, _), (5, _), (26, _)] ⟨rfl, rfl, rfl, trivial⟩ ?_
          refine St.then_n ?_
          refine St.go hK8 ?_
          clear hK8
          refine St.condF rfl ?_
          refine St.seq fun K16 hK16 => ?_
          refine St.region ?_
          refine St.r (R.move rfl) rfl rfl ?_
          refine St.r (R.notNil (et := 119) (e := _) Tryz.underlying32 rfl) rfl rfl ?_
          refine St.r (R.assign rfl) rfl rfl ?_
          refine St.nil ?_
          refine St.weak [(2, _), (5, _), (43, _)] ⟨rfl, rfl, rfl, trivial⟩ ?_
          refine St.then_n ?_
          refine St.go hK16 ?_
          clear hK16
          refine St.cond rfl (fun h43 => ?_) (fun h43 => ?_)
          ·
            refine St.seq fun K17 hK17 => ?_
            refine St.region ?_
            refine St.r (R.move rfl) rfl rfl ?_
            refine St.r (R.assign rfl) rfl rfl ?_
            refine St.nil ?_
            refine St.weak [(4, _)] ⟨rfl, trivial⟩ ?_
            refine St.then_n ?_
            refine St.go hK17 ?_
            clear hK17
            refine St.ret ?_
            refine St.in_r ?_
            refine St.then_r ?_
            refine St.ret1 Tryz.results211 rfl ?_
            exact ⟨_, rfl, by rw [ceM h14 h9 h20 hB h43], E⟩
          ·
            refine St.seq fun K18 hK18 => ?_
            by_cases h51 : c.layer < 1
            ·
              refine St.region ?_
              refine St.r (R.fieldA Tryz.underlying148 rfl Tryz.sizeOf3 rfl rfl rfl) rfl rfl ?_
              refine St.r (R.load1 Tryz.isAgg3 rfl (k2.cells.at 1 rfl)) rfl rfl ?_
              refine St.r (R.lss rfl rfl) rfl rfl ?_
              refine St.r (Runs.lit (c := true) (R.move rfl) (decide_eq_true h51)) rfl rfl ?_
              refine St.pass (dg := 51) rfl rfl rfl rfl rfl ?_
              refine St.pass (dg := 51) rfl rfl rfl rfl rfl ?_
              refine St.pass (dg := 51) rfl rfl rfl rfl rfl ?_
              refine St.r (R.pickT rfl rfl) rfl rfl ?_
              refine St.r (R.assign rfl) rfl rfl ?_
              refine St.nil ?_
              refine St.weak [(47, _)] ⟨rfl, trivial⟩ ?_
              refine St.then_n ?_
              refine St.go hK18 ?_
              clear hK18
              refine St.condT rfl ?_
              refine St.seq fun K19 hK19 => ?_
              refine St.region ?_
              refine St.r (R.iface Tryz.underlying119 rfl rfl) rfl rfl ?_
              refine St.r (R.assign rfl) rfl rfl ?_
              refine St.nil ?_
              refine St.weak [(4, _)] ⟨rfl, trivial⟩ ?_
              refine St.then_n ?_
              refine St.go hK19 ?_
              clear hK19
              refine St.ret ?_
              refine St.in_r ?_
              refine St.then_r ?_
              refine St.ret1 Tryz.results211 rfl ?_
              exact ⟨_, rfl, by rw [ceL h14 h9 h20 hB h43 (.inl h51)]; rfl, E⟩
            ·
              refine St.region ?_
              refine St.r (R.fieldA Tryz.underlying148 rfl Tryz.sizeOf3 rfl rfl rfl) rfl rfl ?_
              refine St.r (R.load1 Tryz.isAgg3 rfl (k2.cells.at 1 rfl)) rfl rfl ?_
              refine St.r (R.lss rfl rfl) rfl rfl ?_
              refine St.r (Runs.lit (c := false) (R.move rfl) (decide_eq_false h51)) rfl rfl ?_
              refine St.take (dg := 51) rfl rfl ?_ rfl
              refine St.r (R.fieldA Tryz.underlying148 rfl Tryz.sizeOf3 rfl rfl rfl) rfl rfl ?_
              refine St.take (dg := 51) rfl rfl ?_ rfl
              refine St.r (R.load1 Tryz.isAgg3 rfl (k2.cells.at 1 rfl)) rfl rfl ?_
              refine St.take (dg := 51) rfl rfl ?_ rfl
              refine St.r (R.gtr rfl rfl) rfl rfl ?_
              refine St.r (R.pickF rfl rfl) rfl rfl ?_
              refine St.r (R.assign rfl) rfl rfl ?_
              refine St.nil ?_
              refine St.weak [(47, _)] ⟨rfl, trivial⟩ ?_
              refine St.then_n ?_
              refine St.go hK18 ?_
              clear hK18
              refine St.condD rfl (fun h47 => ?_) (fun h47 => ?_)
              ·
                refine St.seq fun K20 hK20 => ?_
                refine St.region ?_
                refine St.r (R.iface Tryz.underlying119 rfl rfl) rfl rfl ?_
                refine St.r (R.assign rfl) rfl rfl ?_
                refine St.nil ?_
                refine St.weak [(4, _)] ⟨rfl, trivial⟩ ?_
                refine St.then_n ?_
                refine St.go hK20 ?_
                clear hK20
                refine St.ret ?_
                refine St.in_r ?_
                refine St.then_r ?_
                refine St.ret1 Tryz.results211 rfl ?_
                exact ⟨_, rfl, by rw [ceL h14 h9 h20 hB h43 (.inr h47)]; rfl, E⟩
              ·
                refine St.skip ?_
                refine St.in_n ?_
                refine St.then_n ?_
                refine St.go hK2 ?_
                clear hK2
                refine St.seq fun K21 hK21 => ?_
                refine St.region ?_
                refine St.r (R.assign rfl) rfl rfl ?_
                refine St.nil ?_
                refine St.weak [(4, _)] ⟨rfl, trivial⟩ ?_
                refine St.then_n ?_
                refine St.go hK21 ?_
                clear hK21
                refine St.ret ?_
                refine St.ret1 Tryz.results211 rfl ?_
                exact ⟨_, rfl, by rw [ceN h14 h9 h20 hB h43 h51 h47]; rfl, E⟩

theorem Of_ret {ls : List Commit} {v : Value} {i : Nat} (hi : i < ls.length) (h60 : ls.length ≤ 60) (hel : Elder ls) (w0 : World) (hv : RCommits w0 v ls) :
    Ret Tryz.prog 81 [v, .int .i64 (i : Int)] w0 fun r w' => ∃ g, r = .pointer (some ⟨g, 0, none⟩) ∧ Ext w0 w' ∧ w0.heap.size ≤ g ∧ Blk w' g 144 (bls (ofSet ls i)) := by
  obtain ⟨b, o, c, rfl, hlc, hc63, hrd⟩ := hv.at (by omega)
  have E : Ext w0 w0 := Ext.refl w0
  refine St.enter (N := 32) Tryz.func81 rfl Tryz.ntmps81 rfl ?_
  refine St.seq fun K0 hK0 => ?_
  refine St.region ?_
  refine St.r (R.assign rfl) rfl rfl ?_
  refine St.nil ?_
  refine St.weak [(0, _), (1, _)] ⟨rfl, rfl, trivial⟩ ?_
  refine St.then_n ?_
  refine St.go hK0 ?_
  clear hK0
  refine St.seq fun K1 hK1 => ?_
  refine St.region ?_
  refine St.alloc Tryz.zeroValue144 rfl ?_
  intro w5 b5 hb5 hs5 e5 k5
  have qE5 := E.size
  replace E := Ext.trans E e5
  refine St.nil ?_
  refine St.weak [(0, _), (1, _), (5, _)] ⟨rfl, rfl, rfl, trivial⟩ ?_
  refine St.then_n ?_
  refine St.go hK1 ?_
  clear hK1
  refine St.seq fun K2 hK2 => ?_
  refine St.region ?_
  refine St.r (R.move rfl) rfl rfl ?_
  refine St.r (R.indexA _ Tryz.underlying144 Tryz.sizeOf4 rfl rfl rfl (by omega)) rfl rfl ?_
  refine St.store Tryz.sizeOf4 rfl rfl k5 rfl (by simp [Value.cells]; omega) (by simp [Value.cells, Value.oneCell']) ?_
  intro ws0 ks0 gs0 zs0
  replace E := Ext.then E gs0 (by intro j hj; omega)
  clear k5; have k5 := ks0; clear ks0
  have kS : Blk ws0 b5 144 (bls ((List.replicate 60 false).set i true)) := by
    have h := k5
    simp only [Nat.zero_add, Nat.mul_one] at h
    rw [← bls_set]
    exact h
  clear k5
  refine St.nil ?_
  refine St.weak [(0, _), (1, _), (5, _)] ⟨rfl, rfl, rfl, trivial⟩ ?_
  refine St.then_n ?_
  refine St.go hK2 ?_
  clear hK2
  refine St.seq fun K3 hK3 => ?_
  refine St.seq fun K4 hK4 => ?_
  refine St.region ?_
  refine St.r (R.move rfl) rfl rfl ?_
  refine St.r (R.assign rfl) rfl rfl ?_
  refine St.nil ?_
  refine St.weak [(0, _), (5, _), (6, _)] ⟨rfl, rfl, rfl, trivial⟩ ?_
  refine St.then_n ?_
  refine St.go hK4 ?_
  clear hK4
  refine St.block ?_
  refine St.loop (fun (x : Nat × List Bool) => match x with | (m, s) => [(0, .slice (some ⟨b, o, none⟩) ls.length c), (5, .pointer (some ⟨b5, 0, none⟩)), (6, .int .i64 ((m : Int) - 1))])
      (fun (x : Nat × List Bool) w => match x with | (m, s) => m ≤ i + 1 ∧ s.length = 60 ∧ Ext w0 w ∧ Blk w b5 144 (bls s) ∧ ofLoop ls m s = ofSet ls i)
      (fun (x : Nat × List Bool) => match x with | (m, s) => m) (i + 1, (List.replicate 60 false).set i true) ⟨rfl, rfl, (look_int rfl (by omega)), trivial⟩ ?_ ?_
  · exact ⟨Nat.le_refl _, by simp, E, kS, rfl⟩
  rintro ⟨m, s⟩ w ⟨hm, hs, E, kS, hof⟩
  show St _ _ [(0, .slice (some ⟨b, o, none⟩) ls.length c), (5, .pointer (some ⟨b5, 0, none⟩)), (6, .int .i64 ((m : Int) - 1))] _ _
  refine St.seq fun K5 hK5 => ?_
  refine St.seq fun K6 hK6 => ?_
  refine St.region ?_
  refine St.r (R.move rfl) rfl rfl ?_
  refine St.r (R.geq rfl rfl) rfl rfl ?_
  refine St.nil ?_
  refine St.weak [(0, _), (5, _), (6, _), (13, _)] ⟨rfl, rfl, rfl, rfl, trivial⟩ ?_
  refine St.then_n ?_
  refine St.go hK6 ?_
  clear hK6
  refine St.condD rfl (fun h13 => ?_) (fun h13 => ?_)
  ·
    obtain ⟨k, rfl⟩ : ∃ k, m = k + 1 := ⟨m - 1, by omega⟩
    obtain ⟨bb, hsk⟩ := get_of_lt (xs := s) (k := k) (by omega)
    refine St.skip ?_
    refine St.then_n ?_
    refine St.go hK5 ?_
    clear hK5
    refine St.seq fun K7 hK7 => ?_
    refine St.block ?_
    refine St.seq fun K8 hK8 => ?_
    refine St.region ?_
    refine St.r (R.move rfl) rfl rfl ?_
    refine St.r (R.indexA k Tryz.underlying144 Tryz.sizeOf4 rfl rfl (by omega) (by omega)) rfl rfl ?_
    refine St.r (R.load1 Tryz.isAgg4 rfl (kS.cells.at (k * 1) (by rw [Nat.mul_one]; exact bls_get hsk))) rfl rfl ?_
    refine St.nil ?_
    refine St.weak [(0, _), (5, _), (6, _), (18, _)] ⟨rfl, rfl, rfl, rfl, trivial⟩ ?_
    refine St.then_n ?_
    refine St.go hK8 ?_
    clear hK8
    refine St.cond rfl (fun h18 => ?_) (fun h18 => ?_)
    ·
      obtain ⟨cm, hcm⟩ := get_of_lt (xs := ls) (k := k) (by omega)
      obtain ⟨cs, -, hcell, pv, rfl, hpv⟩ := hrd k cm hcm
      have helk := hel k cm hcm
      obtain ⟨pA, pc, rfl, hp1, hp2⟩ := hpv.form
      refine St.seq fun K9 hK9 => ?_
      refine St.region ?_
      refine St.r (R.move rfl) rfl rfl ?_
      refine St.r (R.move rfl) rfl rfl ?_
      refine St.r (R.indexS k Tryz.underlying66 Tryz.sizeOf148 rfl rfl (by omega) (by omega)) rfl rfl ?_
      refine St.r (R.fieldA Tryz.underlying148 rfl Tryz.sizeOf27 rfl rfl rfl) rfl rfl ?_
      refine St.r (R.load1 Tryz.isAgg27 rfl ((E.cells hcell).at 0 rfl)) rfl rfl ?_
      refine St.r (R.lenSl Tryz.underlying27 rfl) rfl rfl ?_
      refine St.r (R.move rfl) rfl rfl ?_
      refine St.nil ?_
      refine St.weak [(0, _), (5, _), (6, _), (23, _), (24, _), (25, _)] ⟨rfl, rfl, rfl, rfl, rfl, rfl, trivial⟩ ?_
      refine St.then_n ?_
      refine St.go hK9 ?_
      clear hK9
      refine St.block ?_
      refine St.loop (fun (j : Nat) => [(0, .slice (some ⟨b, o, none⟩) ls.length c), (5, .pointer (some ⟨b5, 0, none⟩)), (6, .int .i64 (((k + 1 : Nat) : Int) - 1)), (23, .slice pA cm.parents.length pc), (24, .int .i64 (cm.parents.length : Int)), (25, .int .i64 (j : Int))])
          (fun (j : Nat) w => j ≤ cm.parents.length ∧ Ext w0 w ∧ Blk w b5 144 (bls (setAll s (cm.parents.take j))))
          (fun (j : Nat) => cm.parents.length - j) 0 ⟨rfl, rfl, rfl, rfl, rfl, rfl, trivial⟩ ?_ ?_
      · exact ⟨Nat.zero_le _, E, kS⟩
      rintro j w ⟨hj, E, kS⟩
      show St _ _ [(0, .slice (some ⟨b, o, none⟩) ls.length c), (5, .pointer (some ⟨b5, 0, none⟩)), (6, .int .i64 (((k + 1 : Nat) : Int) - 1)), (23, .slice pA cm.parents.length pc), (24, .int .i64 (cm.parents.length : Int)), (25, .int .i64 (j : Int))] _ _
      refine St.seq fun K10 hK10 => ?_
      refine St.region ?_
      refine St.r (R.lss rfl rfl) rfl rfl ?_
      refine St.nil ?_
      refine St.weak [(0, _), (5, _), (6, _), (23, _), (24, _), (25, _), (26, _)] ⟨rfl, rfl, rfl, rfl, rfl, rfl, rfl, trivial⟩ ?_
      refine St.then_n ?_
      refine St.go hK10 ?_
      clear hK10
      refine St.seq fun K11 hK11 => ?_
      refine St.condD rfl (fun h26 => ?_) (fun h26 => ?_)
      ·
        obtain ⟨p, hp⟩ := get_of_lt (xs := cm.parents) (k := j) (by omega)
        obtain ⟨hp0, hpk⟩ := helk p (List.mem_of_getElem? hp)
        obtain ⟨pb, po, pc', heq, -, -, hpc⟩ := hpv.at (by omega)
        cases heq
        obtain ⟨cs, -, hx, rfl⟩ := hpc j p hp
        refine St.skip ?_
        refine St.then_n ?_
        refine St.go hK11 ?_
        clear hK11
        refine St.seq fun K12 hK12 => ?_
        refine St.block ?_
        refine St.seq fun K13 hK13 => ?_
        refine St.region ?_
        refine St.r (R.indexS _ Tryz.underlying27 Tryz.sizeOf3 rfl rfl rfl (by omega)) rfl rfl ?_
        refine St.r (R.load1 Tryz.isAgg3 rfl ((E.cells hx).at 0 rfl)) rfl rfl ?_
        refine St.r (R.assign rfl) rfl rfl ?_
        refine St.nil ?_
        refine St.weak [(0, _), (5, _), (6, _), (8, _), (23, _), (24, _), (25, _)] ⟨rfl, rfl, rfl, rfl, rfl, rfl, rfl, trivial⟩ ?_
        refine St.then_n ?_
        refine St.go hK13 ?_
        clear hK13
        refine St.region ?_
        refine St.r (R.move rfl) rfl rfl ?_
        refine St.r (R.indexA p.toNat Tryz.underlying144 Tryz.sizeOf4 rfl rfl (by omega) (by omega)) rfl rfl ?_
        refine St.store Tryz.sizeOf4 rfl rfl kS rfl (by simp only [bls_length, setAll_length]; omega) (by simp [Value.cells, Value.oneCell']) ?_
        intro ws1 ks1 gs1 zs1
        replace E := Ext.then E gs1 (by intro j hj; omega)
        clear kS; have kS := ks1; clear ks1
        refine St.nil ?_
        refine St.weak [(0, _), (5, _), (6, _), (23, _), (24, _), (25, _)] ⟨rfl, rfl, rfl, rfl, rfl, rfl, trivial⟩ ?_
        refine St.in_n ?_
        refine St.then_n ?_
        refine St.go hK12 ?_
        clear hK12
        refine St.region ?_
        refine St.r (R.add rfl rfl (by omega) (by omega)) rfl rfl ?_
        refine St.r (R.move rfl) rfl rfl ?_
        refine St.nil ?_
        refine St.weak [(0, _), (5, _), (6, _), (23, _), (24, _), (25, _)] ⟨rfl, rfl, rfl, rfl, rfl, rfl, trivial⟩ ?_
        refine St.then_n ?_
        refine St.round (j + 1) ⟨rfl, rfl, rfl, rfl, rfl, rfl, trivial⟩ ?_ ?_
        · refine ⟨by omega, E, ?_⟩
          have h := kS
          simp only [Nat.zero_add, Nat.mul_one] at h
          rw [take_snoc hp, setAll_snoc, ← bls_set]
          exact h
        · omega
      ·
        refine St.exit ?_
        refine St.then_x ?_
        refine St.then_x ?_
        refine St.in_x ?_
        refine St.in_n ?_
        refine St.then_n ?_
        refine St.go hK7 ?_
        clear hK7
        refine St.region ?_
        refine St.r (R.move rfl) rfl rfl ?_
        refine St.r (R.sub rfl rfl (by omega) (by omega)) rfl rfl ?_
        refine St.r (R.assign rfl) rfl rfl ?_
        refine St.nil ?_
        refine St.weak [(0, _), (5, _), (6, _)] ⟨rfl, rfl, rfl, trivial⟩ ?_
        refine St.then_n ?_
        refine St.round (k, setAll s cm.parents) ⟨rfl, rfl, (look_int rfl (by omega)), trivial⟩ ?_ ?_
        · try dsimp only
          refine ⟨by omega, by rw [setAll_length]; exact hs, E, ?_, ?_⟩
          · rw [List.take_of_length_le (by omega)] at kS; exact kS
          · rw [← hof, ofLoop, ofStep, List.getD_eq_getElem?_getD, hsk, hcm]; simp [h18]
        · try dsimp only
          simp
    ·
      refine St.skip ?_
      refine St.in_n ?_
      refine St.then_n ?_
      refine St.go hK7 ?_
      clear hK7
      refine St.region ?_
      refine St.r (R.move rfl) rfl rfl ?_
      refine St.r (R.sub rfl rfl (by omega) (by omega)) rfl rfl ?_
      refine St.r (R.assign rfl) rfl rfl ?_
      refine St.nil ?_
      refine St.weak [(0, _), (5, _), (6, _)] ⟨rfl, rfl, rfl, trivial⟩ ?_
      refine St.then_n ?_
      refine St.round (k, s) ⟨rfl, rfl, (look_int rfl (by omega)), trivial⟩ ?_ ?_
      · try dsimp only
        refine ⟨by omega, hs, E, kS, ?_⟩
        rw [← hof, ofLoop, ofStep, List.getD_eq_getElem?_getD, hsk]; simp [h18]
      · try dsimp only
        simp
  ·
    refine St.exit ?_
    refine St.then_x ?_
    refine St.then_x ?_
    refine St.in_x ?_
    refine St.then_n ?_
    refine St.go hK3 ?_
    clear hK3
    refine St.seq fun K14 hK14 => ?_
    refine St.region ?_
    refine St.r (R.assign rfl) rfl rfl ?_
    refine St.nil ?_
    refine St.weak [(4, _)] ⟨rfl, trivial⟩ ?_
    refine St.then_n ?_
    refine St.go hK14 ?_
    clear hK14
    refine St.ret ?_
    refine St.ret1 Tryz.results81 rfl ?_
    obtain rfl : m = 0 := by omega
    exact ⟨_, rfl, b5, rfl, E, by omega, by rw [← hof]; exact kS⟩

theorem Check_ret {ls : List Commit} {v : Value} (w0 : World) (hv : RCommits w0 v ls) : Ret Tryz.prog 158 [v] w0 fun r w' => r = .tuple #[.int .i64 (checkErr ls).1, errV 119 (checkErr ls).2] ∧ Ext w0 w' := by
  obtain ⟨A, c, rfl, hc1, hc2⟩ := hv.form
  have E : Ext w0 w0 := Ext.refl w0
  refine St.enter (N := 26) Tryz.func158 rfl Tryz.ntmps158 rfl ?_
  refine St.seq fun K0 hK0 => ?_
  refine St.region ?_
  refine St.r (R.assign rfl) rfl rfl ?_
  refine St.r (R.assign rfl) rfl rfl ?_
  refine St.nil ?_
  refine St.weak [(0, _)] ⟨rfl, trivial⟩ ?_
  refine St.then_n ?_
  refine St.go hK0 ?_
  clear hK0
  refine St.seq fun K1 hK1 => ?_
  refine St.seq fun K2 hK2 => ?_
  refine St.region ?_
  refine St.r (R.move rfl) rfl rfl ?_
  refine St.r (R.lenSl Tryz.underlying66 rfl) rfl rfl ?_
  refine St.r (R.gtr rfl rfl) rfl rfl ?_
  refine St.nil ?_
  refine St.weak [(0, _), (9, _)] ⟨rfl, rfl, trivial⟩ ?_
  refine St.then_n ?_
  refine St.go hK2 ?_
  clear hK2
  refine St.condD rfl (fun h9 => ?_) (fun h9 => ?_)
  ·
    refine St.seq fun K3 hK3 => ?_
    refine St.region ?_
    refine St.r (R.iface Tryz.underlying119 rfl rfl) rfl rfl ?_
    refine St.r (R.assign rfl) rfl rfl ?_
    refine St.r (R.assign rfl) rfl rfl ?_
    refine St.nil ?_
    refine St.weak [(2, _), (3, _)] ⟨rfl, rfl, trivial⟩ ?_
    refine St.then_n ?_
    refine St.go hK3 ?_
    clear hK3
    refine St.ret ?_
    refine St.then_r ?_
    refine St.ret2 Tryz.results158 rfl rfl ?_
    exact ⟨_, rfl, by rw [checkErr, if_pos h9]; rfl, E⟩
  ·
    have hce : checkErr ls = firstErr (ls.drop 0) 0 := by rw [checkErr, if_neg h9]; rfl
    refine St.skip ?_
    refine St.then_n ?_
    refine St.go hK1 ?_
    clear hK1
    refine St.seq fun K4 hK4 => ?_
    refine St.seq fun K5 hK5 => ?_
    refine St.region ?_
    refine St.r (R.move rfl) rfl rfl ?_
    refine St.r (R.lenSl Tryz.underlying66 rfl) rfl rfl ?_
    refine St.r (R.move rfl) rfl rfl ?_
    refine St.nil ?_
    refine St.weak [(11, _), (12, _), (13, _)] ⟨rfl, rfl, rfl, trivial⟩ ?_
    refine St.then_n ?_
    refine St.go hK5 ?_
    clear hK5
    refine St.block ?_
    refine St.loop (fun (k : Nat) => [(11, .slice A ls.length c), (12, .int .i64 (ls.length : Int)), (13, .int .i64 (k : Int))])
        (fun (k : Nat) w => k ≤ ls.length ∧ Ext w0 w ∧ checkErr ls = firstErr (ls.drop k) k)
        (fun (k : Nat) => ls.length - k) 0 ⟨rfl, rfl, rfl, trivial⟩ ?_ ?_
    · exact ⟨Nat.zero_le _, E, hce⟩
    rintro k w ⟨hk, E, hce⟩
    show St _ _ [(11, .slice A ls.length c), (12, .int .i64 (ls.length : Int)), (13, .int .i64 (k : Int))] _ _
    refine St.seq fun K6 hK6 => ?_
    refine St.region ?_
    refine St.r (R.lss rfl rfl) rfl rfl ?_
    refine St.nil ?_
    refine St.weak [(11, _), (12, _), (13, _), (14, _)] ⟨rfl, rfl, rfl, rfl, trivial⟩ ?_
    refine St.then_n ?_
    refine St.go hK6 ?_
    clear hK6
    refine St.seq fun K7 hK7 => ?_
    refine St.condD rfl (fun h14 => ?_) (fun h14 => ?_)
    ·
      obtain ⟨x, hx⟩ := get_of_lt (xs := ls) (k := k) (by omega)
      obtain ⟨b, o, c', heq, -, -, hcell⟩ := hv.at (by omega)
      cases heq
      obtain ⟨cs, -, hx', pv, rfl, hpv⟩ := hcell k x hx
      refine St.skip ?_
      refine St.then_n ?_
      refine St.go hK7 ?_
      clear hK7
      refine St.seq fun K8 hK8 => ?_
      refine St.block ?_
      refine St.seq fun K9 hK9 => ?_
      refine St.region ?_
      refine St.r (R.move rfl) rfl rfl ?_
      refine St.r (R.indexS _ Tryz.underlying66 Tryz.sizeOf148 rfl rfl rfl (by omega)) rfl rfl ?_
      refine St.r (R.loadA Tryz.isAgg148 Tryz.sizeOf148 rfl (E.cells hx') rfl) rfl rfl ?_
      refine St.alloc Tryz.zeroValue148 rfl ?_
      intro w5 b5 hb5 hs5 e5 k5
      have qE5 := E.size
      replace E := Ext.trans E e5
      refine St.r (R.assign rfl) rfl rfl ?_
      refine St.store Tryz.sizeOf148 rfl rfl k5 rfl (by simp [Value.cells]) (by intro u hu; simp [Value.cells] at hu; obtain ⟨pA, pc, rfl, -, -⟩ := hpv.form; rcases hu with rfl | rfl | rfl <;> rfl) ?_
      intro ws0 ks0 gs0 zs0
      replace E := Ext.then E gs0 (by intro j hj; omega)
      clear k5; have k5 := ks0; clear ks0
      refine St.nil ?_
      refine St.weak [(4, _), (5, _), (11, _), (12, _), (13, _)] ⟨rfl, rfl, rfl, rfl, rfl, trivial⟩ ?_
      refine St.then_n ?_
      refine St.go hK9 ?_
      clear hK9
      refine St.seq fun K10 hK10 => ?_
      refine St.region ?_
      refine St.r (R.loadA Tryz.isAgg148 Tryz.sizeOf148 rfl k5.cells rfl) rfl rfl ?_
      refine St.r (R.move rfl) rfl rfl ?_
      refine St.call rfl rfl ent211 (commit_ret (c := x) _ ⟨pv, rfl, hpv.ext (REnc.firm _) E⟩) rfl ?_
      rintro r20 w20 ⟨rfl, e20⟩
      replace E := Ext.trans E e20
      replace k5 := k5.ext e20
      refine St.r (R.assign rfl) rfl rfl ?_
      refine St.nil ?_
      refine St.weak [(4, _), (6, _), (11, _), (12, _), (13, _)] ⟨rfl, rfl, rfl, rfl, rfl, trivial⟩ ?_
      refine St.then_n ?_
      refine St.go hK10 ?_
      clear hK10
      refine St.seq fun K11 hK11 => ?_
      refine St.region ?_
      refine St.r (R.move rfl) rfl rfl ?_
      refine St.r (R.notNil (et := 119) (e := _) Tryz.underlying32 rfl) rfl rfl ?_
      refine St.nil ?_
      refine St.weak [(4, _), (6, _), (11, _), (12, _), (13, _), (22, _)] ⟨rfl, rfl, rfl, rfl, rfl, rfl, trivial⟩ ?_
      refine St.then_n ?_
      refine St.go hK11 ?_
      clear hK11
      refine St.cond rfl (fun h22 => ?_) (fun h22 => ?_)
      ·
        refine St.seq fun K12 hK12 => ?_
        refine St.region ?_
        refine St.r (R.move rfl) rfl rfl ?_
        refine St.r (R.move rfl) rfl rfl ?_
        refine St.r (R.assign rfl) rfl rfl ?_
        refine St.r (R.assign rfl) rfl rfl ?_
        refine St.nil ?_
        refine St.weak [(2, _), (3, _)] ⟨rfl, rfl, trivial⟩ ?_
        refine St.then_n ?_
        refine St.go hK12 ?_
        clear hK12
        refine St.ret ?_
        refine St.in_r ?_
        refine St.then_r ?_
        refine St.then_r ?_
        refine St.in_r ?_
        refine St.then_r ?_
        refine St.ret2 Tryz.results158 rfl rfl ?_
        exact ⟨_, rfl, by rw [hce, firstErr_at hx h22], E⟩
      ·
        refine St.skip ?_
        refine St.in_n ?_
        refine St.then_n ?_
        refine St.go hK8 ?_
        clear hK8
        refine St.region ?_
        refine St.r (R.add rfl rfl (by omega) (by omega)) rfl rfl ?_
        refine St.r (R.move rfl) rfl rfl ?_
        refine St.nil ?_
        refine St.weak [(11, _), (12, _), (13, _)] ⟨rfl, rfl, rfl, trivial⟩ ?_
        refine St.then_n ?_
        refine St.round (k + 1) ⟨rfl, rfl, rfl, trivial⟩ ?_ ?_
        · exact ⟨by omega, E, by rw [hce, firstErr_drop hx h22]⟩
        · omega
    ·
      refine St.exit ?_
      refine St.then_x ?_
      refine St.then_x ?_
      refine St.in_x ?_
      refine St.then_n ?_
      refine St.go hK4 ?_
      clear hK4
      refine St.seq fun K13 hK13 => ?_
      refine St.region ?_
      refine St.r (R.assign rfl) rfl rfl ?_
      refine St.r (R.assign rfl) rfl rfl ?_
      refine St.nil ?_
      refine St.weak [(2, _), (3, _)] ⟨rfl, rfl, trivial⟩ ?_
      refine St.then_n ?_
      refine St.go hK13 ?_
      clear hK13
      refine St.ret ?_
      refine St.ret2 Tryz.results158 rfl rfl ?_
      exact ⟨_, rfl, by rw [hce, List.drop_of_length_le (by omega)]; rfl, E⟩

theorem ready_ret {ls : List Commit} {v nv : Value} {nums : List Int} (w0 : World) (hv : RCommits w0 v ls) (hn : RInts w0 nv nums) : Ret Tryz.prog 94 [v, nv] w0 fun r w' => r = errV 119 (readyErr ls nums) ∧ Ext w0 w' := by
  obtain ⟨A, c, rfl, hc1, hc2⟩ := hv.form
  have E : Ext w0 w0 := Ext.refl w0
  refine St.enter (N := 19) Tryz.func94 rfl Tryz.ntmps94 rfl ?_
  refine St.seq fun K0 hK0 => ?_
  refine St.region ?_
  refine St.box rfl rfl ?_
  intro w2 b2 hb2 hs2 e2 k2
  have qE2 := E.size
  replace E := Ext.trans E e2
  refine St.r (R.assign rfl) rfl rfl ?_
  refine St.nil ?_
  refine St.weak [(1, _), (2, _)] ⟨rfl, rfl, trivial⟩ ?_
  refine St.then_n ?_
  refine St.go hK0 ?_
  clear hK0
  refine St.seq fun K1 hK1 => ?_
  refine St.seq fun K2 hK2 => ?_
  refine St.region ?_
  refine St.r (R.load1 Tryz.isAgg66 rfl (k2.cell 0 rfl)) rfl rfl ?_
  refine St.call rfl rfl ent158 (Check_ret _ (hv.ext RCommit.firm E)) rfl ?_
  rintro r9 w9 ⟨rfl, e9⟩
  replace E := Ext.trans E e9
  replace k2 := k2.ext e9
  refine St.r (R.move rfl) rfl rfl ?_
  refine St.r (R.extract rfl rfl) rfl rfl ?_
  refine St.r (R.extract rfl rfl) rfl rfl ?_
  refine St.r (R.assign rfl) rfl rfl ?_
  refine St.r (R.assign rfl) rfl rfl ?_
  refine St.nil ?_
  refine St.weak [(1, _), (2, _), (6, _)] ⟨rfl, rfl, rfl, trivial⟩ ?_
  refine St.then_n ?_
  refine St.go hK2 ?_
  clear hK2
  refine St.seq fun K3 hK3 => ?_
  refine St.region ?_
  refine St.r (R.move rfl) rfl rfl ?_
  refine St.r (R.notNil (et := 119) (e := _) Tryz.underlying32 rfl) rfl rfl ?_
  refine St.nil ?_
  refine St.weak [(1, _), (2, _), (6, _), (13, _)] ⟨rfl, rfl, rfl, rfl, trivial⟩ ?_
  refine St.then_n ?_
  refine St.go hK3 ?_
  clear hK3
  refine St.cond rfl (fun h13 => ?_) (fun h13 => ?_)
  ·
    refine St.seq fun K4 hK4 => ?_
    refine St.region ?_
    refine St.r (R.move rfl) rfl rfl ?_
    refine St.r (R.assign rfl) rfl rfl ?_
    refine St.nil ?_
    refine St.weak [(4, _)] ⟨rfl, trivial⟩ ?_
    refine St.then_n ?_
    refine St.go hK4 ?_
    clear hK4
    refine St.ret ?_
    refine St.then_r ?_
    refine St.ret1 Tryz.results94 rfl ?_
    exact ⟨_, rfl, by rw [readyErr, if_pos h13], E⟩
  ·
    refine St.skip ?_
    refine St.then_n ?_
    refine St.go hK1 ?_
    clear hK1
    refine St.seq fun K5 hK5 => ?_
    refine St.seq fun K6 hK6 => ?_
    refine St.region ?_
    refine St.r (R.move rfl) rfl rfl ?_
    refine St.r (R.fn rfl rfl) rfl rfl ?_
    refine St.call rfl rfl ent159 (int_ContainsFunc (p := badNum ls.length) _ (hn.ext (REnc.firm _) E) ent160 (fun W x eW _ => ready1_ret W (eW.cell (k2.cell 0 rfl)))) rfl ?_
    rintro r17 w17 ⟨rfl, e17⟩
    replace E := Ext.trans E e17
    replace k2 := k2.ext e17
    refine St.nil ?_
    refine St.weak [(17, _)] ⟨rfl, trivial⟩ ?_
    refine St.then_n ?_
    refine St.go hK6 ?_
    clear hK6
    refine St.cond rfl (fun h17 => ?_) (fun h17 => ?_)
    ·
      refine St.seq fun K7 hK7 => ?_
      refine St.region ?_
      refine St.r (R.iface Tryz.underlying119 rfl rfl) rfl rfl ?_
      refine St.r (R.assign rfl) rfl rfl ?_
      refine St.nil ?_
      refine St.weak [(4, _)] ⟨rfl, trivial⟩ ?_
      refine St.then_n ?_
      refine St.go hK7 ?_
      clear hK7
      refine St.ret ?_
      refine St.then_r ?_
      refine St.ret1 Tryz.results94 rfl ?_
      exact ⟨_, rfl, by rw [readyErr, if_neg (by rw [h13]; simp), if_pos h17]; rfl, E⟩
    ·
      refine St.skip ?_
      refine St.then_n ?_
      refine St.go hK5 ?_
      clear hK5
      refine St.seq fun K8 hK8 => ?_
      refine St.region ?_
      refine St.r (R.assign rfl) rfl rfl ?_
      refine St.nil ?_
      refine St.weak [(4, _)] ⟨rfl, trivial⟩ ?_
      refine St.then_n ?_
      refine St.go hK8 ?_
      clear hK8
      refine St.ret ?_
      refine St.ret1 Tryz.results94 rfl ?_
      exact ⟨_, rfl, by rw [readyErr, if_neg (by rw [h13]; simp), if_neg (by rw [h17]; simp)]; rfl, E⟩

theorem list_ret {s : List Bool} {b : Nat} (hs : s.length = 60) (w0 : World) (hb : Blk w0 b 144 (bls s)) : Ret Tryz.prog 95 [.pointer (some ⟨b, 0, none⟩)] w0 fun r w' => Own encInt 1 w0.heap.size 3 w' r (setList s) ∧ Ext w0 w' := by
  have E : Ext w0 w0 := Ext.refl w0
  refine St.enter (N := 19) Tryz.func95 rfl Tryz.ntmps95 rfl ?_
  refine St.seq fun K0 hK0 => ?_
  refine St.region ?_
  refine St.r (R.assign rfl) rfl rfl ?_
  refine St.nil ?_
  refine St.weak [(0, _), (2, _)] ⟨rfl, rfl, trivial⟩ ?_
  refine St.then_n ?_
  refine St.go hK0 ?_
  clear hK0
  refine St.seq fun K1 hK1 => ?_
  refine St.seq fun K2 hK2 => ?_
  refine St.region ?_
  refine St.r (R.move rfl) rfl rfl ?_
  refine St.r (R.move rfl) rfl rfl ?_
  refine St.nil ?_
  refine St.weak [(2, _), (5, _), (6, _)] ⟨rfl, rfl, rfl, trivial⟩ ?_
  refine St.then_n ?_
  refine St.go hK2 ?_
  clear hK2
  refine St.block ?_
  refine St.loop (fun (x : Nat × Value) => match x with | (k, v) => [(2, v), (5, .pointer (some ⟨b, 0, none⟩)), (6, .int .i64 (k : Int))])
      (fun (x : Nat × Value) w => match x with | (k, v) => k ≤ 60 ∧ Ext w0 w ∧ Own encInt 1 w0.heap.size 3 w v (setListTo s k))
      (fun (x : Nat × Value) => match x with | (k, v) => 60 - k) (0, .slice none 0 0) ⟨rfl, rfl, rfl, trivial⟩ ?_ ?_
  · exact ⟨by omega, E, Own.nil _ _ _ _ _⟩
  rintro ⟨k, v⟩ w ⟨hk, E, ho⟩
  show St _ _ [(2, v), (5, .pointer (some ⟨b, 0, none⟩)), (6, .int .i64 (k : Int))] _ _
  refine St.seq fun K3 hK3 => ?_
  refine St.region ?_
  refine St.r (R.lss rfl rfl) rfl rfl ?_
  refine St.nil ?_
  refine St.weak [(2, _), (5, _), (6, _), (7, _)] ⟨rfl, rfl, rfl, rfl, trivial⟩ ?_
  refine St.then_n ?_
  refine St.go hK3 ?_
  clear hK3
  refine St.seq fun K4 hK4 => ?_
  refine St.condD rfl (fun h7 => ?_) (fun h7 => ?_)
  ·
    obtain ⟨bb, hsk⟩ := get_of_lt (xs := s) (k := k) (by omega)
    refine St.skip ?_
    refine St.then_n ?_
    refine St.go hK4 ?_
    clear hK4
    refine St.seq fun K5 hK5 => ?_
    refine St.block ?_
    refine St.seq fun K6 hK6 => ?_
    refine St.weak [(2, _), (5, _), (6, _)] ⟨rfl, rfl, rfl, trivial⟩ ?_
    refine St.draw mixed rfl rfl rfl rfl ?_
    replace E := Ext.trans E (Ext.drew _)
    replace ho := ho.ext (Ext.drew _)
    refine ⟨_, OpOk.r (R.move rfl) rfl, ?_⟩
    refine ⟨_, OpOk.r (R.nilOk rfl) rfl, ?_⟩
    refine ⟨_, OpOk.r (R.indexA _ Tryz.underlying144 Tryz.sizeOf4 rfl rfl rfl (by omega)) rfl, ?_⟩
    refine ⟨_, OpOk.r (R.load1 Tryz.isAgg4 rfl ((hb.ext E).cells.at (k * 1) (by rw [Nat.mul_one]; exact bls_get hsk))) rfl, ?_⟩
    refine ⟨_, OpOk.r (R.assign rfl) rfl, ?_⟩
    refine ⟨_, OpOk.r (R.assign rfl) rfl, ?_⟩
    show St _ _ _ _ _
    refine St.weak [(2, _), (3, _), (4, _), (5, _), (6, _)] ⟨rfl, rfl, rfl, rfl, rfl, trivial⟩ ?_
    refine St.then_n ?_
    refine St.go hK6 ?_
    clear hK6
    refine St.seq fun K7 hK7 => ?_
    refine St.region ?_
    refine St.r (R.move rfl) rfl rfl ?_
    refine St.nil ?_
    refine St.weak [(2, _), (3, _), (5, _), (6, _), (12, _)] ⟨rfl, rfl, rfl, rfl, rfl, trivial⟩ ?_
    refine St.then_n ?_
    refine St.go hK7 ?_
    clear hK7
    refine St.cond rfl (fun h12 => ?_) (fun h12 => ?_)
    ·
      refine St.region ?_
      refine St.r (R.move rfl) rfl rfl ?_
      refine St.r (R.move rfl) rfl rfl ?_
      refine St.buildSl Tryz.underlying27 Tryz.sizeOf3 Tryz.zeroValue3 rfl rfl rfl rfl (by intro u hu; simp only [List.mem_cons, List.not_mem_nil, or_false] at hu; first | (subst hu; rfl) | (rcases hu with rfl | rfl <;> rfl) | (rcases hu with rfl | rfl | rfl <;> rfl) | (rcases hu with rfl | rfl | rfl | rfl <;> rfl)) rfl ?_
      intro w15 b15 hb15 hs15 e15 k15
      have qE15 := E.size
      replace E := Ext.trans E e15
      replace ho := ho.ext e15
      refine St.append (enc := encInt) (fun _ => rfl) one_int Tryz.underlying27 info3 rfl rfl rfl rfl ho (RSl.mk (enc := encInt) (xs := [(k : Int)]) encInt_len k15.cells (fun i u hu => hu) (by simp) (by simp)) (by have := setListTo_length s k; simp; omega) (by have := setListTo_length s k; simp; omega) E.size rfl ?_
      intro v16 w16 a16 g16 at16
      replace E := Ext.then E g16 (by intro j hj hk; have := (ho.base hk).1; omega)
      clear ho; have ho := a16; clear a16
      refine St.r (R.assign rfl) rfl rfl ?_
      refine St.nil ?_
      refine St.weak [(2, _), (5, _), (6, _)] ⟨rfl, rfl, rfl, trivial⟩ ?_
      refine St.in_n ?_
      refine St.then_n ?_
      refine St.go hK5 ?_
      clear hK5
      refine St.region ?_
      refine St.r (R.add rfl rfl (by omega) (by omega)) rfl rfl ?_
      refine St.r (R.move rfl) rfl rfl ?_
      refine St.nil ?_
      refine St.weak [(2, _), (5, _), (6, _)] ⟨rfl, rfl, rfl, trivial⟩ ?_
      refine St.then_n ?_
      refine St.round (k + 1, v16) ⟨rfl, rfl, rfl, trivial⟩ ?_ ?_
      · try dsimp only
        exact ⟨by omega, E, by rw [setListTo_succ, List.getD_eq_getElem?_getD, hsk, Option.getD_some, h12, if_pos rfl]; exact ho⟩
      · try dsimp only
        omega
    ·
      refine St.skip ?_
      refine St.in_n ?_
      refine St.then_n ?_
      refine St.go hK5 ?_
      clear hK5
      refine St.region ?_
      refine St.r (R.add rfl rfl (by omega) (by omega)) rfl rfl ?_
      refine St.r (R.move rfl) rfl rfl ?_
      refine St.nil ?_
      refine St.weak [(2, _), (5, _), (6, _)] ⟨rfl, rfl, rfl, trivial⟩ ?_
      refine St.then_n ?_
      refine St.round (k + 1, v) ⟨rfl, rfl, rfl, trivial⟩ ?_ ?_
      · try dsimp only
        exact ⟨by omega, E, by rw [setListTo_succ, List.getD_eq_getElem?_getD, hsk, Option.getD_some, h12, if_neg (by simp), List.append_nil]; exact ho⟩
      · try dsimp only
        omega
  ·
    refine St.exit ?_
    refine St.then_x ?_
    refine St.then_x ?_
    refine St.in_x ?_
    refine St.then_n ?_
    refine St.go hK1 ?_
    clear hK1
    refine St.seq fun K8 hK8 => ?_
    refine St.region ?_
    refine St.r (R.move rfl) rfl rfl ?_
    refine St.r (R.assign rfl) rfl rfl ?_
    refine St.nil ?_
    refine St.weak [(2, _)] ⟨rfl, trivial⟩ ?_
    refine St.then_n ?_
    refine St.go hK8 ?_
    clear hK8
    refine St.ret ?_
    refine St.ret1 Tryz.results95 rfl ?_
    obtain rfl : k = 60 := by omega
    exact ⟨_, rfl, by rw [setList_eq hs]; exact ho, E⟩


theorem In_ret {xs : List Int} {v : Value} {n : Int} (w0 : World) (hv : RInts w0 v xs) : Ret Tryz.prog 15 [v, .int .i64 n] w0 fun r w' => r = .bool (xs.any fun x => decide (x = n)) ∧ Ext w0 w' := by
  obtain ⟨A, c, rfl, hc1, hc2⟩ := hv.form
  have E : Ext w0 w0 := Ext.refl w0
  refine St.enter (N := 18) Tryz.func15 rfl Tryz.ntmps15 rfl ?_
  refine St.seq fun K0 hK0 => ?_
  refine St.region ?_
  refine St.r (R.assign rfl) rfl rfl ?_
  refine St.nil ?_
  refine St.weak [(0, _), (1, _)] ⟨rfl, rfl, trivial⟩ ?_
  refine St.then_n ?_
  refine St.go hK0 ?_
  clear hK0
  refine St.seq fun K1 hK1 => ?_
  refine St.seq fun K2 hK2 => ?_
  refine St.region ?_
  refine St.r (R.assign rfl) rfl rfl ?_
  refine St.nil ?_
  refine St.weak [(0, _), (1, _), (5, _)] ⟨rfl, rfl, rfl, trivial⟩ ?_
  refine St.then_n ?_
  refine St.go hK2 ?_
  clear hK2
  refine St.block ?_
  refine St.loop (fun (k : Nat) => [(0, .slice A xs.length c), (1, .int .i64 n), (5, .int .i64 (k : Int))])
      (fun (k : Nat) w => k ≤ xs.length ∧ Ext w0 w ∧ ∀ y ∈ xs.take k, ¬ y = n)
      (fun (k : Nat) => xs.length - k) 0 ⟨rfl, rfl, rfl, trivial⟩ ?_ ?_
  · exact ⟨Nat.zero_le _, E, by simp⟩
  rintro k w ⟨hk, E, hall⟩
  show St _ _ [(0, .slice A xs.length c), (1, .int .i64 n), (5, .int .i64 (k : Int))] _ _
  refine St.seq fun K3 hK3 => ?_
  refine St.seq fun K4 hK4 => ?_
  refine St.region ?_
  refine St.r (R.move rfl) rfl rfl ?_
  refine St.r (R.move rfl) rfl rfl ?_
  refine St.r (R.lenSl Tryz.underlying27 rfl) rfl rfl ?_
  refine St.r (R.lss rfl rfl) rfl rfl ?_
  refine St.nil ?_
  refine St.weak [(0, _), (1, _), (5, _), (9, _)] ⟨rfl, rfl, rfl, rfl, trivial⟩ ?_
  refine St.then_n ?_
  refine St.go hK4 ?_
  clear hK4
  refine St.condD rfl (fun h9 => ?_) (fun h9 => ?_)
  ·
    obtain ⟨x, hx⟩ := get_of_lt (xs := xs) (k := k) (by omega)
    obtain ⟨b, o, c', heq, -, -, hcell⟩ := hv.at (by omega)
    cases heq
    obtain ⟨cs, -, hx', rfl⟩ := hcell k x hx
    refine St.skip ?_
    refine St.then_n ?_
    refine St.go hK3 ?_
    clear hK3
    refine St.seq fun K5 hK5 => ?_
    refine St.block ?_
    refine St.seq fun K6 hK6 => ?_
    refine St.region ?_
    refine St.r (R.move rfl) rfl rfl ?_
    refine St.r (R.move rfl) rfl rfl ?_
    refine St.r (R.indexS _ Tryz.underlying27 Tryz.sizeOf3 rfl rfl rfl (by omega)) rfl rfl ?_
    refine St.r (R.load1 Tryz.isAgg3 rfl ((E.cells hx').at 0 rfl)) rfl rfl ?_
    refine St.r (R.move rfl) rfl rfl ?_
    refine St.r (R.eql rfl rfl) rfl rfl ?_
    refine St.nil ?_
    refine St.weak [(0, _), (1, _), (5, _), (17, _)] ⟨rfl, rfl, rfl, rfl, trivial⟩ ?_
    refine St.then_n ?_
    refine St.go hK6 ?_
    clear hK6
    refine St.condD rfl (fun h17 => ?_) (fun h17 => ?_)
    ·
      refine St.seq fun K7 hK7 => ?_
      refine St.region ?_
      refine St.r (R.assign rfl) rfl rfl ?_
      refine St.nil ?_
      refine St.weak [(4, _)] ⟨rfl, trivial⟩ ?_
      refine St.then_n ?_
      refine St.go hK7 ?_
      clear hK7
      refine St.ret ?_
      refine St.in_r ?_
      refine St.then_r ?_
      refine St.then_r ?_
      refine St.in_r ?_
      refine St.then_r ?_
      refine St.ret1 Tryz.results15 rfl ?_
      exact ⟨_, rfl, by rw [List.any_eq_true.2 ⟨x, List.mem_of_getElem? hx, decide_eq_true h17⟩], E⟩
    ·
      refine St.skip ?_
      refine St.in_n ?_
      refine St.then_n ?_
      refine St.go hK5 ?_
      clear hK5
      refine St.region ?_
      refine St.r (R.move rfl) rfl rfl ?_
      refine St.r (R.add rfl rfl (by omega) (by omega)) rfl rfl ?_
      refine St.r (R.assign rfl) rfl rfl ?_
      refine St.nil ?_
      refine St.weak [(0, _), (1, _), (5, _)] ⟨rfl, rfl, rfl, trivial⟩ ?_
      refine St.then_n ?_
      refine St.round (k + 1) ⟨rfl, rfl, rfl, trivial⟩ ?_ ?_
      · refine ⟨by omega, E, ?_⟩
        rw [take_snoc hx]
        intro y hy
        rcases List.mem_append.1 hy with hy | hy
        · exact hall y hy
        · rw [List.mem_singleton] at hy; subst hy; exact h17
      · omega
  ·
    refine St.exit ?_
    refine St.then_x ?_
    refine St.then_x ?_
    refine St.in_x ?_
    refine St.then_n ?_
    refine St.go hK1 ?_
    clear hK1
    refine St.seq fun K8 hK8 => ?_
    refine St.region ?_
    refine St.r (R.assign rfl) rfl rfl ?_
    refine St.nil ?_
    refine St.weak [(4, _)] ⟨rfl, trivial⟩ ?_
    refine St.then_n ?_
    refine St.go hK8 ?_
    clear hK8
    refine St.ret ?_
    refine St.ret1 Tryz.results15 rfl ?_
    rw [List.take_of_length_le (by omega)] at hall
    exact ⟨_, rfl, by rw [List.any_eq_false.2 (fun x hx => by rw [decide_eq_false (hall x hx)]; simp)], E⟩

theorem Ints_ret {xs ys : List Int} {v u : Value} (w0 : World) (hv : RInts w0 v xs) (hu : RInts w0 u ys) : Ret Tryz.prog 12 [v, u] w0 fun r w' => r = .bool (decide (xs = ys)) ∧ Ext w0 w' := by
  obtain ⟨A, c, rfl, hc1, hc2⟩ := hv.form
  obtain ⟨A2, c2, rfl, hd1, hd2⟩ := hu.form
  have E : Ext w0 w0 := Ext.refl w0
  refine St.enter (N := 26) Tryz.func12 rfl Tryz.ntmps12 rfl ?_
  refine St.seq fun K0 hK0 => ?_
  refine St.region ?_
  refine St.r (R.assign rfl) rfl rfl ?_
  refine St.nil ?_
  refine St.weak [(0, _), (1, _)] ⟨rfl, rfl, trivial⟩ ?_
  refine St.then_n ?_
  refine St.go hK0 ?_
  clear hK0
  refine St.seq fun K1 hK1 => ?_
  refine St.seq fun K2 hK2 => ?_
  refine St.region ?_
  refine St.r (R.move rfl) rfl rfl ?_
  refine St.r (R.lenSl Tryz.underlying27 rfl) rfl rfl ?_
  refine St.r (R.move rfl) rfl rfl ?_
  refine St.r (R.lenSl Tryz.underlying27 rfl) rfl rfl ?_
  refine St.r (R.neq rfl rfl) rfl rfl ?_
  refine St.nil ?_
  refine St.weak [(0, _), (1, _), (10, _)] ⟨rfl, rfl, rfl, trivial⟩ ?_
  refine St.then_n ?_
  refine St.go hK2 ?_
  clear hK2
  refine St.condD rfl (fun h10 => ?_) (fun h10 => ?_)
  ·
    refine St.seq fun K3 hK3 => ?_
    refine St.region ?_
    refine St.r (R.assign rfl) rfl rfl ?_
    refine St.nil ?_
    refine St.weak [(4, _)] ⟨rfl, trivial⟩ ?_
    refine St.then_n ?_
    refine St.go hK3 ?_
    clear hK3
    refine St.ret ?_
    refine St.then_r ?_
    refine St.ret1 Tryz.results12 rfl ?_
    exact ⟨_, rfl, by rw [decide_eq_false (fun e => h10 (by rw [e]))], E⟩
  ·
    refine St.skip ?_
    refine St.then_n ?_
    refine St.go hK1 ?_
    clear hK1
    refine St.seq fun K4 hK4 => ?_
    refine St.seq fun K5 hK5 => ?_
    refine St.region ?_
    refine St.r (R.assign rfl) rfl rfl ?_
    refine St.nil ?_
    refine St.weak [(0, _), (1, _), (5, _)] ⟨rfl, rfl, rfl, trivial⟩ ?_
    refine St.then_n ?_
    refine St.go hK5 ?_
    clear hK5
    refine St.block ?_
    refine St.loop (fun (k : Nat) => [(0, .slice A xs.length c), (1, .slice A2 ys.length c2), (5, .int .i64 (k : Int))])
        (fun (k : Nat) w => k ≤ xs.length ∧ Ext w0 w ∧ xs.take k = ys.take k)
        (fun (k : Nat) => xs.length - k) 0 ⟨rfl, rfl, rfl, trivial⟩ ?_ ?_
    · exact ⟨Nat.zero_le _, E, by simp⟩
    rintro k w ⟨hk, E, hall⟩
    show St _ _ [(0, .slice A xs.length c), (1, .slice A2 ys.length c2), (5, .int .i64 (k : Int))] _ _
    refine St.seq fun K6 hK6 => ?_
    refine St.seq fun K7 hK7 => ?_
    refine St.region ?_
    refine St.r (R.move rfl) rfl rfl ?_
    refine St.r (R.move rfl) rfl rfl ?_
    refine St.r (R.lenSl Tryz.underlying27 rfl) rfl rfl ?_
    refine St.r (R.lss rfl rfl) rfl rfl ?_
    refine St.nil ?_
    refine St.weak [(0, _), (1, _), (5, _), (14, _)] ⟨rfl, rfl, rfl, rfl, trivial⟩ ?_
    refine St.then_n ?_
    refine St.go hK7 ?_
    clear hK7
    refine St.condD rfl (fun h14 => ?_) (fun h14 => ?_)
    ·
      obtain ⟨x, hx⟩ := get_of_lt (xs := xs) (k := k) (by omega)
      obtain ⟨y, hy⟩ := get_of_lt (xs := ys) (k := k) (by omega)
      obtain ⟨b, o, c', heq, -, -, hcell⟩ := hv.at (by omega)
      cases heq
      obtain ⟨cs, -, hx', rfl⟩ := hcell k x hx
      obtain ⟨b2, o2, c2', heq, -, -, hcell2⟩ := hu.at (by omega)
      cases heq
      obtain ⟨cs2, -, hy', rfl⟩ := hcell2 k y hy
      refine St.skip ?_
      refine St.then_n ?_
      refine St.go hK6 ?_
      clear hK6
      refine St.seq fun K8 hK8 => ?_
      refine St.block ?_
      refine St.seq fun K9 hK9 => ?_
      refine St.weak [(0, _), (1, _), (5, _)] ⟨rfl, rfl, rfl, trivial⟩ ?_
      refine St.draw mixed rfl rfl rfl rfl ?_
      replace E := Ext.trans E (Ext.drew _)
      refine ⟨_, OpOk.r (R.move rfl) rfl, ?_⟩
      refine ⟨_, OpOk.r (R.move rfl) rfl, ?_⟩
      refine ⟨_, OpOk.r (R.indexS _ Tryz.underlying27 Tryz.sizeOf3 rfl rfl rfl (by omega)) rfl, ?_⟩
      refine ⟨_, OpOk.r (R.load1 Tryz.isAgg3 rfl ((E.cells hx').at 0 rfl)) rfl, ?_⟩
      refine ⟨_, OpOk.r (R.move rfl) rfl, ?_⟩
      refine ⟨_, OpOk.r (R.move rfl) rfl, ?_⟩
      refine ⟨_, OpOk.r (R.indexS _ Tryz.underlying27 Tryz.sizeOf3 rfl rfl rfl (by omega)) rfl, ?_⟩
      refine ⟨_, OpOk.r (R.load1 Tryz.isAgg3 rfl ((E.cells hy').at 0 rfl)) rfl, ?_⟩
      refine ⟨_, OpOk.r (R.neq rfl rfl) rfl, ?_⟩
      show St _ _ _ _ _
      refine St.weak [(0, _), (1, _), (5, _), (25, _)] ⟨rfl, rfl, rfl, rfl, trivial⟩ ?_
      refine St.then_n ?_
      refine St.go hK9 ?_
      clear hK9
      refine St.condD rfl (fun h25 => ?_) (fun h25 => ?_)
      ·
        refine St.seq fun K10 hK10 => ?_
        refine St.region ?_
        refine St.r (R.assign rfl) rfl rfl ?_
        refine St.nil ?_
        refine St.weak [(4, _)] ⟨rfl, trivial⟩ ?_
        refine St.then_n ?_
        refine St.go hK10 ?_
        clear hK10
        refine St.ret ?_
        refine St.in_r ?_
        refine St.then_r ?_
        refine St.then_r ?_
        refine St.in_r ?_
        refine St.then_r ?_
        refine St.ret1 Tryz.results12 rfl ?_
        exact ⟨_, rfl, by rw [decide_eq_false (fun e => h25 (by subst e; rw [hx] at hy; injection hy))], E⟩
      ·
        refine St.skip ?_
        refine St.in_n ?_
        refine St.then_n ?_
        refine St.go hK8 ?_
        clear hK8
        refine St.region ?_
        refine St.r (R.move rfl) rfl rfl ?_
        refine St.r (R.add rfl rfl (by omega) (by omega)) rfl rfl ?_
        refine St.r (R.assign rfl) rfl rfl ?_
        refine St.nil ?_
        refine St.weak [(0, _), (1, _), (5, _)] ⟨rfl, rfl, rfl, trivial⟩ ?_
        refine St.then_n ?_
        refine St.round (k + 1) ⟨rfl, rfl, rfl, trivial⟩ ?_ ?_
        · refine ⟨by omega, E, ?_⟩
          rw [take_snoc hx, take_snoc hy, hall]
          congr 2
          exact Decidable.not_not.1 h25
        · omega
    ·
      refine St.exit ?_
      refine St.then_x ?_
      refine St.then_x ?_
      refine St.in_x ?_
      refine St.then_n ?_
      refine St.go hK4 ?_
      clear hK4
      refine St.seq fun K11 hK11 => ?_
      refine St.region ?_
      refine St.r (R.assign rfl) rfl rfl ?_
      refine St.nil ?_
      refine St.weak [(4, _)] ⟨rfl, trivial⟩ ?_
      refine St.then_n ?_
      refine St.go hK11 ?_
      clear hK11
      refine St.ret ?_
      refine St.ret1 Tryz.results12 rfl ?_
      rw [List.take_of_length_le (by omega), List.take_of_length_le (by omega)] at hall
      exact ⟨_, rfl, by rw [decide_eq_true hall], E⟩



theorem Ancestors_ret {ls : List Commit} {v : Value} {a : Int} (w0 : World) (hv : RCommits w0 v ls) :
    Ret Tryz.prog 30 [v, .int .i64 a] w0 fun r w' => ∃ sv, r = .tuple #[sv, errV 119 (readyErr ls [a])] ∧ Own encInt 1 w0.heap.size 3 w' sv (ancList ls a) ∧ Ext w0 w' := by
  have E : Ext w0 w0 := Ext.refl w0
  refine St.enter (N := 18) Tryz.func30 rfl Tryz.ntmps30 rfl ?_
  refine St.seq fun K0 hK0 => ?_
  refine St.region ?_
  refine St.r (R.assign rfl) rfl rfl ?_
  refine St.r (R.assign rfl) rfl rfl ?_
  refine St.nil ?_
  refine St.weak [(0, _), (1, _)] ⟨rfl, rfl, trivial⟩ ?_
  refine St.then_n ?_
  refine St.go hK0 ?_
  clear hK0
  refine St.seq fun K1 hK1 => ?_
  refine St.seq fun K2 hK2 => ?_
  refine St.region ?_
  refine St.r (R.move rfl) rfl rfl ?_
  refine St.r (R.move rfl) rfl rfl ?_
  refine St.buildSl Tryz.underlying27 Tryz.sizeOf3 Tryz.zeroValue3 rfl rfl rfl rfl (by intro u hu; simp only [List.mem_cons, List.not_mem_nil, or_false] at hu; first | (subst hu; rfl) | (rcases hu with rfl | rfl <;> rfl) | (rcases hu with rfl | rfl | rfl <;> rfl) | (rcases hu with rfl | rfl | rfl | rfl <;> rfl)) rfl ?_
  intro w9 b9 hb9 hs9 e9 k9
  have qE9 := E.size
  replace E := Ext.trans E e9
  refine St.call rfl rfl ent94 (ready_ret (nums := [a]) _ (hv.ext RCommit.firm E) (RSl.mk (enc := encInt) (xs := [a]) encInt_len k9.cells (fun i u hu => hu) (by simp) (by simp))) rfl ?_
  rintro r10 w10 ⟨rfl, e10⟩
  replace E := Ext.trans E e10
  refine St.r (R.assign rfl) rfl rfl ?_
  refine St.nil ?_
  refine St.weak [(0, _), (1, _), (6, _)] ⟨rfl, rfl, rfl, trivial⟩ ?_
  refine St.then_n ?_
  refine St.go hK2 ?_
  clear hK2
  refine St.seq fun K3 hK3 => ?_
  refine St.region ?_
  refine St.r (R.move rfl) rfl rfl ?_
  refine St.r (R.notNil (et := 119) (e := _) Tryz.underlying32 rfl) rfl rfl ?_
  refine St.nil ?_
  refine St.weak [(0, _), (1, _), (6, _), (12, _)] ⟨rfl, rfl, rfl, rfl, trivial⟩ ?_
  refine St.then_n ?_
  refine St.go hK3 ?_
  clear hK3
  refine St.cond rfl (fun h12 => ?_) (fun h12 => ?_)
  ·
    refine St.seq fun K4 hK4 => ?_
    refine St.region ?_
    refine St.r (R.move rfl) rfl rfl ?_
    refine St.r (R.assign rfl) rfl rfl ?_
    refine St.r (R.assign rfl) rfl rfl ?_
    refine St.nil ?_
    refine St.weak [(4, _), (5, _)] ⟨rfl, rfl, trivial⟩ ?_
    refine St.then_n ?_
    refine St.go hK4 ?_
    clear hK4
    refine St.ret ?_
    refine St.then_r ?_
    refine St.ret2 Tryz.results30 rfl rfl ?_
    exact ⟨_, rfl, _, rfl, by rw [ancList, if_pos h12]; exact Own.nil _ _ _ _ _, E⟩
  ·
    obtain ⟨h60, hel, hnums⟩ := ready_ok h12
    have hna := hnums a (by simp)
    obtain ⟨an, rfl⟩ : ∃ n : Nat, a = (n : Int) := ⟨a.toNat, by omega⟩
    refine St.skip ?_
    refine St.then_n ?_
    refine St.go hK1 ?_
    clear hK1
    refine St.seq fun K5 hK5 => ?_
    refine St.region ?_
    refine St.r (R.move rfl) rfl rfl ?_
    refine St.r (R.move rfl) rfl rfl ?_
    refine St.call rfl rfl ent81 (Of_ret (by omega) h60 hel _ (hv.ext RCommit.firm E)) rfl ?_
    rintro r16 w16 ⟨g16, rfl, e16, hg16, k16⟩
    replace E := Ext.trans E e16
    have zE := E.size
    refine St.call rfl rfl ent95 (list_ret (ofSet_length _ _) _ k16) rfl ?_
    rintro r17 w17 ⟨o17, e17⟩
    replace E := Ext.trans E e17
    replace k16 := k16.ext e17
    refine St.r (R.assign rfl) rfl rfl ?_
    refine St.r (R.assign rfl) rfl rfl ?_
    refine St.nil ?_
    refine St.weak [(4, _), (5, _)] ⟨rfl, rfl, trivial⟩ ?_
    refine St.then_n ?_
    refine St.go hK5 ?_
    clear hK5
    refine St.ret ?_
    refine St.ret2 Tryz.results30 rfl rfl ?_
    refine ⟨_, rfl, _, by rw [isSome_false h12]; rfl, ?_, E⟩
    rw [ancList, if_neg (by rw [h12]; simp)]
    exact o17.lower zE


end Go.Proofs.YtjgcmpondbocfaaGreatDoor

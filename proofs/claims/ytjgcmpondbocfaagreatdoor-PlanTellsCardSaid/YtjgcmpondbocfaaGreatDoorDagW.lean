/- What the functions of package dag come to: each walked once, against plain Lean. Each under the reading of its arguments. -/
import Derived.Test.YtjgcmpondbocfaaGreatDoorProg
import Derived.Test.YtjgcmpondbocfaaGreatDoorDagAnc
namespace Go.Proofs.YtjgcmpondbocfaaGreatDoor
open Go.RowKit 
theorem ent135 : Ent Tryz.prog 135 := Ent.of Tryz.func135 (by kernel_rfl) rfl
theorem info3 : (Tryz.prog.info? 3).map (fun i => (i.zero, i.size, i.bytes)) = some (some (.int .i64 0), 1, 8) := by kernel_rfl
theorem mixed : Tryz.prog.follows .mixedOrders = true := by kernel_rfl
theorem int_IndexFunc {xs : List Int} {v : Value} {g : FuncId} {caps : Array Value} {p : Int → Bool} (w0 : World) (hv : RSl (REnc encInt) 1 w0 v xs) (he : Ent Tryz.prog g)
    (hp : ∀ W x, Ext w0 W → x ∈ xs → Ret Tryz.prog g ([.int .i64 x] ++ caps.toList) W fun r W' => r = .bool (p x) ∧ Ext W W') :
    Ret Tryz.prog 135 [v, .func (.func g) #[] caps] w0 fun r w' => r = .int .i64 (idxOf p xs) ∧ Ext w0 w' := by
  obtain ⟨A, c, rfl, hc1, hc2⟩ := hv.form
  have E : Ext w0 w0 := Ext.refl w0
  refine St.enter (N := 19) Tryz.func135 rfl Tryz.ntmps135 rfl ?_
  refine St.seq fun K0 hK0 => ?_
  refine St.region ?_
  refine St.r (R.assign rfl) rfl rfl ?_
  refine St.nil ?_
  refine St.weak [(0, _), (1, _)] ⟨rfl, rfl, trivial⟩ ?_
  refine St.then_n ?_
  refine St.go hK0 ?_
  clear hK0
  refine St.seq fun K1 hK1 => ?_
  refine St.seq fun K2 hK2 => ?_
  refine St.region ?_
  refine St.r (R.move rfl) rfl rfl ?_
  refine St.r (R.lenSl Tryz.underlying27 rfl) rfl rfl ?_
  refine St.r (R.move rfl) rfl rfl ?_
  refine St.nil ?_
  refine St.weak [(0, _), (1, _), (7, _), (8, _)] ⟨rfl, rfl, rfl, rfl, trivial⟩ ?_
  refine St.then_n ?_
  refine St.go hK2 ?_
  clear hK2
  refine St.block ?_
  refine St.loop (fun (k : Nat) => [(0, .slice A xs.length c), (1, .func (.func g) #[] caps), (7, .int .i64 (xs.length : Int)), (8, .int .i64 (k : Int))])
      (fun (k : Nat) w => k ≤ xs.length ∧ Ext w0 w ∧ ∀ y ∈ xs.take k, p y = false)
      (fun (k : Nat) => xs.length - k) 0 ⟨rfl, rfl, rfl, rfl, trivial⟩ ?_ ?_
  · exact ⟨Nat.zero_le _, E, by simp⟩
  rintro k w ⟨hk, E, hall⟩
  show St _ _ [(0, .slice A xs.length c), (1, .func (.func g) #[] caps), (7, .int .i64 (xs.length : Int)), (8, .int .i64 (k : Int))] _ _
  refine St.seq fun K3 hK3 => ?_
  refine St.region ?_
  refine St.r (R.lss rfl rfl) rfl rfl ?_
  refine St.nil ?_
  refine St.weak [(0, _), (1, _), (7, _), (8, _), (9, _)] ⟨rfl, rfl, rfl, rfl, rfl, trivial⟩ ?_
  refine St.then_n ?_
  refine St.go hK3 ?_
  clear hK3
  refine St.seq fun K4 hK4 => ?_
  refine St.condD rfl (fun h9 => ?_) (fun h9 => ?_)
  ·
    obtain ⟨x, hx⟩ := get_of_lt (xs := xs) (k := k) (by omega)
    obtain ⟨b, o, c', heq, -, -, hcell⟩ := hv.at (by omega)
    cases heq
    obtain ⟨cs, -, hx', rfl⟩ := hcell k x hx
    refine St.skip ?_
    refine St.then_n ?_
    refine St.go hK4 ?_
    clear hK4
    refine St.seq fun K5 hK5 => ?_
    refine St.block ?_
    refine St.seq fun K6 hK6 => ?_
    refine St.region ?_
    refine St.r (R.move rfl) rfl rfl ?_
    refine St.r (R.assign rfl) rfl rfl ?_
    refine St.nil ?_
    refine St.weak [(0, _), (1, _), (5, _), (7, _), (8, _)] ⟨rfl, rfl, rfl, rfl, rfl, trivial⟩ ?_
    refine St.then_n ?_
    refine St.go hK6 ?_
    clear hK6
    refine St.seq fun K7 hK7 => ?_
    refine St.region ?_
    refine St.r (R.move rfl) rfl rfl ?_
    refine St.r (R.move rfl) rfl rfl ?_
    refine St.r (R.move rfl) rfl rfl ?_
    refine St.r (R.indexS _ Tryz.underlying27 Tryz.sizeOf3 rfl rfl rfl (by omega)) rfl rfl ?_
    refine St.r (R.load1 Tryz.isAgg3 rfl ((E.cells hx').at 0 rfl)) rfl rfl ?_
    refine St.call rfl rfl he (hp _ x E (List.mem_of_getElem? hx)) rfl ?_
    rintro r16 w16 ⟨rfl, e16⟩
    replace E := Ext.trans E e16
    refine St.nil ?_
    refine St.weak [(0, _), (1, _), (5, _), (7, _), (8, _), (16, _)] ⟨rfl, rfl, rfl, rfl, rfl, rfl, trivial⟩ ?_
    refine St.then_n ?_
    refine St.go hK7 ?_
    clear hK7
    refine St.cond rfl (fun h16 => ?_) (fun h16 => ?_)
    ·
      refine St.seq fun K8 hK8 => ?_
      refine St.region ?_
      refine St.r (R.move rfl) rfl rfl ?_
      refine St.r (R.assign rfl) rfl rfl ?_
      refine St.nil ?_
      refine St.weak [(4, _)] ⟨rfl, trivial⟩ ?_
      refine St.then_n ?_
      refine St.go hK8 ?_
      clear hK8
      refine St.ret ?_
      refine St.in_r ?_
      refine St.then_r ?_
      refine St.then_r ?_
      refine St.in_r ?_
      refine St.then_r ?_
      refine St.ret1 Tryz.results135 rfl ?_
      exact ⟨_, rfl, by rw [idxOf_found hx h16 hall], E⟩
    ·
      refine St.skip ?_
      refine St.in_n ?_
      refine St.then_n ?_
      refine St.go hK5 ?_
      clear hK5
      refine St.region ?_
      refine St.r (R.add rfl rfl (by omega) (by omega)) rfl rfl ?_
      refine St.r (R.move rfl) rfl rfl ?_
      refine St.nil ?_
      refine St.weak [(0, _), (1, _), (7, _), (8, _)] ⟨rfl, rfl, rfl, rfl, trivial⟩ ?_
      refine St.then_n ?_
      refine St.round (k + 1) ⟨rfl, rfl, rfl, rfl, trivial⟩ ?_ ?_
      · refine ⟨by omega, E, ?_⟩
        rw [take_snoc hx]
        intro y hy
        rcases List.mem_append.1 hy with hy | hy
        · exact hall y hy
        · rw [List.mem_singleton] at hy; subst hy; exact h16
      · omega
  ·
    refine St.exit ?_
    refine St.then_x ?_
    refine St.then_x ?_
    refine St.in_x ?_
    refine St.then_n ?_
    refine St.go hK1 ?_
    clear hK1
    refine St.seq fun K9 hK9 => ?_
    refine St.region ?_
    refine St.r (R.assign rfl) rfl rfl ?_
    refine St.nil ?_
    refine St.weak [(4, _)] ⟨rfl, trivial⟩ ?_
    refine St.then_n ?_
    refine St.go hK9 ?_
    clear hK9
    refine St.ret ?_
    refine St.ret1 Tryz.results135 rfl ?_
    exact ⟨_, rfl, by rw [idxOf_none (fun x hx => hall x (by rw [List.take_of_length_le (by omega)]; exact hx))], E⟩

theorem In_ret {xs : List Int} {v : Value} {n : Int} (w0 : World) (hv : RInts w0 v xs) : Ret Tryz.prog 15 [v, .int .i64 n] w0 fun r w' => r = .bool (xs.any fun x => decide (x = n)) ∧ Ext w0 w' := by
  obtain ⟨A, c, rfl, hc1, hc2⟩ := hv.form
  have E : Ext w0 w0 := Ext.refl w0
  refine St.enter (N := 18) Tryz.func15 rfl Tryz.ntmps15 rfl ?_
  refine St.seq fun K0 hK0 => ?_
  refine St.region ?_
  refine St.r (R.assign rfl) rfl rfl ?_
  refine St.nil ?_
  refine St.weak [(0, _), (1, _)] ⟨rfl, rfl, trivial⟩ ?_
  refine St.then_n ?_
  refine St.go hK0 ?_
  clear hK0
  refine St.seq fun K1 hK1 => ?_
  refine St.seq fun K2 hK2 => ?_
  refine St.region ?_
  refine St.r (R.assign rfl) rfl rfl ?_
  refine St.nil ?_
  refine St.weak [(0, _), (1, _), (5, _)] ⟨rfl, rfl, rfl, trivial⟩ ?_
  refine St.then_n ?_
  refine St.go hK2 ?_
  clear hK2
  refine St.block ?_
  refine St.loop (fun (k : Nat) => [(0, .slice A xs.length c), (1, .int .i64 n), (5, .int .i64 (k : Int))])
      (fun (k : Nat) w => k ≤ xs.length ∧ Ext w0 w ∧ ∀ y ∈ xs.take k, ¬ y = n)
      (fun (k : Nat) => xs.length - k) 0 ⟨rfl, rfl, rfl, trivial⟩ ?_ ?_
  · exact ⟨Nat.zero_le _, E, by simp⟩
  rintro k w ⟨hk, E, hall⟩
  show St _ _ [(0, .slice A xs.length c), (1, .int .i64 n), (5, .int .i64 (k : Int))] _ _
  refine St.seq fun K3 hK3 => ?_
  refine St.seq fun K4 hK4 => ?_
  refine St.region ?_
  refine St.r (R.move rfl) rfl rfl ?_
  refine St.r (R.move rfl) rfl rfl ?_
  refine St.r (R.lenSl Tryz.underlying27 rfl) rfl rfl ?_
  refine St.r (R.lss rfl rfl) rfl rfl ?_
  refine St.nil ?_
  refine St.weak [(0, _), (1, _), (5, _), (9, _)] ⟨rfl, rfl, rfl, rfl, trivial⟩ ?_
  refine St.then_n ?_
  refine St.go hK4 ?_
  clear hK4
  refine St.condD rfl (fun h9 => ?_) (fun h9 => ?_)
  ·
    obtain ⟨x, hx⟩ := get_of_lt (xs := xs) (k := k) (by omega)
    obtain ⟨b, o, c', heq, -, -, hcell⟩ := hv.at (by omega)
    cases heq
    obtain ⟨cs, -, hx', rfl⟩ := hcell k x hx
    refine St.skip ?_
    refine St.then_n ?_
    refine St.go hK3 ?_
    clear hK3
    refine St.seq fun K5 hK5 => ?_
    refine St.block ?_
    refine St.seq fun K6 hK6 => ?_
    refine St.region ?_
    refine St.r (R.move rfl) rfl rfl ?_
    refine St.r (R.move rfl) rfl rfl ?_
    refine St.r (R.indexS _ Tryz.underlying27 Tryz.sizeOf3 rfl rfl rfl (by omega)) rfl rfl ?_
    refine St.r (R.load1 Tryz.isAgg3 rfl ((E.cells hx').at 0 rfl)) rfl rfl ?_
    refine St.r (R.move rfl) rfl rfl ?_
    refine St.r (R.eql rfl rfl) rfl rfl ?_
    refine St.nil ?_
    refine St.weak [(0, _), (1, _), (5, _), (17, _)] ⟨rfl, rfl, rfl, rfl, trivial⟩ ?_
    refine St.then_n ?_
    refine St.go hK6 ?_
    clear hK6
    refine St.condD rfl (fun h17 => ?_) (fun h17 => ?_)
    ·
      refine St.seq fun K7 hK7 => ?_
      refine St.region ?_
      refine St.r (R.assign rfl) rfl rfl ?_
      refine St.nil ?_
      refine St.weak [(4, _)] ⟨rfl, trivial⟩ ?_
      refine St.then_n ?_
      refine St.go hK7 ?_
      clear hK7
      refine St.ret ?_
      refine St.in_r ?_
      refine St.then_r ?_
      refine St.then_r ?_
      refine St.in_r ?_
      refine St.then_r ?_
      refine St.ret1 Tryz.results15 rfl ?_
      exact ⟨_, rfl, by rw [List.any_eq_true.2 ⟨x, List.mem_of_getElem? hx, decide_eq_true h17⟩], E⟩
    ·
      refine St.skip ?_
      refine St.in_n ?_
      refine St.then_n ?_
      refine St.go hK5 ?_
      clear hK5
      refine St.region ?_
      refine St.r (R.move rfl) rfl rfl ?_
      refine St.r (R.add rfl rfl (by omega) (by omega)) rfl rfl ?_
      refine St.r (R.assign rfl) rfl rfl ?_
      refine St.nil ?_
      refine St.weak [(0, _), (1, _), (5, _)] ⟨rfl, rfl, rfl, trivial⟩ ?_
      refine St.then_n ?_
      refine St.round (k + 1) ⟨rfl, rfl, rfl, trivial⟩ ?_ ?_
      · refine ⟨by omega, E, ?_⟩
        rw [take_snoc hx]
        intro y hy
        rcases List.mem_append.1 hy with hy | hy
        · exact hall y hy
        · rw [List.mem_singleton] at hy; subst hy; exact h17
      · omega
  ·
    refine St.exit ?_
    refine St.then_x ?_
    refine St.then_x ?_
    refine St.in_x ?_
    refine St.then_n ?_
    refine St.go hK1 ?_
    clear hK1
    refine St.seq fun K8 hK8 => ?_
    refine St.region ?_
    refine St.r (R.assign rfl) rfl rfl ?_
    refine St.nil ?_
    refine St.weak [(4, _)] ⟨rfl, trivial⟩ ?_
    refine St.then_n ?_
    refine St.go hK8 ?_
    clear hK8
    refine St.ret ?_
    refine St.ret1 Tryz.results15 rfl ?_
    rw [List.take_of_length_le (by omega)] at hall
    exact ⟨_, rfl, by rw [List.any_eq_false.2 (fun x hx => by rw [decide_eq_false (hall x hx)]; simp)], E⟩

theorem Ints_ret {xs ys : List Int} {v u : Value} (w0 : World) (hv : RInts w0 v xs) (hu : RInts w0 u ys) : Ret Tryz.prog 12 [v, u] w0 fun r w' => r = .bool (decide (xs = ys)) ∧ Ext w0 w' := by
  obtain ⟨A, c, rfl, hc1, hc2⟩ := hv.form
  obtain ⟨A2, c2, rfl, hd1, hd2⟩ := hu.form
  have E : Ext w0 w0 := Ext.refl w0
  refine St.enter (N := 26) Tryz.func12 rfl Tryz.ntmps12 rfl ?_
  refine St.seq fun K0 hK0 => ?_
  refine St.region ?_
  refine St.r (R.assign rfl) rfl rfl ?_
  refine St.nil ?_
  refine St.weak [(0, _), (1, _)] ⟨rfl, rfl, trivial⟩ ?_
  refine St.then_n ?_
  refine St.go hK0 ?_
  clear hK0
  refine St.seq fun K1 hK1 => ?_
  refine St.seq fun K2 hK2 => ?_
  refine St.region ?_
  refine St.r (R.move rfl) rfl rfl ?_
  refine St.r (R.lenSl Tryz.underlying27 rfl) rfl rfl ?_
  refine St.r (R.move rfl) rfl rfl ?_
  refine St.r (R.lenSl Tryz.underlying27 rfl) rfl rfl ?_
  refine St.r (R.neq rfl rfl) rfl rfl ?_
  refine St.nil ?_
  refine St.weak [(0, _), (1, _), (10, _)] ⟨rfl, rfl, rfl, trivial⟩ ?_
  refine St.then_n ?_
  refine St.go hK2 ?_
  clear hK2
  refine St.condD rfl (fun h10 => ?_) (fun h10 => ?_)
  ·
    refine St.seq fun K3 hK3 => ?_
    refine St.region ?_
    refine St.r (R.assign rfl) rfl rfl ?_
    refine St.nil ?_
    refine St.weak [(4, _)] ⟨rfl, trivial⟩ ?_
    refine St.then_n ?_
    refine St.go hK3 ?_
    clear hK3
    refine St.ret ?_
    refine St.then_r ?_
    refine St.ret1 Tryz.results12 rfl ?_
    exact ⟨_, rfl, by rw [decide_eq_false (fun e => h10 (by rw [e]))], E⟩
  ·
    refine St.skip ?_
    refine St.then_n ?_
    refine St.go hK1 ?_
    clear hK1
    refine St.seq fun K4 hK4 => ?_
    refine St.seq fun K5 hK5 => ?_
    refine St.region ?_
    refine St.r (R.assign rfl) rfl rfl ?_
    refine St.nil ?_
    refine St.weak [(0, _), (1, _), (5, _)] ⟨rfl, rfl, rfl, trivial⟩ ?_
    refine St.then_n ?_
    refine St.go hK5 ?_
    clear hK5
    refine St.block ?_
    refine St.loop (fun (k : Nat) => [(0, .slice A xs.length c), (1, .slice A2 ys.length c2), (5, .int .i64 (k : Int))])
        (fun (k : Nat) w => k ≤ xs.length ∧ Ext w0 w ∧ xs.take k = ys.take k)
        (fun (k : Nat) => xs.length - k) 0 ⟨rfl, rfl, rfl, trivial⟩ ?_ ?_
    · exact ⟨Nat.zero_le _, E, by simp⟩
    rintro k w ⟨hk, E, hall⟩
    show St _ _ [(0, .slice A xs.length c), (1, .slice A2 ys.length c2), (5, .int .i64 (k : Int))] _ _
    refine St.seq fun K6 hK6 => ?_
    refine St.seq fun K7 hK7 => ?_
    refine St.region ?_
    refine St.r (R.move rfl) rfl rfl ?_
    refine St.r (R.move rfl) rfl rfl ?_
    refine St.r (R.lenSl Tryz.underlying27 rfl) rfl rfl ?_
    refine St.r (R.lss rfl rfl) rfl rfl ?_
    refine St.nil ?_
    refine St.weak [(0, _), (1, _), (5, _), (14, _)] ⟨rfl, rfl, rfl, rfl, trivial⟩ ?_
    refine St.then_n ?_
    refine St.go hK7 ?_
    clear hK7
    refine St.condD rfl (fun h14 => ?_) (fun h14 => ?_)
    ·
      obtain ⟨x, hx⟩ := get_of_lt (xs := xs) (k := k) (by omega)
      obtain ⟨y, hy⟩ := get_of_lt (xs := ys) (k := k) (by omega)
      obtain ⟨b, o, c', heq, -, -, hcell⟩ := hv.at (by omega)
      cases heq
      obtain ⟨cs, -, hx', rfl⟩ := hcell k x hx
      obtain ⟨b2, o2, c2', heq, -, -, hcell2⟩ := hu.at (by omega)
      cases heq
      obtain ⟨cs2, -, hy', rfl⟩ := hcell2 k y hy
      refine St.skip ?_
      refine St.then_n ?_
      refine St.go hK6 ?_
      clear hK6
      refine St.seq fun K8 hK8 => ?_
      refine St.block ?_
      refine St.seq fun K9 hK9 => ?_
      refine St.weak [(0, _), (1, _), (5, _)] ⟨rfl, rfl, rfl, trivial⟩ ?_
      refine St.draw mixed rfl rfl rfl rfl ?_
      replace E := Ext.trans E (Ext.drew _)
      refine ⟨_, OpOk.r (R.move rfl) rfl, ?_⟩
      refine ⟨_, OpOk.r (R.move rfl) rfl, ?_⟩
      refine ⟨_, OpOk.r (R.indexS _ Tryz.underlying27 Tryz.sizeOf3 rfl rfl rfl (by omega)) rfl, ?_⟩
      refine ⟨_, OpOk.r (R.load1 Tryz.isAgg3 rfl ((E.cells hx').at 0 rfl)) rfl, ?_⟩
      refine ⟨_, OpOk.r (R.move rfl) rfl, ?_⟩
      refine ⟨_, OpOk.r (R.move rfl) rfl, ?_⟩
      refine ⟨_, OpOk.r (R.indexS _ Tryz.underlying27 Tryz.sizeOf3 rfl rfl rfl (by omega)) rfl, ?_⟩
      refine ⟨_, OpOk.r (R.load1 Tryz.isAgg3 rfl ((E.cells hy').at 0 rfl)) rfl, ?_⟩
      refine ⟨_, OpOk.r (R.neq rfl rfl) rfl, ?_⟩
      show St _ _ _ _ _
      refine St.weak [(0, _), (1, _), (5, _), (25, _)] ⟨rfl, rfl, rfl, rfl, trivial⟩ ?_
      refine St.then_n ?_
      refine St.go hK9 ?_
      clear hK9
      refine St.condD rfl (fun h25 => ?_) (fun h25 => ?_)
      ·
        refine St.seq fun K10 hK10 => ?_
        refine St.region ?_
        refine St.r (R.assign rfl) rfl rfl ?_
        refine St.nil ?_
        refine St.weak [(4, _)] ⟨rfl, trivial⟩ ?_
        refine St.then_n ?_
        refine St.go hK10 ?_
        clear hK10
        refine St.ret ?_
        refine St.in_r ?_
        refine St.then_r ?_
        refine St.then_r ?_
        refine St.in_r ?_
        refine St.then_r ?_
        refine St.ret1 Tryz.results12 rfl ?_
        exact ⟨_, rfl, by rw [decide_eq_false (fun e => h25 (by subst e; rw [hx] at hy; injection hy))], E⟩
      ·
        refine St.skip ?_
        refine St.in_n ?_
        refine St.then_n ?_
        refine St.go hK8 ?_
        clear hK8
        refine St.region ?_
        refine St.r (R.move rfl) rfl rfl ?_
        refine St.r (R.add rfl rfl (by omega) (by omega)) rfl rfl ?_
        refine St.r (R.assign rfl) rfl rfl ?_
        refine St.nil ?_
        refine St.weak [(0, _), (1, _), (5, _)] ⟨rfl, rfl, rfl, trivial⟩ ?_
        refine St.then_n ?_
        refine St.round (k + 1) ⟨rfl, rfl, rfl, trivial⟩ ?_ ?_
        · refine ⟨by omega, E, ?_⟩
          rw [take_snoc hx, take_snoc hy, hall]
          congr 2
          exact Decidable.not_not.1 h25
        · omega
    ·
      refine St.exit ?_
      refine St.then_x ?_
      refine St.then_x ?_
      refine St.in_x ?_
      refine St.then_n ?_
      refine St.go hK4 ?_
      clear hK4
      refine St.seq fun K11 hK11 => ?_
      refine St.region ?_
      refine St.r (R.assign rfl) rfl rfl ?_
      refine St.nil ?_
      refine St.weak [(4, _)] ⟨rfl, trivial⟩ ?_
      refine St.then_n ?_
      refine St.go hK11 ?_
      clear hK11
      refine St.ret ?_
      refine St.ret1 Tryz.results12 rfl ?_
      rw [List.take_of_length_le (by omega), List.take_of_length_le (by omega)] at hall
      exact ⟨_, rfl, by rw [decide_eq_true hall], E⟩



end Go.Proofs.YtjgcmpondbocfaaGreatDoor

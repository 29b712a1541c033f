/- What the functions of package term on what is wrong come to, each walked once. Under the reading of the arguments. -/
import Derived.Test.YtjgcmpondbocfaaGreatDoorProg
import Derived.Test.YtjgcmpondbocfaaGreatDoorCmpW
import Derived.Test.YtjgcmpondbocfaaGreatDoorDagW
namespace Go.Proofs.YtjgcmpondbocfaaGreatDoor
open Go.RowKit 
theorem ent138 : Ent Tryz.prog 138 := Ent.of Tryz.func138 (by kernel_rfl) rfl
theorem ent171 : Ent Tryz.prog 171 := Ent.of Tryz.func171 (by kernel_rfl) rfl
theorem ent172 : Ent Tryz.prog 172 := Ent.of Tryz.func172 (by kernel_rfl) rfl
theorem ent173 : Ent Tryz.prog 173 := Ent.of Tryz.func173 (by kernel_rfl) rfl
theorem ent174 : Ent Tryz.prog 174 := Ent.of Tryz.func174 (by kernel_rfl) rfl
theorem ent188 : Ent Tryz.prog 188 := Ent.of Tryz.func188 (by kernel_rfl) rfl
theorem ent224 : Ent Tryz.prog 224 := Ent.of Tryz.func224 (by kernel_rfl) rfl
theorem ent225 : Ent Tryz.prog 225 := Ent.of Tryz.func225 (by kernel_rfl) rfl
theorem ent226 : Ent Tryz.prog 226 := Ent.of Tryz.func226 (by kernel_rfl) rfl
theorem ent227 : Ent Tryz.prog 227 := Ent.of Tryz.func227 (by kernel_rfl) rfl
theorem ent228 : Ent Tryz.prog 228 := Ent.of Tryz.func228 (by kernel_rfl) rfl
theorem byte_IndexFunc {xs : List UInt8} {v : Value} {g : FuncId} {caps : Array Value} {p : UInt8 → Bool} (w0 : World) (hv : RSl (REnc encByte) 1 w0 v xs) (he : Ent Tryz.prog g)
    (hp : ∀ W x, Ext w0 W → x ∈ xs → Ret Tryz.prog g ([.int .u8 (x.toNat : Int)] ++ caps.toList) W fun r W' => r = .bool (p x) ∧ Ext W W') :
    Ret Tryz.prog 188 [v, .func (.func g) #[] caps] w0 fun r w' => r = .int .i64 (idxOf p xs) ∧ Ext w0 w' := by
  obtain ⟨A, c, rfl, hc1, hc2⟩ := hv.form
  have E : Ext w0 w0 := Ext.refl w0
  refine St.enter (N := 19) Tryz.func188 rfl Tryz.ntmps188 rfl ?_
  refine St.seq fun K0 hK0 => ?_
  refine St.region ?_
  refine St.r (R.assign rfl) rfl rfl ?_
  refine St.nil ?_
  refine St.weak [(0, _), (1, _)] ⟨rfl, rfl, trivial⟩ ?_
  refine St.then_n ?_
  refine St.go hK0 ?_
  clear hK0
  refine St.seq fun K1 hK1 => ?_
  refine St.seq fun K2 hK2 => ?_
  refine St.region ?_
  refine St.r (R.move rfl) rfl rfl ?_
  refine St.r (R.lenSl Tryz.underlying155 rfl) rfl rfl ?_
  refine St.r (R.move rfl) rfl rfl ?_
  refine St.nil ?_
  refine St.weak [(0, _), (1, _), (7, _), (8, _)] ⟨rfl, rfl, rfl, rfl, trivial⟩ ?_
  refine St.then_n ?_
  refine St.go hK2 ?_
  clear hK2
  refine St.block ?_
  refine St.loop (fun (k : Nat) => [(0, .slice A xs.length c), (1, .func (.func g) #[] caps), (7, .int .i64 (xs.length : Int)), (8, .int .i64 (k : Int))])
      (fun (k : Nat) w => k ≤ xs.length ∧ Ext w0 w ∧ ∀ y ∈ xs.take k, p y = false)
      (fun (k : Nat) => xs.length - k) 0 ⟨rfl, rfl, rfl, rfl, trivial⟩ ?_ ?_
  · exact ⟨Nat.zero_le _, E, by simp⟩
  rintro k w ⟨hk, E, hall⟩
  show St _ _ [(0, .slice A xs.length c), (1, .func (.func g) #[] caps), (7, .int .i64 (xs.length : Int)), (8, .int .i64 (k : Int))] _ _
  refine St.seq fun K3 hK3 => ?_
  refine St.region ?_
  refine St.r (R.lss rfl rfl) rfl rfl ?_
  refine St.nil ?_
  refine St.weak [(0, _), (1, _), (7, _), (8, _), (9, _)] ⟨rfl, rfl, rfl, rfl, rfl, trivial⟩ ?_
  refine St.then_n ?_
  refine St.go hK3 ?_
  clear hK3
  refine St.seq fun K4 hK4 => ?_
  refine St.condD rfl (fun h9 => ?_) (fun h9 => ?_)
  ·
    obtain ⟨x, hx⟩ := get_of_lt (xs := xs) (k := k) (by omega)
    obtain ⟨b, o, c', heq, -, -, hcell⟩ := hv.at (by omega)
    cases heq
    obtain ⟨cs, -, hx', rfl⟩ := hcell k x hx
    refine St.skip ?_
    refine St.then_n ?_
    refine St.go hK4 ?_
    clear hK4
    refine St.seq fun K5 hK5 => ?_
    refine St.block ?_
    refine St.seq fun K6 hK6 => ?_
    refine St.region ?_
    refine St.r (R.move rfl) rfl rfl ?_
    refine St.r (R.assign rfl) rfl rfl ?_
    refine St.nil ?_
    refine St.weak [(0, _), (1, _), (5, _), (7, _), (8, _)] ⟨rfl, rfl, rfl, rfl, rfl, trivial⟩ ?_
    refine St.then_n ?_
    refine St.go hK6 ?_
    clear hK6
    refine St.seq fun K7 hK7 => ?_
    refine St.region ?_
    refine St.r (R.move rfl) rfl rfl ?_
    refine St.r (R.move rfl) rfl rfl ?_
    refine St.r (R.move rfl) rfl rfl ?_
    refine St.r (R.indexS _ Tryz.underlying155 Tryz.sizeOf5 rfl rfl rfl (by omega)) rfl rfl ?_
    refine St.r (R.load1 Tryz.isAgg5 rfl ((E.cells hx').at 0 rfl)) rfl rfl ?_
    refine St.call rfl rfl he (hp _ x E (List.mem_of_getElem? hx)) rfl ?_
    rintro r16 w16 ⟨rfl, e16⟩
    replace E := Ext.trans E e16
    refine St.nil ?_
    refine St.weak [(0, _), (1, _), (5, _), (7, _), (8, _), (16, _)] ⟨rfl, rfl, rfl, rfl, rfl, rfl, trivial⟩ ?_
    refine St.then_n ?_
    refine St.go hK7 ?_
    clear hK7
    refine St.cond rfl (fun h16 => ?_) (fun h16 => ?_)
    ·
      refine St.seq fun K8 hK8 => ?_
      refine St.region ?_
      refine St.r (R.move rfl) rfl rfl ?_
      refine St.r (R.assign rfl) rfl rfl ?_
      refine St.nil ?_
      refine St.weak [(4, _)] ⟨rfl, trivial⟩ ?_
      refine St.then_n ?_
      refine St.go hK8 ?_
      clear hK8
      refine St.ret ?_
      refine St.in_r ?_
      refine St.then_r ?_
      refine St.then_r ?_
      refine St.in_r ?_
      refine St.then_r ?_
      refine St.ret1 Tryz.results188 rfl ?_
      exact ⟨_, rfl, by rw [idxOf_found hx h16 hall], E⟩
    ·
      refine St.skip ?_
      refine St.in_n ?_
      refine St.then_n ?_
      refine St.go hK5 ?_
      clear hK5
      refine St.region ?_
      refine St.r (R.add rfl rfl (by omega) (by omega)) rfl rfl ?_
      refine St.r (R.move rfl) rfl rfl ?_
      refine St.nil ?_
      refine St.weak [(0, _), (1, _), (7, _), (8, _)] ⟨rfl, rfl, rfl, rfl, trivial⟩ ?_
      refine St.then_n ?_
      refine St.round (k + 1) ⟨rfl, rfl, rfl, rfl, trivial⟩ ?_ ?_
      · refine ⟨by omega, E, ?_⟩
        rw [take_snoc hx]
        intro y hy
        rcases List.mem_append.1 hy with hy | hy
        · exact hall y hy
        · rw [List.mem_singleton] at hy; subst hy; exact h16
      · omega
  ·
    refine St.exit ?_
    refine St.then_x ?_
    refine St.then_x ?_
    refine St.in_x ?_
    refine St.then_n ?_
    refine St.go hK1 ?_
    clear hK1
    refine St.seq fun K9 hK9 => ?_
    refine St.region ?_
    refine St.r (R.assign rfl) rfl rfl ?_
    refine St.nil ?_
    refine St.weak [(4, _)] ⟨rfl, trivial⟩ ?_
    refine St.then_n ?_
    refine St.go hK9 ?_
    clear hK9
    refine St.ret ?_
    refine St.ret1 Tryz.results188 rfl ?_
    exact ⟨_, rfl, by rw [idxOf_none (fun x hx => hall x (by rw [List.take_of_length_le (by omega)]; exact hx))], E⟩

theorem byte_ContainsFunc {xs : List UInt8} {v : Value} {g : FuncId} {caps : Array Value} {p : UInt8 → Bool} (w0 : World) (hv : RSl (REnc encByte) 1 w0 v xs) (he : Ent Tryz.prog g)
    (hp : ∀ W x, Ext w0 W → x ∈ xs → Ret Tryz.prog g ([.int .u8 (x.toNat : Int)] ++ caps.toList) W fun r W' => r = .bool (p x) ∧ Ext W W') :
    Ret Tryz.prog 138 [v, .func (.func g) #[] caps] w0 fun r w' => r = .bool (xs.any p) ∧ Ext w0 w' := by
  have E : Ext w0 w0 := Ext.refl w0
  refine St.enter (N := 9) Tryz.func138 rfl Tryz.ntmps138 rfl ?_
  refine St.seq fun K0 hK0 => ?_
  refine St.region ?_
  refine St.r (R.assign rfl) rfl rfl ?_
  refine St.nil ?_
  refine St.weak [(0, _), (1, _)] ⟨rfl, rfl, trivial⟩ ?_
  refine St.then_n ?_
  refine St.go hK0 ?_
  clear hK0
  refine St.seq fun K1 hK1 => ?_
  refine St.region ?_
  refine St.r (R.move rfl) rfl rfl ?_
  refine St.r (R.move rfl) rfl rfl ?_
  refine St.call rfl rfl ent188 (byte_IndexFunc w0 hv he hp) rfl ?_
  rintro r7 w7 ⟨rfl, e7⟩
  replace E := Ext.trans E e7
  refine St.r (Runs.eq (R.geq rfl rfl) ((congrArg Value.bool (idxOf_any p xs)))) rfl rfl ?_
  refine St.r (R.assign rfl) rfl rfl ?_
  refine St.nil ?_
  refine St.weak [(4, _)] ⟨rfl, trivial⟩ ?_
  refine St.then_n ?_
  refine St.go hK1 ?_
  clear hK1
  refine St.ret ?_
  refine St.ret1 Tryz.results138 rfl ?_
  exact ⟨_, rfl, rfl, E⟩

theorem letter_ret {c : UInt8} (w0 : World) : Ret Tryz.prog 174 [.int .u8 (c.toNat : Int)] w0 fun r w' => r = .bool (letterB c) ∧ Ext w0 w' := by
  refine St.enter (N := 9) Tryz.func174 rfl Tryz.ntmps174 rfl ?_
  refine St.seq fun K0 hK0 => ?_
  refine St.region ?_
  refine St.r (R.assign rfl) rfl rfl ?_
  refine St.nil ?_
  refine St.weak [(0, _)] ⟨rfl, trivial⟩ ?_
  refine St.then_n ?_
  refine St.go hK0 ?_
  clear hK0
  refine St.seq fun K1 hK1 => ?_
  by_cases h4 : (97 : Int) ≤ (c.toNat : Int)
  ·
    refine St.region ?_
    refine St.r (R.move rfl) rfl rfl ?_
    refine St.r (Runs.lit (c := true) (R.geq rfl rfl) (decide_eq_true h4)) rfl rfl ?_
    refine St.r (R.move rfl) rfl rfl ?_
    refine St.take (dg := 5) rfl rfl ?_ rfl
    refine St.r (R.move rfl) rfl rfl ?_
    refine St.take (dg := 5) rfl rfl ?_ rfl
    refine St.r (R.leq rfl rfl) rfl rfl ?_
    refine St.r (R.pickT rfl rfl) rfl rfl ?_
    refine St.r (R.assign rfl) rfl rfl ?_
    refine St.nil ?_
    refine St.weak [(2, _)] ⟨rfl, trivial⟩ ?_
    refine St.then_n ?_
    refine St.go hK1 ?_
    clear hK1
    refine St.ret ?_
    refine St.ret1 Tryz.results174 rfl ?_
    exact ⟨_, rfl, by rw [letterB, decide_eq_true h4, Bool.true_and], Ext.refl _⟩
  ·
    refine St.region ?_
    refine St.r (R.move rfl) rfl rfl ?_
    refine St.r (Runs.lit (c := false) (R.geq rfl rfl) (decide_eq_false h4)) rfl rfl ?_
    refine St.r (R.move rfl) rfl rfl ?_
    refine St.pass (dg := 5) rfl rfl rfl rfl rfl ?_
    refine St.pass (dg := 5) rfl rfl rfl rfl rfl ?_
    refine St.r (R.pickF rfl rfl) rfl rfl ?_
    refine St.r (R.assign rfl) rfl rfl ?_
    refine St.nil ?_
    refine St.weak [(2, _)] ⟨rfl, trivial⟩ ?_
    refine St.then_n ?_
    refine St.go hK1 ?_
    clear hK1
    refine St.ret ?_
    refine St.ret1 Tryz.results174 rfl ?_
    exact ⟨_, rfl, by rw [letterB, decide_eq_false h4]; rfl, Ext.refl _⟩

theorem digit_ret {c : UInt8} (w0 : World) : Ret Tryz.prog 226 [.int .u8 (c.toNat : Int)] w0 fun r w' => r = .bool (digitB c) ∧ Ext w0 w' := by
  refine St.enter (N := 9) Tryz.func226 rfl Tryz.ntmps226 rfl ?_
  refine St.seq fun K0 hK0 => ?_
  refine St.region ?_
  refine St.r (R.assign rfl) rfl rfl ?_
  refine St.nil ?_
  refine St.weak [(0, _)] ⟨rfl, trivial⟩ ?_
  refine St.then_n ?_
  refine St.go hK0 ?_
  clear hK0
  refine St.seq fun K1 hK1 => ?_
  by_cases h4 : (48 : Int) ≤ (c.toNat : Int)
  ·
    refine St.region ?_
    refine St.r (R.move rfl) rfl rfl ?_
    refine St.r (Runs.lit (c := true) (R.geq rfl rfl) (decide_eq_true h4)) rfl rfl ?_
    refine St.r (R.move rfl) rfl rfl ?_
    refine St.take (dg := 5) rfl rfl ?_ rfl
    refine St.r (R.move rfl) rfl rfl ?_
    refine St.take (dg := 5) rfl rfl ?_ rfl
    refine St.r (R.leq rfl rfl) rfl rfl ?_
    refine St.r (R.pickT rfl rfl) rfl rfl ?_
    refine St.r (R.assign rfl) rfl rfl ?_
    refine St.nil ?_
    refine St.weak [(2, _)] ⟨rfl, trivial⟩ ?_
    refine St.then_n ?_
    refine St.go hK1 ?_
    clear hK1
    refine St.ret ?_
    refine St.ret1 Tryz.results226 rfl ?_
    exact ⟨_, rfl, by rw [digitB, decide_eq_true h4, Bool.true_and], Ext.refl _⟩
  ·
    refine St.region ?_
    refine St.r (R.move rfl) rfl rfl ?_
    refine St.r (Runs.lit (c := false) (R.geq rfl rfl) (decide_eq_false h4)) rfl rfl ?_
    refine St.r (R.move rfl) rfl rfl ?_
    refine St.pass (dg := 5) rfl rfl rfl rfl rfl ?_
    refine St.pass (dg := 5) rfl rfl rfl rfl rfl ?_
    refine St.r (R.pickF rfl rfl) rfl rfl ?_
    refine St.r (R.assign rfl) rfl rfl ?_
    refine St.nil ?_
    refine St.weak [(2, _)] ⟨rfl, trivial⟩ ?_
    refine St.then_n ?_
    refine St.go hK1 ?_
    clear hK1
    refine St.ret ?_
    refine St.ret1 Tryz.results226 rfl ?_
    exact ⟨_, rfl, by rw [digitB, decide_eq_false h4]; rfl, Ext.refl _⟩

theorem bytes1_ret {c : UInt8} (w0 : World) : Ret Tryz.prog 225 [.int .u8 (c.toNat : Int)] w0 fun r w' => r = .bool (nameB c) ∧ Ext w0 w' := by
  have E : Ext w0 w0 := Ext.refl w0
  refine St.enter (N := 21) Tryz.func225 rfl Tryz.ntmps225 rfl ?_
  refine St.seq fun K0 hK0 => ?_
  refine St.region ?_
  refine St.r (R.assign rfl) rfl rfl ?_
  refine St.nil ?_
  refine St.weak [(0, _)] ⟨rfl, trivial⟩ ?_
  refine St.then_n ?_
  refine St.go hK0 ?_
  clear hK0
  refine St.seq fun K1 hK1 => ?_
  rcases Bool.eq_false_or_eq_true (letterB c) with h5 | h5
  ·
    refine St.region ?_
    refine St.r (R.move rfl) rfl rfl ?_
    refine St.call rfl rfl ent174 (letter_ret _) rfl ?_
    rintro r4 w4 ⟨rfl, e4⟩
    replace E := Ext.trans E e4
    refine St.r (Runs.lit (c := true) (R.move rfl) (h5)) rfl rfl ?_
    refine St.pass (dg := 5) rfl rfl rfl rfl rfl ?_
    refine St.pass (dg := 5) rfl rfl rfl rfl rfl ?_
    refine St.r (R.pickT rfl rfl) rfl rfl ?_
    refine St.r (R.move rfl) rfl rfl ?_
    refine St.pass (dg := 9) rfl rfl rfl rfl rfl ?_
    refine St.pass (dg := 9) rfl rfl rfl rfl rfl ?_
    refine St.r (R.pickT rfl rfl) rfl rfl ?_
    refine St.r (R.move rfl) rfl rfl ?_
    refine St.pass (dg := 13) rfl rfl rfl rfl rfl ?_
    refine St.pass (dg := 13) rfl rfl rfl rfl rfl ?_
    refine St.r (R.pickT rfl rfl) rfl rfl ?_
    refine St.r (R.move rfl) rfl rfl ?_
    refine St.pass (dg := 17) rfl rfl rfl rfl rfl ?_
    refine St.pass (dg := 17) rfl rfl rfl rfl rfl ?_
    refine St.r (R.pickT rfl rfl) rfl rfl ?_
    refine St.r (R.assign rfl) rfl rfl ?_
    refine St.nil ?_
    refine St.weak [(2, _)] ⟨rfl, trivial⟩ ?_
    refine St.then_n ?_
    refine St.go hK1 ?_
    clear hK1
    refine St.ret ?_
    refine St.ret1 Tryz.results225 rfl ?_
    exact ⟨_, rfl, by rw [nameB, h5]; rfl, E⟩
  ·
    rcases Bool.eq_false_or_eq_true (digitB c) with h9 | h9
    ·
      refine St.region ?_
      refine St.r (R.move rfl) rfl rfl ?_
      refine St.call rfl rfl ent174 (letter_ret _) rfl ?_
      rintro r4 w4 ⟨rfl, e4⟩
      replace E := Ext.trans E e4
      refine St.r (Runs.lit (c := false) (R.move rfl) (h5)) rfl rfl ?_
      refine St.take (dg := 5) rfl rfl ?_ rfl
      refine St.r (R.move rfl) rfl rfl ?_
      refine St.take (dg := 5) rfl rfl ?_ rfl
      refine St.call rfl rfl ent226 (digit_ret _) rfl ?_
      rintro r7 w7 ⟨rfl, e7⟩
      replace E := Ext.trans E e7
      refine St.r (R.pickF rfl rfl) rfl rfl ?_
      refine St.r (Runs.lit (c := true) (R.move rfl) (h9)) rfl rfl ?_
      refine St.pass (dg := 9) rfl rfl rfl rfl rfl ?_
      refine St.pass (dg := 9) rfl rfl rfl rfl rfl ?_
      refine St.r (R.pickT rfl rfl) rfl rfl ?_
      refine St.r (R.move rfl) rfl rfl ?_
      refine St.pass (dg := 13) rfl rfl rfl rfl rfl ?_
      refine St.pass (dg := 13) rfl rfl rfl rfl rfl ?_
      refine St.r (R.pickT rfl rfl) rfl rfl ?_
      refine St.r (R.move rfl) rfl rfl ?_
      refine St.pass (dg := 17) rfl rfl rfl rfl rfl ?_
      refine St.pass (dg := 17) rfl rfl rfl rfl rfl ?_
      refine St.r (R.pickT rfl rfl) rfl rfl ?_
      refine St.r (R.assign rfl) rfl rfl ?_
      refine St.nil ?_
      refine St.weak [(2, _)] ⟨rfl, trivial⟩ ?_
      refine St.then_n ?_
      refine St.go hK1 ?_
      clear hK1
      refine St.ret ?_
      refine St.ret1 Tryz.results225 rfl ?_
      exact ⟨_, rfl, by rw [nameB, h5, h9]; rfl, E⟩
    ·
      by_cases h11 : (c.toNat : Int) = 58
      ·
        refine St.region ?_
        refine St.r (R.move rfl) rfl rfl ?_
        refine St.call rfl rfl ent174 (letter_ret _) rfl ?_
        rintro r4 w4 ⟨rfl, e4⟩
        replace E := Ext.trans E e4
        refine St.r (Runs.lit (c := false) (R.move rfl) (h5)) rfl rfl ?_
        refine St.take (dg := 5) rfl rfl ?_ rfl
        refine St.r (R.move rfl) rfl rfl ?_
        refine St.take (dg := 5) rfl rfl ?_ rfl
        refine St.call rfl rfl ent226 (digit_ret _) rfl ?_
        rintro r7 w7 ⟨rfl, e7⟩
        replace E := Ext.trans E e7
        refine St.r (R.pickF rfl rfl) rfl rfl ?_
        refine St.r (Runs.lit (c := false) (R.move rfl) (h9)) rfl rfl ?_
        refine St.take (dg := 9) rfl rfl ?_ rfl
        refine St.r (R.move rfl) rfl rfl ?_
        refine St.take (dg := 9) rfl rfl ?_ rfl
        refine St.r (R.eql rfl rfl) rfl rfl ?_
        refine St.r (R.pickF rfl rfl) rfl rfl ?_
        refine St.r (Runs.lit (c := true) (R.move rfl) (decide_eq_true h11)) rfl rfl ?_
        refine St.pass (dg := 13) rfl rfl rfl rfl rfl ?_
        refine St.pass (dg := 13) rfl rfl rfl rfl rfl ?_
        refine St.r (R.pickT rfl rfl) rfl rfl ?_
        refine St.r (R.move rfl) rfl rfl ?_
        refine St.pass (dg := 17) rfl rfl rfl rfl rfl ?_
        refine St.pass (dg := 17) rfl rfl rfl rfl rfl ?_
        refine St.r (R.pickT rfl rfl) rfl rfl ?_
        refine St.r (R.assign rfl) rfl rfl ?_
        refine St.nil ?_
        refine St.weak [(2, _)] ⟨rfl, trivial⟩ ?_
        refine St.then_n ?_
        refine St.go hK1 ?_
        clear hK1
        refine St.ret ?_
        refine St.ret1 Tryz.results225 rfl ?_
        exact ⟨_, rfl, by rw [nameB, h5, h9, decide_eq_true h11]; rfl, E⟩
      ·
        by_cases h15 : (c.toNat : Int) = 47
        ·
          refine St.region ?_
          refine St.r (R.move rfl) rfl rfl ?_
          refine St.call rfl rfl ent174 (letter_ret _) rfl ?_
          rintro r4 w4 ⟨rfl, e4⟩
          replace E := Ext.trans E e4
          refine St.r (Runs.lit (c := false) (R.move rfl) (h5)) rfl rfl ?_
          refine St.take (dg := 5) rfl rfl ?_ rfl
          refine St.r (R.move rfl) rfl rfl ?_
          refine St.take (dg := 5) rfl rfl ?_ rfl
          refine St.call rfl rfl ent226 (digit_ret _) rfl ?_
          rintro r7 w7 ⟨rfl, e7⟩
          replace E := Ext.trans E e7
          refine St.r (R.pickF rfl rfl) rfl rfl ?_
          refine St.r (Runs.lit (c := false) (R.move rfl) (h9)) rfl rfl ?_
          refine St.take (dg := 9) rfl rfl ?_ rfl
          refine St.r (R.move rfl) rfl rfl ?_
          refine St.take (dg := 9) rfl rfl ?_ rfl
          refine St.r (R.eql rfl rfl) rfl rfl ?_
          refine St.r (R.pickF rfl rfl) rfl rfl ?_
          refine St.r (Runs.lit (c := false) (R.move rfl) (decide_eq_false h11)) rfl rfl ?_
          refine St.take (dg := 13) rfl rfl ?_ rfl
          refine St.r (R.move rfl) rfl rfl ?_
          refine St.take (dg := 13) rfl rfl ?_ rfl
          refine St.r (R.eql rfl rfl) rfl rfl ?_
          refine St.r (R.pickF rfl rfl) rfl rfl ?_
          refine St.r (Runs.lit (c := true) (R.move rfl) (decide_eq_true h15)) rfl rfl ?_
          refine St.pass (dg := 17) rfl rfl rfl rfl rfl ?_
          refine St.pass (dg := 17) rfl rfl rfl rfl rfl ?_
          refine St.r (R.pickT rfl rfl) rfl rfl ?_
          refine St.r (R.assign rfl) rfl rfl ?_
          refine St.nil ?_
          refine St.weak [(2, _)] ⟨rfl, trivial⟩ ?_
          refine St.then_n ?_
          refine St.go hK1 ?_
          clear hK1
          refine St.ret ?_
          refine St.ret1 Tryz.results225 rfl ?_
          exact ⟨_, rfl, by rw [nameB, h5, h9, decide_eq_false h11, decide_eq_true h15]; rfl, E⟩
        ·
          refine St.region ?_
          refine St.r (R.move rfl) rfl rfl ?_
          refine St.call rfl rfl ent174 (letter_ret _) rfl ?_
          rintro r4 w4 ⟨rfl, e4⟩
          replace E := Ext.trans E e4
          refine St.r (Runs.lit (c := false) (R.move rfl) (h5)) rfl rfl ?_
          refine St.take (dg := 5) rfl rfl ?_ rfl
          refine St.r (R.move rfl) rfl rfl ?_
          refine St.take (dg := 5) rfl rfl ?_ rfl
          refine St.call rfl rfl ent226 (digit_ret _) rfl ?_
          rintro r7 w7 ⟨rfl, e7⟩
          replace E := Ext.trans E e7
          refine St.r (R.pickF rfl rfl) rfl rfl ?_
          refine St.r (Runs.lit (c := false) (R.move rfl) (h9)) rfl rfl ?_
          refine St.take (dg := 9) rfl rfl ?_ rfl
          refine St.r (R.move rfl) rfl rfl ?_
          refine St.take (dg := 9) rfl rfl ?_ rfl
          refine St.r (R.eql rfl rfl) rfl rfl ?_
          refine St.r (R.pickF rfl rfl) rfl rfl ?_
          refine St.r (Runs.lit (c := false) (R.move rfl) (decide_eq_false h11)) rfl rfl ?_
          refine St.take (dg := 13) rfl rfl ?_ rfl
          refine St.r (R.move rfl) rfl rfl ?_
          refine St.take (dg := 13) rfl rfl ?_ rfl
          refine St.r (R.eql rfl rfl) rfl rfl ?_
          refine St.r (R.pickF rfl rfl) rfl rfl ?_
          refine St.r (Runs.lit (c := false) (R.move rfl) (decide_eq_false h15)) rfl rfl ?_
          refine St.take (dg := 17) rfl rfl ?_ rfl
          refine St.r (R.move rfl) rfl rfl ?_
          refine St.take (dg := 17) rfl rfl ?_ rfl
          refine St.r (R.eql rfl rfl) rfl rfl ?_
          refine St.r (R.pickF rfl rfl) rfl rfl ?_
          refine St.r (R.assign rfl) rfl rfl ?_
          refine St.nil ?_
          refine St.weak [(2, _)] ⟨rfl, trivial⟩ ?_
          refine St.then_n ?_
          refine St.go hK1 ?_
          clear hK1
          refine St.ret ?_
          refine St.ret1 Tryz.results225 rfl ?_
          exact ⟨_, rfl, by rw [nameB, h5, h9, decide_eq_false h11, decide_eq_false h15]; rfl, E⟩

theorem bytes2_ret {c : UInt8} (w0 : World) : Ret Tryz.prog 227 [.int .u8 (c.toNat : Int)] w0 fun r w' => r = .bool (anonB c) ∧ Ext w0 w' := by
  have E : Ext w0 w0 := Ext.refl w0
  refine St.enter (N := 9) Tryz.func227 rfl Tryz.ntmps227 rfl ?_
  refine St.seq fun K0 hK0 => ?_
  refine St.region ?_
  refine St.r (R.assign rfl) rfl rfl ?_
  refine St.nil ?_
  refine St.weak [(0, _)] ⟨rfl, trivial⟩ ?_
  refine St.then_n ?_
  refine St.go hK0 ?_
  clear hK0
  refine St.seq fun K1 hK1 => ?_
  rcases Bool.eq_false_or_eq_true (letterB c) with h5 | h5
  ·
    refine St.region ?_
    refine St.r (R.move rfl) rfl rfl ?_
    refine St.call rfl rfl ent174 (letter_ret _) rfl ?_
    rintro r4 w4 ⟨rfl, e4⟩
    replace E := Ext.trans E e4
    refine St.r (Runs.lit (c := true) (R.move rfl) (h5)) rfl rfl ?_
    refine St.pass (dg := 5) rfl rfl rfl rfl rfl ?_
    refine St.pass (dg := 5) rfl rfl rfl rfl rfl ?_
    refine St.r (R.pickT rfl rfl) rfl rfl ?_
    refine St.r (R.assign rfl) rfl rfl ?_
    refine St.nil ?_
    refine St.weak [(2, _)] ⟨rfl, trivial⟩ ?_
    refine St.then_n ?_
    refine St.go hK1 ?_
    clear hK1
    refine St.ret ?_
    refine St.ret1 Tryz.results227 rfl ?_
    exact ⟨_, rfl, by rw [anonB, h5]; rfl, E⟩
  ·
    refine St.region ?_
    refine St.r (R.move rfl) rfl rfl ?_
    refine St.call rfl rfl ent174 (letter_ret _) rfl ?_
    rintro r4 w4 ⟨rfl, e4⟩
    replace E := Ext.trans E e4
    refine St.r (Runs.lit (c := false) (R.move rfl) (h5)) rfl rfl ?_
    refine St.take (dg := 5) rfl rfl ?_ rfl
    refine St.r (R.move rfl) rfl rfl ?_
    refine St.take (dg := 5) rfl rfl ?_ rfl
    refine St.call rfl rfl ent226 (digit_ret _) rfl ?_
    rintro r7 w7 ⟨rfl, e7⟩
    replace E := Ext.trans E e7
    refine St.r (R.pickF rfl rfl) rfl rfl ?_
    refine St.r (R.assign rfl) rfl rfl ?_
    refine St.nil ?_
    refine St.weak [(2, _)] ⟨rfl, trivial⟩ ?_
    refine St.then_n ?_
    refine St.go hK1 ?_
    clear hK1
    refine St.ret ?_
    refine St.ret1 Tryz.results227 rfl ?_
    exact ⟨_, rfl, by rw [anonB, h5]; rfl, E⟩

theorem bytes3_ret {c : UInt8} (w0 : World) : Ret Tryz.prog 228 [.int .u8 (c.toNat : Int)] w0 fun r w' => r = .bool (printB c) ∧ Ext w0 w' := by
  refine St.enter (N := 9) Tryz.func228 rfl Tryz.ntmps228 rfl ?_
  refine St.seq fun K0 hK0 => ?_
  refine St.region ?_
  refine St.r (R.assign rfl) rfl rfl ?_
  refine St.nil ?_
  refine St.weak [(0, _)] ⟨rfl, trivial⟩ ?_
  refine St.then_n ?_
  refine St.go hK0 ?_
  clear hK0
  refine St.seq fun K1 hK1 => ?_
  by_cases h4 : (32 : Int) ≤ (c.toNat : Int)
  ·
    refine St.region ?_
    refine St.r (R.move rfl) rfl rfl ?_
    refine St.r (Runs.lit (c := true) (R.geq rfl rfl) (decide_eq_true h4)) rfl rfl ?_
    refine St.r (R.move rfl) rfl rfl ?_
    refine St.take (dg := 5) rfl rfl ?_ rfl
    refine St.r (R.move rfl) rfl rfl ?_
    refine St.take (dg := 5) rfl rfl ?_ rfl
    refine St.r (R.leq rfl rfl) rfl rfl ?_
    refine St.r (R.pickT rfl rfl) rfl rfl ?_
    refine St.r (R.assign rfl) rfl rfl ?_
    refine St.nil ?_
    refine St.weak [(2, _)] ⟨rfl, trivial⟩ ?_
    refine St.then_n ?_
    refine St.go hK1 ?_
    clear hK1
    refine St.ret ?_
    refine St.ret1 Tryz.results228 rfl ?_
    exact ⟨_, rfl, by rw [printB, decide_eq_true h4, Bool.true_and], Ext.refl _⟩
  ·
    refine St.region ?_
    refine St.r (R.move rfl) rfl rfl ?_
    refine St.r (Runs.lit (c := false) (R.geq rfl rfl) (decide_eq_false h4)) rfl rfl ?_
    refine St.r (R.move rfl) rfl rfl ?_
    refine St.pass (dg := 5) rfl rfl rfl rfl rfl ?_
    refine St.pass (dg := 5) rfl rfl rfl rfl rfl ?_
    refine St.r (R.pickF rfl rfl) rfl rfl ?_
    refine St.r (R.assign rfl) rfl rfl ?_
    refine St.nil ?_
    refine St.weak [(2, _)] ⟨rfl, trivial⟩ ?_
    refine St.then_n ?_
    refine St.go hK1 ?_
    clear hK1
    refine St.ret ?_
    refine St.ret1 Tryz.results228 rfl ?_
    exact ⟨_, rfl, by rw [printB, decide_eq_false h4]; rfl, Ext.refl _⟩


def byteF (k : Int) : FuncId := if k = 1 then 225 else if k = 2 then 227 else 228
theorem byteF_ent (k : Int) : Ent Tryz.prog (byteF k) := by
  unfold byteF; split
  · exact ent225
  · split
    · exact ent227
    · exact ent228
theorem byteF_ret (k : Int) {c : UInt8} (w0 : World) : Ret Tryz.prog (byteF k) [.int .u8 (c.toNat : Int)] w0 fun r w' => r = .bool (okByte k c) ∧ Ext w0 w' := by
  unfold byteF okByte
  split
  · exact bytes1_ret w0
  · split
    · exact bytes2_ret w0
    · exact bytes3_ret w0

theorem bytes_ret {k : Int} (w0 : World) : Ret Tryz.prog 173 [.int .i64 k] w0 fun r w' => r = .func (.func (byteF k)) #[] #[] ∧ Ext w0 w' := by
  refine St.enter (N := 8) Tryz.func173 rfl Tryz.ntmps173 rfl ?_
  refine St.seq fun K0 hK0 => ?_
  refine St.region ?_
  refine St.r (R.assign rfl) rfl rfl ?_
  refine St.nil ?_
  refine St.weak [(0, _)] ⟨rfl, trivial⟩ ?_
  refine St.then_n ?_
  refine St.go hK0 ?_
  clear hK0
  refine St.seq fun K1 hK1 => ?_
  refine St.seq fun K2 hK2 => ?_
  refine St.region ?_
  refine St.r (R.move rfl) rfl rfl ?_
  refine St.nil ?_
  refine St.weak [(3, _)] ⟨rfl, trivial⟩ ?_
  refine St.then_n ?_
  refine St.go hK2 ?_
  clear hK2
  refine St.block ?_
  refine St.seq fun K3 hK3 => ?_
  refine St.region ?_
  refine St.r (R.eql rfl rfl) rfl rfl ?_
  refine St.r (R.assign rfl) rfl rfl ?_
  refine St.nil ?_
  refine St.weak [(3, _), (4, _)] ⟨rfl, rfl, trivial⟩ ?_
  refine St.then_n ?_
  refine St.go hK3 ?_
  clear hK3
  refine St.condD rfl (fun h4 => ?_) (fun h4 => ?_)
  ·
    refine St.seq fun K4 hK4 => ?_
    refine St.region ?_
    refine St.r (R.assign rfl) rfl rfl ?_
    refine St.nil ?_
    refine St.weak [(2, _)] ⟨rfl, trivial⟩ ?_
    refine St.then_n ?_
    refine St.go hK4 ?_
    clear hK4
    refine St.ret ?_
    refine St.in_r ?_
    refine St.then_r ?_
    refine St.ret1 Tryz.results173 rfl ?_
    exact ⟨_, rfl, by rw [byteF, if_pos h4], Ext.refl _⟩
  ·
    refine St.seq fun K5 hK5 => ?_
    refine St.region ?_
    refine St.r (R.eql rfl rfl) rfl rfl ?_
    refine St.r (R.assign rfl) rfl rfl ?_
    refine St.nil ?_
    refine St.weak [(6, _)] ⟨rfl, trivial⟩ ?_
    refine St.then_n ?_
    refine St.go hK5 ?_
    clear hK5
    refine St.condD rfl (fun h6 => ?_) (fun h6 => ?_)
    ·
      refine St.seq fun K6 hK6 => ?_
      refine St.region ?_
      refine St.r (R.assign rfl) rfl rfl ?_
      refine St.nil ?_
      refine St.weak [(2, _)] ⟨rfl, trivial⟩ ?_
      refine St.then_n ?_
      refine St.go hK6 ?_
      clear hK6
      refine St.ret ?_
      refine St.in_r ?_
      refine St.then_r ?_
      refine St.ret1 Tryz.results173 rfl ?_
      exact ⟨_, rfl, by rw [byteF, if_neg h4, if_pos h6], Ext.refl _⟩
    ·
      refine St.skip ?_
      refine St.in_n ?_
      refine St.then_n ?_
      refine St.go hK1 ?_
      clear hK1
      refine St.seq fun K7 hK7 => ?_
      refine St.region ?_
      refine St.r (R.assign rfl) rfl rfl ?_
      refine St.nil ?_
      refine St.weak [(2, _)] ⟨rfl, trivial⟩ ?_
      refine St.then_n ?_
      refine St.go hK7 ?_
      clear hK7
      refine St.ret ?_
      refine St.ret1 Tryz.results173 rfl ?_
      exact ⟨_, rfl, by rw [byteF, if_neg h4, if_neg h6], Ext.refl _⟩

theorem all1_ret {c : UInt8} {B : Nat} {g : FuncId} {p : UInt8 → Bool} (w0 : World) (hB : w0.cell? ⟨B, 0, none⟩ = some (.func (.func g) #[] #[])) (he : Ent Tryz.prog g) (hp : ∀ W x, Ret Tryz.prog g [.int .u8 ((x : UInt8).toNat : Int)] W fun r W' => r = .bool (p x) ∧ Ext W W') :
    Ret Tryz.prog 224 [.int .u8 (c.toNat : Int), .pointer (some ⟨B, 0, none⟩)] w0 fun r w' => r = .bool (!p c) ∧ Ext w0 w' := by
  have E : Ext w0 w0 := Ext.refl w0
  refine St.enter (N := 8) Tryz.func224 rfl Tryz.ntmps224 rfl ?_
  refine St.seq fun K0 hK0 => ?_
  refine St.region ?_
  refine St.r (R.assign rfl) rfl rfl ?_
  refine St.nil ?_
  refine St.weak [(0, _), (1, _)] ⟨rfl, rfl, trivial⟩ ?_
  refine St.then_n ?_
  refine St.go hK0 ?_
  clear hK0
  refine St.seq fun K1 hK1 => ?_
  refine St.region ?_
  refine St.r (R.load1 Tryz.isAgg216 rfl hB) rfl rfl ?_
  refine St.r (R.move rfl) rfl rfl ?_
  refine St.call rfl rfl he (hp _ c) rfl ?_
  rintro r6 w6 ⟨rfl, e6⟩
  replace E := Ext.trans E e6
  refine St.r (R.not rfl) rfl rfl ?_
  refine St.r (R.assign rfl) rfl rfl ?_
  refine St.nil ?_
  refine St.weak [(3, _)] ⟨rfl, trivial⟩ ?_
  refine St.then_n ?_
  refine St.go hK1 ?_
  clear hK1
  refine St.ret ?_
  refine St.ret1 Tryz.results224 rfl ?_
  exact ⟨_, rfl, rfl, E⟩

theorem all_ret {s : ByteArray} {g : FuncId} {p : UInt8 → Bool} (hs : s.size ≤ 9223372036854775807) (w0 : World) (he : Ent Tryz.prog g) (hp : ∀ W x, Ret Tryz.prog g [.int .u8 ((x : UInt8).toNat : Int)] W fun r W' => r = .bool (p x) ∧ Ext W W') :
    Ret Tryz.prog 172 [.string s, .func (.func g) #[] #[]] w0 fun r w' => r = .bool (s.data.toList.all p) ∧ Ext w0 w' := by
  have E : Ext w0 w0 := Ext.refl w0
  refine St.enter (N := 10) Tryz.func172 rfl Tryz.ntmps172 rfl ?_
  refine St.seq fun K0 hK0 => ?_
  refine St.region ?_
  refine St.box rfl rfl ?_
  intro w3 b3 hb3 hs3 e3 k3
  have qE3 := E.size
  replace E := Ext.trans E e3
  refine St.r (R.assign rfl) rfl rfl ?_
  refine St.nil ?_
  refine St.weak [(0, _), (3, _)] ⟨rfl, rfl, trivial⟩ ?_
  refine St.then_n ?_
  refine St.go hK0 ?_
  clear hK0
  refine St.seq fun K1 hK1 => ?_
  refine St.region ?_
  refine St.r (R.move rfl) rfl rfl ?_
  refine St.bytes Tryz.underlying9 Tryz.underlying155 Tryz.underlying5 rfl hs rfl ?_
  intro w6 b6 c6 hb6 hs6 e6 r6 k6
  replace E := Ext.trans E e6
  replace k3 := k3.ext e6
  refine St.r (R.fn rfl rfl) rfl rfl ?_
  refine St.call rfl rfl ent138 (byte_ContainsFunc (p := fun x => !p x) _ r6 ent224 (fun W x eW _ => all1_ret W (eW.cell (k3.cell 0 rfl)) he hp)) rfl ?_
  rintro r8 w8 ⟨rfl, e8⟩
  replace E := Ext.trans E e8
  replace k3 := k3.ext e8
  refine St.r (Runs.eq (R.not rfl) ((congrArg Value.bool (not_any _ p)))) rfl rfl ?_
  refine St.r (R.assign rfl) rfl rfl ?_
  refine St.nil ?_
  refine St.weak [(4, _)] ⟨rfl, trivial⟩ ?_
  refine St.then_n ?_
  refine St.go hK1 ?_
  clear hK1
  refine St.ret ?_
  refine St.ret1 Tryz.results172 rfl ?_
  exact ⟨_, rfl, rfl, E⟩

theorem Kind_ret {k : Int} (w0 : World) : Ret Tryz.prog 171 [.int .i64 k] w0 fun r w' => r = .bool (kindB k) ∧ Ext w0 w' := by
  refine St.enter (N := 9) Tryz.func171 rfl Tryz.ntmps171 rfl ?_
  refine St.seq fun K0 hK0 => ?_
  refine St.region ?_
  refine St.r (R.assign rfl) rfl rfl ?_
  refine St.nil ?_
  refine St.weak [(0, _)] ⟨rfl, trivial⟩ ?_
  refine St.then_n ?_
  refine St.go hK0 ?_
  clear hK0
  refine St.seq fun K1 hK1 => ?_
  by_cases h4 : (1 : Int) ≤ k
  ·
    refine St.region ?_
    refine St.r (R.move rfl) rfl rfl ?_
    refine St.r (Runs.lit (c := true) (R.geq rfl rfl) (decide_eq_true h4)) rfl rfl ?_
    refine St.r (R.move rfl) rfl rfl ?_
    refine St.take (dg := 5) rfl rfl ?_ rfl
    refine St.r (R.move rfl) rfl rfl ?_
    refine St.take (dg := 5) rfl rfl ?_ rfl
    refine St.r (R.leq rfl rfl) rfl rfl ?_
    refine St.r (R.pickT rfl rfl) rfl rfl ?_
    refine St.r (R.assign rfl) rfl rfl ?_
    refine St.nil ?_
    refine St.weak [(2, _)] ⟨rfl, trivial⟩ ?_
    refine St.then_n ?_
    refine St.go hK1 ?_
    clear hK1
    refine St.ret ?_
    refine St.ret1 Tryz.results171 rfl ?_
    exact ⟨_, rfl, by rw [kindB, decide_eq_true h4, Bool.true_and], Ext.refl _⟩
  ·
    refine St.region ?_
    refine St.r (R.move rfl) rfl rfl ?_
    refine St.r (Runs.lit (c := false) (R.geq rfl rfl) (decide_eq_false h4)) rfl rfl ?_
    refine St.r (R.move rfl) rfl rfl ?_
    refine St.pass (dg := 5) rfl rfl rfl rfl rfl ?_
    refine St.pass (dg := 5) rfl rfl rfl rfl rfl ?_
    refine St.r (R.pickF rfl rfl) rfl rfl ?_
    refine St.r (R.assign rfl) rfl rfl ?_
    refine St.nil ?_
    refine St.weak [(2, _)] ⟨rfl, trivial⟩ ?_
    refine St.then_n ?_
    refine St.go hK1 ?_
    clear hK1
    refine St.ret ?_
    refine St.ret1 Tryz.results171 rfl ?_
    exact ⟨_, rfl, by rw [kindB, decide_eq_false h4]; rfl, Ext.refl _⟩

set_option maxRecDepth 100000 in
theorem tCheck_ret {t : Term} (w0 : World) : Ret Tryz.prog 121 [.agg (encTerm t).toArray] w0 fun r w' => r = errV 119 (termErr t) ∧ Ext w0 w' := by
  have E : Ext w0 w0 := Ext.refl w0
  refine St.enter (N := 68) Tryz.func121 rfl Tryz.ntmps121 rfl ?_
  refine St.seq fun K0 hK0 => ?_
  refine St.region ?_
  refine St.box rfl rfl ?_
  intro w1 b1 hb1 hs1 e1 k1
  have qE1 := E.size
  replace E := Ext.trans E e1
  refine St.r (R.assign rfl) rfl rfl ?_
  refine St.nil ?_
  refine St.weak [(1, _)] ⟨rfl, trivial⟩ ?_
  refine St.then_n ?_
  refine St.go hK0 ?_
  clear hK0
  refine St.seq fun K1 hK1 => ?_
  refine St.block ?_
  refine St.seq fun K2 hK2 => ?_
  refine St.region ?_
  refine St.r (R.fieldA Tryz.underlying44 rfl Tryz.sizeOf3 rfl rfl rfl) rfl rfl ?_
  refine St.r (R.load1 Tryz.isAgg3 rfl (k1.cells.at 0 rfl)) rfl rfl ?_
  refine St.call rfl rfl ent171 (Kind_ret _) rfl ?_
  rintro r6 w6 ⟨rfl, e6⟩
  replace E := Ext.trans E e6
  replace k1 := k1.ext e6
  refine St.r (R.not rfl) rfl rfl ?_
  refine St.r (R.assign rfl) rfl rfl ?_
  refine St.nil ?_
  refine St.weak [(1, _), (3, _)] ⟨rfl, rfl, trivial⟩ ?_
  refine St.then_n ?_
  refine St.go hK2 ?_
  clear hK2
  refine St.cond rfl (fun h3 => ?_) (fun h3 => ?_)
  ·
    have hk : kindB t.kind = false := by simpa using h3
    refine St.seq fun K3 hK3 => ?_
    refine St.region ?_
    refine St.r (R.iface Tryz.underlying119 rfl rfl) rfl rfl ?_
    refine St.r (R.assign rfl) rfl rfl ?_
    refine St.nil ?_
    refine St.weak [(2, _)] ⟨rfl, trivial⟩ ?_
    refine St.then_n ?_
    refine St.go hK3 ?_
    clear hK3
    refine St.ret ?_
    refine St.in_r ?_
    refine St.then_r ?_
    refine St.ret1 Tryz.results121 rfl ?_
    exact ⟨_, rfl, by rw [termErr, if_pos hk]; rfl, E⟩
  ·
    have hk : kindB t.kind = true := by simpa using h3
    refine St.seq fun K4 hK4 => ?_
    refine St.region ?_
    refine St.r (R.fieldA Tryz.underlying44 rfl Tryz.sizeOf9 rfl rfl rfl) rfl rfl ?_
    refine St.r (R.load1 Tryz.isAgg9 rfl (k1.cells.at 1 rfl)) rfl rfl ?_
    refine St.r (R.lenStr Tryz.underlying9 rfl) rfl rfl ?_
    refine St.r (R.gtr rfl rfl) rfl rfl ?_
    refine St.r (R.assign rfl) rfl rfl ?_
    refine St.nil ?_
    refine St.weak [(1, _), (9, _)] ⟨rfl, rfl, trivial⟩ ?_
    refine St.then_n ?_
    refine St.go hK4 ?_
    clear hK4
    refine St.condD rfl (fun h9 => ?_) (fun h9 => ?_)
    ·
      refine St.seq fun K5 hK5 => ?_
      refine St.region ?_
      refine St.r (R.iface Tryz.underlying119 rfl rfl) rfl rfl ?_
      refine St.r (R.assign rfl) rfl rfl ?_
      refine St.nil ?_
      refine St.weak [(2, _)] ⟨rfl, trivial⟩ ?_
      refine St.then_n ?_
      refine St.go hK5 ?_
      clear hK5
      refine St.ret ?_
      refine St.in_r ?_
      refine St.then_r ?_
      refine St.ret1 Tryz.results121 rfl ?_
      exact ⟨_, rfl, by rw [termErr, if_neg (by rw [hk]; simp), if_pos h9]; rfl, E⟩
    ·
      refine St.seqJ (fun (x : Unit) => match x with | () => [(1, .pointer (some ⟨b1, 0, none⟩)), (15, .bool (!textB t))])
          (fun (x : Unit) w => match x with | () => Ext w0 w ∧ Blk w b1 44 (encTerm t)) ?_ ?_
      · rintro _ w ⟨E, k1⟩
        show St _ _ [(1, .pointer (some ⟨b1, 0, none⟩)), (15, .bool (!textB t))] _ _
        refine St.cond rfl (fun h15 => ?_) (fun h15 => ?_)
        ·
          have htx : textB t = false := by simpa using h15
          refine St.seq fun K7 hK7 => ?_
          refine St.region ?_
          refine St.r (R.iface Tryz.underlying119 rfl rfl) rfl rfl ?_
          refine St.r (R.assign rfl) rfl rfl ?_
          refine St.nil ?_
          refine St.weak [(2, _)] ⟨rfl, trivial⟩ ?_
          refine St.then_n ?_
          refine St.go hK7 ?_
          clear hK7
          refine St.ret ?_
          refine St.in_r ?_
          refine St.then_r ?_
          refine St.ret1 Tryz.results121 rfl ?_
          exact ⟨_, rfl, by rw [termErr, if_neg (by rw [hk]; simp), if_neg h9, if_pos htx]; rfl, E⟩
        ·
          have htx : textB t = true := by simpa using h15
          refine St.seq fun K8 hK8 => ?_
          by_cases h49 : t.lang ≠ ⟨#[]⟩
          ·
            by_cases h53 : t.kind ≠ 3
            ·
              refine St.region ?_
              refine St.r (R.fieldA Tryz.underlying44 rfl Tryz.sizeOf9 rfl rfl rfl) rfl rfl ?_
              refine St.r (R.load1 Tryz.isAgg9 rfl (k1.cells.at 2 rfl)) rfl rfl ?_
              refine St.r (Runs.lit (c := true) (R.neS rfl rfl) (decide_eq_true h49)) rfl rfl ?_
              refine St.r (R.move rfl) rfl rfl ?_
              refine St.take (dg := 50) rfl rfl ?_ rfl
              refine St.r (R.fieldA Tryz.underlying44 rfl Tryz.sizeOf3 rfl rfl rfl) rfl rfl ?_
              refine St.take (dg := 50) rfl rfl ?_ rfl
              refine St.r (R.load1 Tryz.isAgg3 rfl (k1.cells.at 0 rfl)) rfl rfl ?_
              refine St.take (dg := 50) rfl rfl ?_ rfl
              refine St.r (Runs.lit (c := true) (R.neq rfl rfl) (decide_eq_true h53)) rfl rfl ?_
              refine St.take (dg := 50) rfl rfl ?_ rfl
              refine St.r (R.move rfl) rfl rfl ?_
              refine St.pass (dg := 54) rfl rfl rfl rfl rfl ?_
              refine St.pass (dg := 54) rfl rfl rfl rfl rfl ?_
              refine St.pass (dg := 54) rfl rfl rfl rfl rfl ?_
              refine St.pass (dg := 54) rfl rfl rfl rfl rfl ?_
              refine St.take (dg := 50) rfl rfl ?_ rfl
              refine St.r (R.pickT rfl rfl) rfl rfl ?_
              refine St.take (dg := 50) rfl rfl ?_ rfl
              refine St.r (R.move rfl) rfl rfl ?_
              refine St.pass (dg := 60) rfl rfl rfl rfl rfl ?_
              refine St.pass (dg := 60) rfl rfl rfl rfl rfl ?_
              refine St.pass (dg := 60) rfl rfl rfl rfl rfl ?_
              refine St.pass (dg := 60) rfl rfl rfl rfl rfl ?_
              refine St.take (dg := 50) rfl rfl ?_ rfl
              refine St.r (R.pickT rfl rfl) rfl rfl ?_
              refine St.r (R.pickT rfl rfl) rfl rfl ?_
              refine St.r (R.assign rfl) rfl rfl ?_
              refine St.nil ?_
              refine St.weak [(46, _)] ⟨rfl, trivial⟩ ?_
              refine St.then_n ?_
              refine St.go hK8 ?_
              clear hK8
              refine St.condT rfl ?_
              refine St.seq fun K9 hK9 => ?_
              refine St.region ?_
              refine St.r (R.iface Tryz.underlying119 rfl rfl) rfl rfl ?_
              refine St.r (R.assign rfl) rfl rfl ?_
              refine St.nil ?_
              refine St.weak [(2, _)] ⟨rfl, trivial⟩ ?_
              refine St.then_n ?_
              refine St.go hK9 ?_
              clear hK9
              refine St.ret ?_
              refine St.in_r ?_
              refine St.then_r ?_
              refine St.ret1 Tryz.results121 rfl ?_
              exact ⟨_, rfl, by rw [termErr, if_neg (by rw [hk]; simp), if_neg h9, if_neg (by rw [htx]; simp), if_pos (by rw [langB, decide_eq_true h49, decide_eq_true h53]; simp)]; rfl, E⟩
            ·
              by_cases h58 : (t.lang.size : Int) ≠ 2
              ·
                refine St.region ?_
                refine St.r (R.fieldA Tryz.underlying44 rfl Tryz.sizeOf9 rfl rfl rfl) rfl rfl ?_
                refine St.r (R.load1 Tryz.isAgg9 rfl (k1.cells.at 2 rfl)) rfl rfl ?_
                refine St.r (Runs.lit (c := true) (R.neS rfl rfl) (decide_eq_true h49)) rfl rfl ?_
                refine St.r (R.move rfl) rfl rfl ?_
                refine St.take (dg := 50) rfl rfl ?_ rfl
                refine St.r (R.fieldA Tryz.underlying44 rfl Tryz.sizeOf3 rfl rfl rfl) rfl rfl ?_
                refine St.take (dg := 50) rfl rfl ?_ rfl
                refine St.r (R.load1 Tryz.isAgg3 rfl (k1.cells.at 0 rfl)) rfl rfl ?_
                refine St.take (dg := 50) rfl rfl ?_ rfl
                refine St.r (Runs.lit (c := false) (R.neq rfl rfl) (decide_eq_false h53)) rfl rfl ?_
                refine St.take (dg := 50) rfl rfl ?_ rfl
                refine St.r (R.move rfl) rfl rfl ?_
                refine St.take (dg := 54) rfl rfl ?_ rfl
                refine St.r (R.fieldA Tryz.underlying44 rfl Tryz.sizeOf9 rfl rfl rfl) rfl rfl ?_
                refine St.take (dg := 54) rfl rfl ?_ rfl
                refine St.r (R.load1 Tryz.isAgg9 rfl (k1.cells.at 2 rfl)) rfl rfl ?_
                refine St.take (dg := 54) rfl rfl ?_ rfl
                refine St.r (R.lenStr Tryz.underlying9 rfl) rfl rfl ?_
                refine St.take (dg := 54) rfl rfl ?_ rfl
                refine St.r (R.neq rfl rfl) rfl rfl ?_
                refine St.take (dg := 50) rfl rfl ?_ rfl
                refine St.r (R.pickF rfl rfl) rfl rfl ?_
                refine St.take (dg := 50) rfl rfl ?_ rfl
                refine St.r (Runs.lit (c := true) (R.move rfl) (decide_eq_true h58)) rfl rfl ?_
                refine St.pass (dg := 60) rfl rfl rfl rfl rfl ?_
                refine St.pass (dg := 60) rfl rfl rfl rfl rfl ?_
                refine St.pass (dg := 60) rfl rfl rfl rfl rfl ?_
                refine St.pass (dg := 60) rfl rfl rfl rfl rfl ?_
                refine St.take (dg := 50) rfl rfl ?_ rfl
                refine St.r (R.pickT rfl rfl) rfl rfl ?_
                refine St.r (R.pickT rfl rfl) rfl rfl ?_
                refine St.r (R.assign rfl) rfl rfl ?_
                refine St.nil ?_
                refine St.weak [(46, _)] ⟨rfl, trivial⟩ ?_
                refine St.then_n ?_
                refine St.go hK8 ?_
                clear hK8
                refine St.condT rfl ?_
                refine St.seq fun K10 hK10 => ?_
                refine St.region ?_
                refine St.r (R.iface Tryz.underlying119 rfl rfl) rfl rfl ?_
                refine St.r (R.assign rfl) rfl rfl ?_
                refine St.nil ?_
                refine St.weak [(2, _)] ⟨rfl, trivial⟩ ?_
                refine St.then_n ?_
                refine St.go hK10 ?_
                clear hK10
                refine St.ret ?_
                refine St.in_r ?_
                refine St.then_r ?_
                refine St.ret1 Tryz.results121 rfl ?_
                exact ⟨_, rfl, by rw [termErr, if_neg (by rw [hk]; simp), if_neg h9, if_neg (by rw [htx]; simp), if_pos (by rw [langB, decide_eq_true h49, decide_eq_false h53, decide_eq_true h58]; simp)]; rfl, E⟩
              ·
                refine St.region ?_
                refine St.r (R.fieldA Tryz.underlying44 rfl Tryz.sizeOf9 rfl rfl rfl) rfl rfl ?_
                refine St.r (R.load1 Tryz.isAgg9 rfl (k1.cells.at 2 rfl)) rfl rfl ?_
                refine St.r (Runs.lit (c := true) (R.neS rfl rfl) (decide_eq_true h49)) rfl rfl ?_
                refine St.r (R.move rfl) rfl rfl ?_
                refine St.take (dg := 50) rfl rfl ?_ rfl
                refine St.r (R.fieldA Tryz.underlying44 rfl Tryz.sizeOf3 rfl rfl rfl) rfl rfl ?_
                refine St.take (dg := 50) rfl rfl ?_ rfl
                refine St.r (R.load1 Tryz.isAgg3 rfl (k1.cells.at 0 rfl)) rfl rfl ?_
                refine St.take (dg := 50) rfl rfl ?_ rfl
                refine St.r (Runs.lit (c := false) (R.neq rfl rfl) (decide_eq_false h53)) rfl rfl ?_
                refine St.take (dg := 50) rfl rfl ?_ rfl
                refine St.r (R.move rfl) rfl rfl ?_
                refine St.take (dg := 54) rfl rfl ?_ rfl
                refine St.r (R.fieldA Tryz.underlying44 rfl Tryz.sizeOf9 rfl rfl rfl) rfl rfl ?_
                refine St.take (dg := 54) rfl rfl ?_ rfl
                refine St.r (R.load1 Tryz.isAgg9 rfl (k1.cells.at 2 rfl)) rfl rfl ?_
                refine St.take (dg := 54) rfl rfl ?_ rfl
                refine St.r (R.lenStr Tryz.underlying9 rfl) rfl rfl ?_
                refine St.take (dg := 54) rfl rfl ?_ rfl
                refine St.r (R.neq rfl rfl) rfl rfl ?_
                refine St.take (dg := 50) rfl rfl ?_ rfl
                refine St.r (R.pickF rfl rfl) rfl rfl ?_
                refine St.take (dg := 50) rfl rfl ?_ rfl
                refine St.r (Runs.lit (c := false) (R.move rfl) (decide_eq_false h58)) rfl rfl ?_
                refine St.take (dg := 60) rfl rfl ?_ rfl
                refine St.r (R.fieldA Tryz.underlying44 rfl Tryz.sizeOf9 rfl rfl rfl) rfl rfl ?_
                refine St.take (dg := 60) rfl rfl ?_ rfl
                refine St.r (R.load1 Tryz.isAgg9 rfl (k1.cells.at 2 rfl)) rfl rfl ?_
                refine St.take (dg := 60) rfl rfl ?_ rfl
                refine St.call rfl rfl ent172 (all_ret (p := letterB) (by omega) _ ent174 (fun W x => letter_ret W)) rfl ?_
                rintro r63 w63 ⟨rfl, e63⟩
                replace E := Ext.trans E e63
                replace k1 := k1.ext e63
                refine St.take (dg := 60) rfl rfl ?_ rfl
                refine St.r (R.not rfl) rfl rfl ?_
                refine St.take (dg := 50) rfl rfl ?_ rfl
                refine St.r (R.pickF rfl rfl) rfl rfl ?_
                refine St.r (R.pickT rfl rfl) rfl rfl ?_
                refine St.r (R.assign rfl) rfl rfl ?_
                refine St.nil ?_
                refine St.weak [(46, _)] ⟨rfl, trivial⟩ ?_
                refine St.then_n ?_
                refine St.go hK8 ?_
                clear hK8
                refine St.cond rfl (fun h46 => ?_) (fun h46 => ?_)
                ·
                  have hal : t.lang.data.toList.all letterB = false := by simpa using h46
                  refine St.seq fun K11 hK11 => ?_
                  refine St.region ?_
                  refine St.r (R.iface Tryz.underlying119 rfl rfl) rfl rfl ?_
                  refine St.r (R.assign rfl) rfl rfl ?_
                  refine St.nil ?_
                  refine St.weak [(2, _)] ⟨rfl, trivial⟩ ?_
                  refine St.then_n ?_
                  refine St.go hK11 ?_
                  clear hK11
                  refine St.ret ?_
                  refine St.in_r ?_
                  refine St.then_r ?_
                  refine St.ret1 Tryz.results121 rfl ?_
                  exact ⟨_, rfl, by rw [termErr, if_neg (by rw [hk]; simp), if_neg h9, if_neg (by rw [htx]; simp), if_pos (by rw [langB, decide_eq_true h49, decide_eq_false h53, decide_eq_false h58, hal]; simp)]; rfl, E⟩
                ·
                  have hal : t.lang.data.toList.all letterB = true := by simpa using h46
                  refine St.skip ?_
                  refine St.in_n ?_
                  refine St.then_n ?_
                  refine St.go hK1 ?_
                  clear hK1
                  refine St.seq fun K12 hK12 => ?_
                  refine St.region ?_
                  refine St.r (R.assign rfl) rfl rfl ?_
                  refine St.nil ?_
                  refine St.weak [(2, _)] ⟨rfl, trivial⟩ ?_
                  refine St.then_n ?_
                  refine St.go hK12 ?_
                  clear hK12
                  refine St.ret ?_
                  refine St.ret1 Tryz.results121 rfl ?_
                  exact ⟨_, rfl, by rw [termErr, if_neg (by rw [hk]; simp), if_neg h9, if_neg (by rw [htx]; simp), if_neg (by rw [langB, decide_eq_true h49, decide_eq_false h53, decide_eq_false h58, hal]; simp)]; rfl, E⟩
          ·
            refine St.region ?_
            refine St.r (R.fieldA Tryz.underlying44 rfl Tryz.sizeOf9 rfl rfl rfl) rfl rfl ?_
            refine St.r (R.load1 Tryz.isAgg9 rfl (k1.cells.at 2 rfl)) rfl rfl ?_
            refine St.r (Runs.lit (c := false) (R.neS rfl rfl) (decide_eq_false h49)) rfl rfl ?_
            refine St.r (R.move rfl) rfl rfl ?_
            refine St.pass (dg := 50) rfl rfl rfl rfl rfl ?_
            refine St.pass (dg := 50) rfl rfl rfl rfl rfl ?_
            refine St.pass (dg := 50) rfl rfl rfl rfl rfl ?_
            refine St.pass (dg := 50) rfl rfl rfl rfl rfl ?_
            refine St.passU (dg := 54) rfl rfl rfl rfl ?_
            refine St.passU (dg := 54) rfl rfl rfl rfl ?_
            refine St.passU (dg := 54) rfl rfl rfl rfl ?_
            refine St.passU (dg := 54) rfl rfl rfl rfl ?_
            refine St.pass (dg := 50) rfl rfl rfl rfl rfl ?_
            refine St.pass (dg := 50) rfl rfl rfl rfl rfl ?_
            refine St.passU (dg := 60) rfl rfl rfl rfl ?_
            refine St.passU (dg := 60) rfl rfl rfl rfl ?_
            refine St.passU (dg := 60) rfl rfl rfl rfl ?_
            refine St.passU (dg := 60) rfl rfl rfl rfl ?_
            refine St.pass (dg := 50) rfl rfl rfl rfl rfl ?_
            refine St.r (R.pickF rfl rfl) rfl rfl ?_
            refine St.r (R.assign rfl) rfl rfl ?_
            refine St.nil ?_
            refine St.weak [(46, _)] ⟨rfl, trivial⟩ ?_
            refine St.then_n ?_
            refine St.go hK8 ?_
            clear hK8
            refine St.condF rfl ?_
            refine St.skip ?_
            refine St.in_n ?_
            refine St.then_n ?_
            refine St.go hK1 ?_
            clear hK1
            refine St.seq fun K13 hK13 => ?_
            refine St.region ?_
            refine St.r (R.assign rfl) rfl rfl ?_
            refine St.nil ?_
            refine St.weak [(2, _)] ⟨rfl, trivial⟩ ?_
            refine St.then_n ?_
            refine St.go hK13 ?_
            clear hK13
            refine St.ret ?_
            refine St.ret1 Tryz.results121 rfl ?_
            exact ⟨_, rfl, by rw [termErr, if_neg (by rw [hk]; simp), if_neg h9, if_neg (by rw [htx]; simp), if_neg (by rw [langB, decide_eq_false h49]; simp)]; rfl, E⟩
      intro K6 hK6
      rcases Bool.eq_false_or_eq_true (!(t.s.data.toList.all (okByte t.kind))) with h22 | h22
      ·
        have hall : t.s.data.toList.all (okByte t.kind) = false := by simpa using h22
        refine St.weak [(1, _)] ⟨rfl, trivial⟩ ?_
        refine St.drawX mixed rfl rfl rfl rfl ?_
        replace E := Ext.trans E (Ext.drew _)
        replace k1 := k1.ext (Ext.drew _)
        refine ⟨_, fun W eW => OpX.q (OpOk.r (R.fieldA Tryz.underlying44 rfl Tryz.sizeOf9 rfl rfl rfl) rfl), ?_⟩
        refine ⟨_, fun W eW => OpX.q (OpOk.r (R.load1 Tryz.isAgg9 rfl ((k1.ext eW).cells.at 1 rfl)) rfl), ?_⟩
        refine ⟨_, fun W eW => OpX.q (OpOk.r (R.fieldA Tryz.underlying44 rfl Tryz.sizeOf3 rfl rfl rfl) rfl), ?_⟩
        refine ⟨_, fun W eW => OpX.q (OpOk.r (R.load1 Tryz.isAgg3 rfl ((k1.ext eW).cells.at 0 rfl)) rfl), ?_⟩
        refine ⟨_, fun W eW => OpX.call rfl rfl ent173 (bytes_ret _), ?_⟩
        refine ⟨_, fun W eW => OpX.call rfl rfl ent172 (all_ret (by omega) _ (byteF_ent t.kind) (fun W x => byteF_ret t.kind W)), ?_⟩
        refine ⟨_, fun W eW => OpX.q (OpOk.r (Runs.lit (c := true) (R.not rfl) (h22)) rfl), ?_⟩
        refine ⟨_, fun W eW => OpX.q (OpOk.r (R.move rfl) rfl), ?_⟩
        refine ⟨_, fun W eW => OpX.q (OpOk.pass (dg := 23) rfl rfl rfl rfl rfl), ?_⟩
        refine ⟨_, fun W eW => OpX.q (OpOk.pass (dg := 23) rfl rfl rfl rfl rfl), ?_⟩
        refine ⟨_, fun W eW => OpX.q (OpOk.pass (dg := 23) rfl rfl rfl rfl rfl), ?_⟩
        refine ⟨_, fun W eW => OpX.q (OpOk.pass (dg := 23) rfl rfl rfl rfl rfl), ?_⟩
        refine ⟨_, fun W eW => OpX.q (OpOk.passU (dg := 27) rfl rfl rfl rfl), ?_⟩
        refine ⟨_, fun W eW => OpX.q (OpOk.passU (dg := 27) rfl rfl rfl rfl), ?_⟩
        refine ⟨_, fun W eW => OpX.q (OpOk.passU (dg := 27) rfl rfl rfl rfl), ?_⟩
        refine ⟨_, fun W eW => OpX.q (OpOk.pass (dg := 23) rfl rfl rfl rfl rfl), ?_⟩
        refine ⟨_, fun W eW => OpX.q (OpOk.r (R.pickT rfl rfl) rfl), ?_⟩
        refine ⟨_, fun W eW => OpX.q (OpOk.r (R.move rfl) rfl), ?_⟩
        refine ⟨_, fun W eW => OpX.q (OpOk.pass (dg := 33) rfl rfl rfl rfl rfl), ?_⟩
        refine ⟨_, fun W eW => OpX.q (OpOk.pass (dg := 33) rfl rfl rfl rfl rfl), ?_⟩
        refine ⟨_, fun W eW => OpX.q (OpOk.pass (dg := 33) rfl rfl rfl rfl rfl), ?_⟩
        refine ⟨_, fun W eW => OpX.q (OpOk.pass (dg := 33) rfl rfl rfl rfl rfl), ?_⟩
        refine ⟨_, fun W eW => OpX.q (OpOk.passU (dg := 37) rfl rfl rfl rfl), ?_⟩
        refine ⟨_, fun W eW => OpX.q (OpOk.passU (dg := 37) rfl rfl rfl rfl), ?_⟩
        refine ⟨_, fun W eW => OpX.q (OpOk.passU (dg := 37) rfl rfl rfl rfl), ?_⟩
        refine ⟨_, fun W eW => OpX.q (OpOk.passU (dg := 37) rfl rfl rfl rfl), ?_⟩
        refine ⟨_, fun W eW => OpX.q (OpOk.passU (dg := 37) rfl rfl rfl rfl), ?_⟩
        refine ⟨_, fun W eW => OpX.q (OpOk.pass (dg := 33) rfl rfl rfl rfl rfl), ?_⟩
        refine ⟨_, fun W eW => OpX.q (OpOk.r (R.pickT rfl rfl) rfl), ?_⟩
        refine ⟨_, fun W eW => OpX.q (OpOk.r (R.assign rfl) rfl), ?_⟩
        show ∀ w', Ext _ w' → St _ _ _ _ w'
        intro wd5 ed5
        replace E := Ext.trans E ed5
        replace k1 := k1.ext ed5
        refine St.weak [(1, _), (15, _)] ⟨rfl, rfl, trivial⟩ ?_
        refine St.then_n ?_
        refine St.meet hK6 () ⟨rfl, (look_eq rfl (congrArg Value.bool (by rw [textB, hall]; simp))), trivial⟩ ?_
        · exact ⟨E, k1⟩
      ·
        have hall : t.s.data.toList.all (okByte t.kind) = true := by simpa using h22
        by_cases h26 : t.kind ≠ 3
        ·
          by_cases h30 : t.s = ⟨#[]⟩
          ·
            refine St.weak [(1, _)] ⟨rfl, trivial⟩ ?_
            refine St.drawX mixed rfl rfl rfl rfl ?_
            replace E := Ext.trans E (Ext.drew _)
            replace k1 := k1.ext (Ext.drew _)
            refine ⟨_, fun W eW => OpX.q (OpOk.r (R.fieldA Tryz.underlying44 rfl Tryz.sizeOf9 rfl rfl rfl) rfl), ?_⟩
            refine ⟨_, fun W eW => OpX.q (OpOk.r (R.load1 Tryz.isAgg9 rfl ((k1.ext eW).cells.at 1 rfl)) rfl), ?_⟩
            refine ⟨_, fun W eW => OpX.q (OpOk.r (R.fieldA Tryz.underlying44 rfl Tryz.sizeOf3 rfl rfl rfl) rfl), ?_⟩
            refine ⟨_, fun W eW => OpX.q (OpOk.r (R.load1 Tryz.isAgg3 rfl ((k1.ext eW).cells.at 0 rfl)) rfl), ?_⟩
            refine ⟨_, fun W eW => OpX.call rfl rfl ent173 (bytes_ret _), ?_⟩
            refine ⟨_, fun W eW => OpX.call rfl rfl ent172 (all_ret (by omega) _ (byteF_ent t.kind) (fun W x => byteF_ret t.kind W)), ?_⟩
            refine ⟨_, fun W eW => OpX.q (OpOk.r (Runs.lit (c := false) (R.not rfl) (h22)) rfl), ?_⟩
            refine ⟨_, fun W eW => OpX.q (OpOk.r (R.move rfl) rfl), ?_⟩
            refine ⟨_, fun W eW => OpX.q (OpOk.take (dg := 23) (R.fieldA Tryz.underlying44 rfl Tryz.sizeOf3 rfl rfl rfl) rfl rfl rfl rfl), ?_⟩
            refine ⟨_, fun W eW => OpX.q (OpOk.take (dg := 23) (R.load1 Tryz.isAgg3 rfl ((k1.ext eW).cells.at 0 rfl)) rfl rfl rfl rfl), ?_⟩
            refine ⟨_, fun W eW => OpX.q (OpOk.take (dg := 23) (Runs.lit (c := true) (R.neq rfl rfl) (decide_eq_true h26)) rfl rfl rfl rfl), ?_⟩
            refine ⟨_, fun W eW => OpX.q (OpOk.take (dg := 23) (R.move rfl) rfl rfl rfl rfl), ?_⟩
            refine ⟨_, fun W eW => OpX.q (OpOk.take (dg := 27) (R.fieldA Tryz.underlying44 rfl Tryz.sizeOf9 rfl rfl rfl) rfl rfl rfl rfl), ?_⟩
            refine ⟨_, fun W eW => OpX.q (OpOk.take (dg := 27) (R.load1 Tryz.isAgg9 rfl ((k1.ext eW).cells.at 1 rfl)) rfl rfl rfl rfl), ?_⟩
            refine ⟨_, fun W eW => OpX.q (OpOk.take (dg := 27) (R.eqS rfl rfl) rfl rfl rfl rfl), ?_⟩
            refine ⟨_, fun W eW => OpX.q (OpOk.take (dg := 23) (R.pickT rfl rfl) rfl rfl rfl rfl), ?_⟩
            refine ⟨_, fun W eW => OpX.q (OpOk.r (R.pickF rfl rfl) rfl), ?_⟩
            refine ⟨_, fun W eW => OpX.q (OpOk.r (Runs.lit (c := true) (R.move rfl) (decide_eq_true h30)) rfl), ?_⟩
            refine ⟨_, fun W eW => OpX.q (OpOk.pass (dg := 33) rfl rfl rfl rfl rfl), ?_⟩
            refine ⟨_, fun W eW => OpX.q (OpOk.pass (dg := 33) rfl rfl rfl rfl rfl), ?_⟩
            refine ⟨_, fun W eW => OpX.q (OpOk.pass (dg := 33) rfl rfl rfl rfl rfl), ?_⟩
            refine ⟨_, fun W eW => OpX.q (OpOk.pass (dg := 33) rfl rfl rfl rfl rfl), ?_⟩
            refine ⟨_, fun W eW => OpX.q (OpOk.passU (dg := 37) rfl rfl rfl rfl), ?_⟩
            refine ⟨_, fun W eW => OpX.q (OpOk.passU (dg := 37) rfl rfl rfl rfl), ?_⟩
            refine ⟨_, fun W eW => OpX.q (OpOk.passU (dg := 37) rfl rfl rfl rfl), ?_⟩
            refine ⟨_, fun W eW => OpX.q (OpOk.passU (dg := 37) rfl rfl rfl rfl), ?_⟩
            refine ⟨_, fun W eW => OpX.q (OpOk.passU (dg := 37) rfl rfl rfl rfl), ?_⟩
            refine ⟨_, fun W eW => OpX.q (OpOk.pass (dg := 33) rfl rfl rfl rfl rfl), ?_⟩
            refine ⟨_, fun W eW => OpX.q (OpOk.r (R.pickT rfl rfl) rfl), ?_⟩
            refine ⟨_, fun W eW => OpX.q (OpOk.r (R.assign rfl) rfl), ?_⟩
            show ∀ w', Ext _ w' → St _ _ _ _ w'
            intro wd5 ed5
            replace E := Ext.trans E ed5
            replace k1 := k1.ext ed5
            refine St.weak [(1, _), (15, _)] ⟨rfl, rfl, trivial⟩ ?_
            refine St.then_n ?_
            refine St.meet hK6 () ⟨rfl, (look_eq rfl (congrArg Value.bool (by rw [textB, hall, decide_eq_true h26, decide_eq_true h30]; simp))), trivial⟩ ?_
            · exact ⟨E, k1⟩
          ·
            by_cases h36 : t.kind = 1
            ·
              obtain ⟨c, hc, hfl⟩ := bytes_first (s := t.s) (by first | exact h30 | (intro h; exact absurd h36 (by omega)))
              refine St.weak [(1, _)] ⟨rfl, trivial⟩ ?_
              refine St.drawX mixed rfl rfl rfl rfl ?_
              replace E := Ext.trans E (Ext.drew _)
              replace k1 := k1.ext (Ext.drew _)
              refine ⟨_, fun W eW => OpX.q (OpOk.r (R.fieldA Tryz.underlying44 rfl Tryz.sizeOf9 rfl rfl rfl) rfl), ?_⟩
              refine ⟨_, fun W eW => OpX.q (OpOk.r (R.load1 Tryz.isAgg9 rfl ((k1.ext eW).cells.at 1 rfl)) rfl), ?_⟩
              refine ⟨_, fun W eW => OpX.q (OpOk.r (R.fieldA Tryz.underlying44 rfl Tryz.sizeOf3 rfl rfl rfl) rfl), ?_⟩
              refine ⟨_, fun W eW => OpX.q (OpOk.r (R.load1 Tryz.isAgg3 rfl ((k1.ext eW).cells.at 0 rfl)) rfl), ?_⟩
              refine ⟨_, fun W eW => OpX.call rfl rfl ent173 (bytes_ret _), ?_⟩
              refine ⟨_, fun W eW => OpX.call rfl rfl ent172 (all_ret (by omega) _ (byteF_ent t.kind) (fun W x => byteF_ret t.kind W)), ?_⟩
              refine ⟨_, fun W eW => OpX.q (OpOk.r (Runs.lit (c := false) (R.not rfl) (h22)) rfl), ?_⟩
              refine ⟨_, fun W eW => OpX.q (OpOk.r (R.move rfl) rfl), ?_⟩
              refine ⟨_, fun W eW => OpX.q (OpOk.take (dg := 23) (R.fieldA Tryz.underlying44 rfl Tryz.sizeOf3 rfl rfl rfl) rfl rfl rfl rfl), ?_⟩
              refine ⟨_, fun W eW => OpX.q (OpOk.take (dg := 23) (R.load1 Tryz.isAgg3 rfl ((k1.ext eW).cells.at 0 rfl)) rfl rfl rfl rfl), ?_⟩
              refine ⟨_, fun W eW => OpX.q (OpOk.take (dg := 23) (Runs.lit (c := true) (R.neq rfl rfl) (decide_eq_true h26)) rfl rfl rfl rfl), ?_⟩
              refine ⟨_, fun W eW => OpX.q (OpOk.take (dg := 23) (R.move rfl) rfl rfl rfl rfl), ?_⟩
              refine ⟨_, fun W eW => OpX.q (OpOk.take (dg := 27) (R.fieldA Tryz.underlying44 rfl Tryz.sizeOf9 rfl rfl rfl) rfl rfl rfl rfl), ?_⟩
              refine ⟨_, fun W eW => OpX.q (OpOk.take (dg := 27) (R.load1 Tryz.isAgg9 rfl ((k1.ext eW).cells.at 1 rfl)) rfl rfl rfl rfl), ?_⟩
              refine ⟨_, fun W eW => OpX.q (OpOk.take (dg := 27) (R.eqS rfl rfl) rfl rfl rfl rfl), ?_⟩
              refine ⟨_, fun W eW => OpX.q (OpOk.take (dg := 23) (R.pickT rfl rfl) rfl rfl rfl rfl), ?_⟩
              refine ⟨_, fun W eW => OpX.q (OpOk.r (R.pickF rfl rfl) rfl), ?_⟩
              refine ⟨_, fun W eW => OpX.q (OpOk.r (Runs.lit (c := false) (R.move rfl) (decide_eq_false h30)) rfl), ?_⟩
              refine ⟨_, fun W eW => OpX.q (OpOk.take (dg := 33) (R.fieldA Tryz.underlying44 rfl Tryz.sizeOf3 rfl rfl rfl) rfl rfl rfl rfl), ?_⟩
              refine ⟨_, fun W eW => OpX.q (OpOk.take (dg := 33) (R.load1 Tryz.isAgg3 rfl ((k1.ext eW).cells.at 0 rfl)) rfl rfl rfl rfl), ?_⟩
              refine ⟨_, fun W eW => OpX.q (OpOk.take (dg := 33) (Runs.lit (c := true) (R.eql rfl rfl) (decide_eq_true h36)) rfl rfl rfl rfl), ?_⟩
              refine ⟨_, fun W eW => OpX.q (OpOk.take (dg := 33) (R.move rfl) rfl rfl rfl rfl), ?_⟩
              refine ⟨_, fun W eW => OpX.q (OpOk.take (dg := 37) (R.fieldA Tryz.underlying44 rfl Tryz.sizeOf9 rfl rfl rfl) rfl rfl rfl rfl), ?_⟩
              refine ⟨_, fun W eW => OpX.q (OpOk.take (dg := 37) (R.load1 Tryz.isAgg9 rfl ((k1.ext eW).cells.at 1 rfl)) rfl rfl rfl rfl), ?_⟩
              refine ⟨_, fun W eW => OpX.q (OpOk.take (dg := 37) (R.idxStr 0 Tryz.underlying9 rfl rfl rfl hc) rfl rfl rfl rfl), ?_⟩
              refine ⟨_, fun W eW => OpX.callG (dg := 37) rfl rfl ent174 (letter_ret _) rfl rfl rfl, ?_⟩
              refine ⟨_, fun W eW => OpX.q (OpOk.take (dg := 37) (R.not rfl) rfl rfl rfl rfl), ?_⟩
              refine ⟨_, fun W eW => OpX.q (OpOk.take (dg := 33) (R.pickT rfl rfl) rfl rfl rfl rfl), ?_⟩
              refine ⟨_, fun W eW => OpX.q (OpOk.r (R.pickF rfl rfl) rfl), ?_⟩
              refine ⟨_, fun W eW => OpX.q (OpOk.r (R.assign rfl) rfl), ?_⟩
              show ∀ w', Ext _ w' → St _ _ _ _ w'
              intro wd5 ed5
              replace E := Ext.trans E ed5
              replace k1 := k1.ext ed5
              refine St.weak [(1, _), (15, _)] ⟨rfl, rfl, trivial⟩ ?_
              refine St.then_n ?_
              refine St.meet hK6 () ⟨rfl, (look_eq rfl (congrArg Value.bool (by rw [textB, hall, decide_eq_false h30, decide_eq_true h36, hfl]; simp))), trivial⟩ ?_
              · exact ⟨E, k1⟩
            ·
              refine St.weak [(1, _)] ⟨rfl, trivial⟩ ?_
              refine St.drawX mixed rfl rfl rfl rfl ?_
              replace E := Ext.trans E (Ext.drew _)
              replace k1 := k1.ext (Ext.drew _)
              refine ⟨_, fun W eW => OpX.q (OpOk.r (R.fieldA Tryz.underlying44 rfl Tryz.sizeOf9 rfl rfl rfl) rfl), ?_⟩
              refine ⟨_, fun W eW => OpX.q (OpOk.r (R.load1 Tryz.isAgg9 rfl ((k1.ext eW).cells.at 1 rfl)) rfl), ?_⟩
              refine ⟨_, fun W eW => OpX.q (OpOk.r (R.fieldA Tryz.underlying44 rfl Tryz.sizeOf3 rfl rfl rfl) rfl), ?_⟩
              refine ⟨_, fun W eW => OpX.q (OpOk.r (R.load1 Tryz.isAgg3 rfl ((k1.ext eW).cells.at 0 rfl)) rfl), ?_⟩
              refine ⟨_, fun W eW => OpX.call rfl rfl ent173 (bytes_ret _), ?_⟩
              refine ⟨_, fun W eW => OpX.call rfl rfl ent172 (all_ret (by omega) _ (byteF_ent t.kind) (fun W x => byteF_ret t.kind W)), ?_⟩
              refine ⟨_, fun W eW => OpX.q (OpOk.r (Runs.lit (c := false) (R.not rfl) (h22)) rfl), ?_⟩
              refine ⟨_, fun W eW => OpX.q (OpOk.r (R.move rfl) rfl), ?_⟩
              refine ⟨_, fun W eW => OpX.q (OpOk.take (dg := 23) (R.fieldA Tryz.underlying44 rfl Tryz.sizeOf3 rfl rfl rfl) rfl rfl rfl rfl), ?_⟩
              refine ⟨_, fun W eW => OpX.q (OpOk.take (dg := 23) (R.load1 Tryz.isAgg3 rfl ((k1.ext eW).cells.at 0 rfl)) rfl rfl rfl rfl), ?_⟩
              refine ⟨_, fun W eW => OpX.q (OpOk.take (dg := 23) (Runs.lit (c := true) (R.neq rfl rfl) (decide_eq_true h26)) rfl rfl rfl rfl), ?_⟩
              refine ⟨_, fun W eW => OpX.q (OpOk.take (dg := 23) (R.move rfl) rfl rfl rfl rfl), ?_⟩
              refine ⟨_, fun W eW => OpX.q (OpOk.take (dg := 27) (R.fieldA Tryz.underlying44 rfl Tryz.sizeOf9 rfl rfl rfl) rfl rfl rfl rfl), ?_⟩
              refine ⟨_, fun W eW => OpX.q (OpOk.take (dg := 27) (R.load1 Tryz.isAgg9 rfl ((k1.ext eW).cells.at 1 rfl)) rfl rfl rfl rfl), ?_⟩
              refine ⟨_, fun W eW => OpX.q (OpOk.take (dg := 27) (R.eqS rfl rfl) rfl rfl rfl rfl), ?_⟩
              refine ⟨_, fun W eW => OpX.q (OpOk.take (dg := 23) (R.pickT rfl rfl) rfl rfl rfl rfl), ?_⟩
              refine ⟨_, fun W eW => OpX.q (OpOk.r (R.pickF rfl rfl) rfl), ?_⟩
              refine ⟨_, fun W eW => OpX.q (OpOk.r (Runs.lit (c := false) (R.move rfl) (decide_eq_false h30)) rfl), ?_⟩
              refine ⟨_, fun W eW => OpX.q (OpOk.take (dg := 33) (R.fieldA Tryz.underlying44 rfl Tryz.sizeOf3 rfl rfl rfl) rfl rfl rfl rfl), ?_⟩
              refine ⟨_, fun W eW => OpX.q (OpOk.take (dg := 33) (R.load1 Tryz.isAgg3 rfl ((k1.ext eW).cells.at 0 rfl)) rfl rfl rfl rfl), ?_⟩
              refine ⟨_, fun W eW => OpX.q (OpOk.take (dg := 33) (Runs.lit (c := false) (R.eql rfl rfl) (decide_eq_false h36)) rfl rfl rfl rfl), ?_⟩
              refine ⟨_, fun W eW => OpX.q (OpOk.take (dg := 33) (R.move rfl) rfl rfl rfl rfl), ?_⟩
              refine ⟨_, fun W eW => OpX.q (OpOk.pass (dg := 37) rfl rfl rfl rfl rfl), ?_⟩
              refine ⟨_, fun W eW => OpX.q (OpOk.pass (dg := 37) rfl rfl rfl rfl rfl), ?_⟩
              refine ⟨_, fun W eW => OpX.q (OpOk.pass (dg := 37) rfl rfl rfl rfl rfl), ?_⟩
              refine ⟨_, fun W eW => OpX.q (OpOk.pass (dg := 37) rfl rfl rfl rfl rfl), ?_⟩
              refine ⟨_, fun W eW => OpX.q (OpOk.pass (dg := 37) rfl rfl rfl rfl rfl), ?_⟩
              refine ⟨_, fun W eW => OpX.q (OpOk.take (dg := 33) (R.pickF rfl rfl) rfl rfl rfl rfl), ?_⟩
              refine ⟨_, fun W eW => OpX.q (OpOk.r (R.pickF rfl rfl) rfl), ?_⟩
              refine ⟨_, fun W eW => OpX.q (OpOk.r (R.assign rfl) rfl), ?_⟩
              show ∀ w', Ext _ w' → St _ _ _ _ w'
              intro wd5 ed5
              replace E := Ext.trans E ed5
              replace k1 := k1.ext ed5
              refine St.weak [(1, _), (15, _)] ⟨rfl, rfl, trivial⟩ ?_
              refine St.then_n ?_
              refine St.meet hK6 () ⟨rfl, (look_eq rfl (congrArg Value.bool (by rw [textB, hall, decide_eq_false h30, decide_eq_false h36]; simp))), trivial⟩ ?_
              · exact ⟨E, k1⟩
        ·
          by_cases h36 : t.kind = 1
          ·
            obtain ⟨c, hc, hfl⟩ := bytes_first (s := t.s) (by first | exact h30 | (intro h; exact absurd h36 (by omega)))
            refine St.weak [(1, _)] ⟨rfl, trivial⟩ ?_
            refine St.drawX mixed rfl rfl rfl rfl ?_
            replace E := Ext.trans E (Ext.drew _)
            replace k1 := k1.ext (Ext.drew _)
            refine ⟨_, fun W eW => OpX.q (OpOk.r (R.fieldA Tryz.underlying44 rfl Tryz.sizeOf9 rfl rfl rfl) rfl), ?_⟩
            refine ⟨_, fun W eW => OpX.q (OpOk.r (R.load1 Tryz.isAgg9 rfl ((k1.ext eW).cells.at 1 rfl)) rfl), ?_⟩
            refine ⟨_, fun W eW => OpX.q (OpOk.r (R.fieldA Tryz.underlying44 rfl Tryz.sizeOf3 rfl rfl rfl) rfl), ?_⟩
            refine ⟨_, fun W eW => OpX.q (OpOk.r (R.load1 Tryz.isAgg3 rfl ((k1.ext eW).cells.at 0 rfl)) rfl), ?_⟩
            refine ⟨_, fun W eW => OpX.call rfl rfl ent173 (bytes_ret _), ?_⟩
            refine ⟨_, fun W eW => OpX.call rfl rfl ent172 (all_ret (by omega) _ (byteF_ent t.kind) (fun W x => byteF_ret t.kind W)), ?_⟩
            refine ⟨_, fun W eW => OpX.q (OpOk.r (Runs.lit (c := false) (R.not rfl) (h22)) rfl), ?_⟩
            refine ⟨_, fun W eW => OpX.q (OpOk.r (R.move rfl) rfl), ?_⟩
            refine ⟨_, fun W eW => OpX.q (OpOk.take (dg := 23) (R.fieldA Tryz.underlying44 rfl Tryz.sizeOf3 rfl rfl rfl) rfl rfl rfl rfl), ?_⟩
            refine ⟨_, fun W eW => OpX.q (OpOk.take (dg := 23) (R.load1 Tryz.isAgg3 rfl ((k1.ext eW).cells.at 0 rfl)) rfl rfl rfl rfl), ?_⟩
            refine ⟨_, fun W eW => OpX.q (OpOk.take (dg := 23) (Runs.lit (c := false) (R.neq rfl rfl) (decide_eq_false h26)) rfl rfl rfl rfl), ?_⟩
            refine ⟨_, fun W eW => OpX.q (OpOk.take (dg := 23) (R.move rfl) rfl rfl rfl rfl), ?_⟩
            refine ⟨_, fun W eW => OpX.q (OpOk.pass (dg := 27) rfl rfl rfl rfl rfl), ?_⟩
            refine ⟨_, fun W eW => OpX.q (OpOk.pass (dg := 27) rfl rfl rfl rfl rfl), ?_⟩
            refine ⟨_, fun W eW => OpX.q (OpOk.pass (dg := 27) rfl rfl rfl rfl rfl), ?_⟩
            refine ⟨_, fun W eW => OpX.q (OpOk.take (dg := 23) (R.pickF rfl rfl) rfl rfl rfl rfl), ?_⟩
            refine ⟨_, fun W eW => OpX.q (OpOk.r (R.pickF rfl rfl) rfl), ?_⟩
            refine ⟨_, fun W eW => OpX.q (OpOk.r (R.move rfl) rfl), ?_⟩
            refine ⟨_, fun W eW => OpX.q (OpOk.take (dg := 33) (R.fieldA Tryz.underlying44 rfl Tryz.sizeOf3 rfl rfl rfl) rfl rfl rfl rfl), ?_⟩
            refine ⟨_, fun W eW => OpX.q (OpOk.take (dg := 33) (R.load1 Tryz.isAgg3 rfl ((k1.ext eW).cells.at 0 rfl)) rfl rfl rfl rfl), ?_⟩
            refine ⟨_, fun W eW => OpX.q (OpOk.take (dg := 33) (Runs.lit (c := true) (R.eql rfl rfl) (decide_eq_true h36)) rfl rfl rfl rfl), ?_⟩
            refine ⟨_, fun W eW => OpX.q (OpOk.take (dg := 33) (R.move rfl) rfl rfl rfl rfl), ?_⟩
            refine ⟨_, fun W eW => OpX.q (OpOk.take (dg := 37) (R.fieldA Tryz.underlying44 rfl Tryz.sizeOf9 rfl rfl rfl) rfl rfl rfl rfl), ?_⟩
            refine ⟨_, fun W eW => OpX.q (OpOk.take (dg := 37) (R.load1 Tryz.isAgg9 rfl ((k1.ext eW).cells.at 1 rfl)) rfl rfl rfl rfl), ?_⟩
            refine ⟨_, fun W eW => OpX.q (OpOk.take (dg := 37) (R.idxStr 0 Tryz.underlying9 rfl rfl rfl hc) rfl rfl rfl rfl), ?_⟩
            refine ⟨_, fun W eW => OpX.callG (dg := 37) rfl rfl ent174 (letter_ret _) rfl rfl rfl, ?_⟩
            refine ⟨_, fun W eW => OpX.q (OpOk.take (dg := 37) (R.not rfl) rfl rfl rfl rfl), ?_⟩
            refine ⟨_, fun W eW => OpX.q (OpOk.take (dg := 33) (R.pickT rfl rfl) rfl rfl rfl rfl), ?_⟩
            refine ⟨_, fun W eW => OpX.q (OpOk.r (R.pickF rfl rfl) rfl), ?_⟩
            refine ⟨_, fun W eW => OpX.q (OpOk.r (R.assign rfl) rfl), ?_⟩
            show ∀ w', Ext _ w' → St _ _ _ _ w'
            intro wd5 ed5
            replace E := Ext.trans E ed5
            replace k1 := k1.ext ed5
            refine St.weak [(1, _), (15, _)] ⟨rfl, rfl, trivial⟩ ?_
            refine St.then_n ?_
            refine St.meet hK6 () ⟨rfl, (look_eq rfl (congrArg Value.bool (by rw [textB, hall, decide_eq_false h26, decide_eq_true h36, hfl]; simp))), trivial⟩ ?_
            · exact ⟨E, k1⟩
          ·
            refine St.weak [(1, _)] ⟨rfl, trivial⟩ ?_
            refine St.drawX mixed rfl rfl rfl rfl ?_
            replace E := Ext.trans E (Ext.drew _)
            replace k1 := k1.ext (Ext.drew _)
            refine ⟨_, fun W eW => OpX.q (OpOk.r (R.fieldA Tryz.underlying44 rfl Tryz.sizeOf9 rfl rfl rfl) rfl), ?_⟩
            refine ⟨_, fun W eW => OpX.q (OpOk.r (R.load1 Tryz.isAgg9 rfl ((k1.ext eW).cells.at 1 rfl)) rfl), ?_⟩
            refine ⟨_, fun W eW => OpX.q (OpOk.r (R.fieldA Tryz.underlying44 rfl Tryz.sizeOf3 rfl rfl rfl) rfl), ?_⟩
            refine ⟨_, fun W eW => OpX.q (OpOk.r (R.load1 Tryz.isAgg3 rfl ((k1.ext eW).cells.at 0 rfl)) rfl), ?_⟩
            refine ⟨_, fun W eW => OpX.call rfl rfl ent173 (bytes_ret _), ?_⟩
            refine ⟨_, fun W eW => OpX.call rfl rfl ent172 (all_ret (by omega) _ (byteF_ent t.kind) (fun W x => byteF_ret t.kind W)), ?_⟩
            refine ⟨_, fun W eW => OpX.q (OpOk.r (Runs.lit (c := false) (R.not rfl) (h22)) rfl), ?_⟩
            refine ⟨_, fun W eW => OpX.q (OpOk.r (R.move rfl) rfl), ?_⟩
            refine ⟨_, fun W eW => OpX.q (OpOk.take (dg := 23) (R.fieldA Tryz.underlying44 rfl Tryz.sizeOf3 rfl rfl rfl) rfl rfl rfl rfl), ?_⟩
            refine ⟨_, fun W eW => OpX.q (OpOk.take (dg := 23) (R.load1 Tryz.isAgg3 rfl ((k1.ext eW).cells.at 0 rfl)) rfl rfl rfl rfl), ?_⟩
            refine ⟨_, fun W eW => OpX.q (OpOk.take (dg := 23) (Runs.lit (c := false) (R.neq rfl rfl) (decide_eq_false h26)) rfl rfl rfl rfl), ?_⟩
            refine ⟨_, fun W eW => OpX.q (OpOk.take (dg := 23) (R.move rfl) rfl rfl rfl rfl), ?_⟩
            refine ⟨_, fun W eW => OpX.q (OpOk.pass (dg := 27) rfl rfl rfl rfl rfl), ?_⟩
            refine ⟨_, fun W eW => OpX.q (OpOk.pass (dg := 27) rfl rfl rfl rfl rfl), ?_⟩
            refine ⟨_, fun W eW => OpX.q (OpOk.pass (dg := 27) rfl rfl rfl rfl rfl), ?_⟩
            refine ⟨_, fun W eW => OpX.q (OpOk.take (dg := 23) (R.pickF rfl rfl) rfl rfl rfl rfl), ?_⟩
            refine ⟨_, fun W eW => OpX.q (OpOk.r (R.pickF rfl rfl) rfl), ?_⟩
            refine ⟨_, fun W eW => OpX.q (OpOk.r (R.move rfl) rfl), ?_⟩
            refine ⟨_, fun W eW => OpX.q (OpOk.take (dg := 33) (R.fieldA Tryz.underlying44 rfl Tryz.sizeOf3 rfl rfl rfl) rfl rfl rfl rfl), ?_⟩
            refine ⟨_, fun W eW => OpX.q (OpOk.take (dg := 33) (R.load1 Tryz.isAgg3 rfl ((k1.ext eW).cells.at 0 rfl)) rfl rfl rfl rfl), ?_⟩
            refine ⟨_, fun W eW => OpX.q (OpOk.take (dg := 33) (Runs.lit (c := false) (R.eql rfl rfl) (decide_eq_false h36)) rfl rfl rfl rfl), ?_⟩
            refine ⟨_, fun W eW => OpX.q (OpOk.take (dg := 33) (R.move rfl) rfl rfl rfl rfl), ?_⟩
            refine ⟨_, fun W eW => OpX.q (OpOk.pass (dg := 37) rfl rfl rfl rfl rfl), ?_⟩
            refine ⟨_, fun W eW => OpX.q (OpOk.pass (dg := 37) rfl rfl rfl rfl rfl), ?_⟩
            refine ⟨_, fun W eW => OpX.q (OpOk.pass (dg := 37) rfl rfl rfl rfl rfl), ?_⟩
            refine ⟨_, fun W eW => OpX.q (OpOk.pass (dg := 37) rfl rfl rfl rfl rfl), ?_⟩
            refine ⟨_, fun W eW => OpX.q (OpOk.pass (dg := 37) rfl rfl rfl rfl rfl), ?_⟩
            refine ⟨_, fun W eW => OpX.q (OpOk.take (dg := 33) (R.pickF rfl rfl) rfl rfl rfl rfl), ?_⟩
            refine ⟨_, fun W eW => OpX.q (OpOk.r (R.pickF rfl rfl) rfl), ?_⟩
            refine ⟨_, fun W eW => OpX.q (OpOk.r (R.assign rfl) rfl), ?_⟩
            show ∀ w', Ext _ w' → St _ _ _ _ w'
            intro wd5 ed5
            replace E := Ext.trans E ed5
            replace k1 := k1.ext ed5
            refine St.weak [(1, _), (15, _)] ⟨rfl, rfl, trivial⟩ ?_
            refine St.then_n ?_
            refine St.meet hK6 () ⟨rfl, (look_eq rfl (congrArg Value.bool (by rw [textB, hall, decide_eq_false h26, decide_eq_false h36]; simp))), trivial⟩ ?_
            · exact ⟨E, k1⟩

end Go.Proofs.YtjgcmpondbocfaaGreatDoor

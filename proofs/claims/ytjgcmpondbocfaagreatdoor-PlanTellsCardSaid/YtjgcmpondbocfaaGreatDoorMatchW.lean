/- What the functions of package match come to: slots, terms, names, what is wrong with a pattern, what fits. Each walked once, under the reading of the arguments. -/
import Derived.Test.YtjgcmpondbocfaaGreatDoorProg
import Derived.Test.YtjgcmpondbocfaaGreatDoorSetW
import Derived.Test.YtjgcmpondbocfaaGreatDoorSolvePure
import Derived.Test.YtjgcmpondbocfaaGreatDoorArrQ
namespace Go.Proofs.YtjgcmpondbocfaaGreatDoor
open Go.RowKit 
theorem ent63 : Ent Tryz.prog 63 := Ent.of Tryz.func63 (by kernel_rfl) rfl
theorem ent82 : Ent Tryz.prog 82 := Ent.of Tryz.func82 (by kernel_rfl) rfl
theorem ent85 : Ent Tryz.prog 85 := Ent.of Tryz.func85 (by kernel_rfl) rfl
theorem ent133 : Ent Tryz.prog 133 := Ent.of Tryz.func133 (by kernel_rfl) rfl
theorem ent134 : Ent Tryz.prog 134 := Ent.of Tryz.func134 (by kernel_rfl) rfl
theorem ent175 : Ent Tryz.prog 175 := Ent.of Tryz.func175 (by kernel_rfl) rfl
theorem ent180 : Ent Tryz.prog 180 := Ent.of Tryz.func180 (by kernel_rfl) rfl
theorem ent229 : Ent Tryz.prog 229 := Ent.of Tryz.func229 (by kernel_rfl) rfl
theorem places44 : ∀ fs, Tryz.prog.underlying 44 = some (.struct fs) → Places Tryz.prog fs [(0, 1), (1, 1), (2, 1)] := by
  intro fs h
  rw [Tryz.underlying44] at h
  cases h
  intro w
  simp [go_sem, Tryz.sizeOf3, Tryz.sizeOf9]
theorem info9 : (Tryz.prog.info? 9).map (fun i => (i.zero, i.size, i.bytes)) = some (some (.string ⟨#[]⟩), 1, 16) := by kernel_rfl

theorem one_str (x : ByteArray) : ∀ u ∈ encStr x, u.oneCell' = true := by intro u hu; simp [encStr] at hu; subst hu; rfl
theorem one_slots (p : Pat) : ∀ u ∈ (slotsOf p).flatMap encSlot, u.oneCell' = true := by
  intro u hu; obtain ⟨s, _, h⟩ := List.mem_flatMap.1 hu; exact one_slot s u h
theorem one_terms (t : Triple) : ∀ u ∈ (termsOf t).flatMap encTerm, u.oneCell' = true := by
  intro u hu; obtain ⟨s, _, h⟩ := List.mem_flatMap.1 hu; exact one_term s u h
def offL (c : UInt8) : Bool := decide ((c.toNat : Int) < 97) || decide (122 < (c.toNat : Int))
theorem offL_not (c : UInt8) : offL c = !letterB c := by
  unfold offL letterB
  by_cases h1 : (c.toNat : Int) < 97 <;> by_cases h2 : 122 < (c.toNat : Int)
  · simp [h1, h2]
  · rw [decide_eq_true h1, decide_eq_false (p := (97 : Int) ≤ (c.toNat : Int)) (by omega)]; rfl
  · rw [decide_eq_true h2, decide_eq_false (p := (c.toNat : Int) ≤ 122) (by omega)]; simp
  · rw [decide_eq_false h1, decide_eq_false h2, decide_eq_true (p := (97 : Int) ≤ (c.toNat : Int)) (by omega), decide_eq_true (p := (c.toNat : Int) ≤ 122) (by omega)]; rfl
theorem not_off (s : ByteArray) : (!(s.data.toList.any offL)) = s.data.toList.all letterB := by
  rw [show offL = fun c => !letterB c from funext offL_not]; exact not_any _ _
def wordV (s : ByteArray) : Bool := decide ((s.size : Int) ≤ 10) && s.data.toList.all letterB
theorem wordV_letters {s : ByteArray} (h : ¬ s = ⟨#[]⟩) : lettersB s 10 = wordV s := by
  unfold lettersB wordV
  rw [decide_eq_false h]
  by_cases h1 : (s.size : Int) ≤ 10
  · rw [decide_eq_true h1, decide_eq_false (p := (10 : Int) < (s.size : Int)) (by omega)]; rfl
  · rw [decide_eq_false h1, decide_eq_true (p := (10 : Int) < (s.size : Int)) (by omega)]; rfl
theorem mem_any {xs : List ByteArray} {n : ByteArray} : (xs.any fun x => decide (n = x)) = decide (n ∈ xs) := by
  rw [Bool.eq_iff_iff, List.any_eq_true, decide_eq_true_iff]
  exact ⟨fun ⟨x, hx, h⟩ => (of_decide_eq_true h) ▸ hx, fun h => ⟨n, h, decide_eq_true rfl⟩⟩

theorem str_Index {xs : List ByteArray} {v : Value} {n : ByteArray} (w0 : World) (hv : RSl (REnc encStr) 1 w0 v xs) :
    Ret Tryz.prog 85 [v, .string n] w0 fun r w' => r = .int .i64 (idxOf (fun x => decide (n = x)) xs) ∧ Ext w0 w' := by
  obtain ⟨A, c, rfl, hc1, hc2⟩ := hv.form
  have E : Ext w0 w0 := Ext.refl w0
  refine St.enter (N := 19) Tryz.func85 rfl Tryz.ntmps85 rfl ?_
  refine St.seq fun K0 hK0 => ?_
  refine St.region ?_
  refine St.r (R.assign rfl) rfl rfl ?_
  refine St.nil ?_
  refine St.weak [(0, _), (1, _)] ⟨rfl, rfl, trivial⟩ ?_
  refine St.then_n ?_
  refine St.go hK0 ?_
  clear hK0
  refine St.seq fun K1 hK1 => ?_
  refine St.seq fun K2 hK2 => ?_
  refine St.region ?_
  refine St.r (R.move rfl) rfl rfl ?_
  refine St.r (R.lenSl Tryz.underlying23 rfl) rfl rfl ?_
  refine St.r (R.move rfl) rfl rfl ?_
  refine St.nil ?_
  refine St.weak [(0, _), (1, _), (7, _), (8, _)] ⟨rfl, rfl, rfl, rfl, trivial⟩ ?_
  refine St.then_n ?_
  refine St.go hK2 ?_
  clear hK2
  refine St.block ?_
  refine St.loop (fun (k : Nat) => [(0, .slice A xs.length c), (1, .string n), (7, .int .i64 (xs.length : Int)), (8, .int .i64 (k : Int))])
      (fun (k : Nat) w => k ≤ xs.length ∧ Ext w0 w ∧ ∀ y ∈ xs.take k, decide (n = y) = false)
      (fun (k : Nat) => xs.length - k) 0 ⟨rfl, rfl, rfl, rfl, trivial⟩ ?_ ?_
  · exact ⟨Nat.zero_le _, E, by simp⟩
  rintro k w ⟨hk, E, hall⟩
  show St _ _ [(0, .slice A xs.length c), (1, .string n), (7, .int .i64 (xs.length : Int)), (8, .int .i64 (k : Int))] _ _
  refine St.seq fun K3 hK3 => ?_
  refine St.region ?_
  refine St.r (R.lss rfl rfl) rfl rfl ?_
  refine St.nil ?_
  refine St.weak [(0, _), (1, _), (7, _), (8, _), (9, _)] ⟨rfl, rfl, rfl, rfl, rfl, trivial⟩ ?_
  refine St.then_n ?_
  refine St.go hK3 ?_
  clear hK3
  refine St.seq fun K4 hK4 => ?_
  refine St.condD rfl (fun h9 => ?_) (fun h9 => ?_)
  ·
    obtain ⟨x, hx⟩ := get_of_lt (xs := xs) (k := k) (by omega)
    obtain ⟨b, o, rfl, hx'⟩ := hv.get' hx
    refine St.skip ?_
    refine St.then_n ?_
    refine St.go hK4 ?_
    clear hK4
    refine St.seq fun K5 hK5 => ?_
    refine St.block ?_
    refine St.seq fun K6 hK6 => ?_
    refine St.region ?_
    refine St.r (R.move rfl) rfl rfl ?_
    refine St.r (R.assign rfl) rfl rfl ?_
    refine St.nil ?_
    refine St.weak [(0, _), (1, _), (5, _), (7, _), (8, _)] ⟨rfl, rfl, rfl, rfl, rfl, trivial⟩ ?_
    refine St.then_n ?_
    refine St.go hK6 ?_
    clear hK6
    refine St.seq fun K7 hK7 => ?_
    refine St.region ?_
    refine St.r (R.move rfl) rfl rfl ?_
    refine St.r (R.move rfl) rfl rfl ?_
    refine St.r (R.move rfl) rfl rfl ?_
    refine St.r (R.indexS k Tryz.underlying23 Tryz.sizeOf9 rfl rfl rfl (by omega)) rfl rfl ?_
    refine St.r (R.load1 Tryz.isAgg9 rfl ((E.cells hx').at 0 rfl)) rfl rfl ?_
    refine St.r (R.eqS rfl rfl) rfl rfl ?_
    refine St.nil ?_
    refine St.weak [(0, _), (1, _), (5, _), (7, _), (8, _), (16, _)] ⟨rfl, rfl, rfl, rfl, rfl, rfl, trivial⟩ ?_
    refine St.then_n ?_
    refine St.go hK7 ?_
    clear hK7
    refine St.condD rfl (fun h16 => ?_) (fun h16 => ?_)
    ·
      refine St.seq fun K8 hK8 => ?_
      refine St.region ?_
      refine St.r (R.move rfl) rfl rfl ?_
      refine St.r (R.assign rfl) rfl rfl ?_
      refine St.nil ?_
      refine St.weak [(4, _)] ⟨rfl, trivial⟩ ?_
      refine St.then_n ?_
      refine St.go hK8 ?_
      clear hK8
      refine St.ret ?_
      refine St.in_r ?_
      refine St.then_r ?_
      refine St.then_r ?_
      refine St.in_r ?_
      refine St.then_r ?_
      refine St.ret1 Tryz.results85 rfl ?_
      exact ⟨_, rfl, by rw [idxOf_found hx (decide_eq_true h16) hall], E⟩
    ·
      refine St.skip ?_
      refine St.in_n ?_
      refine St.then_n ?_
      refine St.go hK5 ?_
      clear hK5
      refine St.region ?_
      refine St.r (R.add rfl rfl (by omega) (by omega)) rfl rfl ?_
      refine St.r (R.move rfl) rfl rfl ?_
      refine St.nil ?_
      refine St.weak [(0, _), (1, _), (7, _), (8, _)] ⟨rfl, rfl, rfl, rfl, trivial⟩ ?_
      refine St.then_n ?_
      refine St.round (k + 1) ⟨rfl, rfl, rfl, rfl, trivial⟩ ?_ ?_
      · refine ⟨by omega, E, ?_⟩
        rw [take_snoc hx]
        intro y hy
        rcases List.mem_append.1 hy with hy | hy
        · exact hall y hy
        · rw [List.mem_singleton] at hy; subst hy; exact decide_eq_false h16
      · omega
  ·
    refine St.exit ?_
    refine St.then_x ?_
    refine St.then_x ?_
    refine St.in_x ?_
    refine St.then_n ?_
    refine St.go hK1 ?_
    clear hK1
    refine St.seq fun K9 hK9 => ?_
    refine St.region ?_
    refine St.r (R.assign rfl) rfl rfl ?_
    refine St.nil ?_
    refine St.weak [(4, _)] ⟨rfl, trivial⟩ ?_
    refine St.then_n ?_
    refine St.go hK9 ?_
    clear hK9
    refine St.ret ?_
    refine St.ret1 Tryz.results85 rfl ?_
    exact ⟨_, rfl, by rw [idxOf_none (fun x hx => hall x (by rw [List.take_of_length_le (by omega)]; exact hx))], E⟩

theorem str_Contains {xs : List ByteArray} {v : Value} {n : ByteArray} (w0 : World) (hv : RSl (REnc encStr) 1 w0 v xs) :
    Ret Tryz.prog 82 [v, .string n] w0 fun r w' => r = .bool (xs.any fun x => decide (n = x)) ∧ Ext w0 w' := by
  have E : Ext w0 w0 := Ext.refl w0
  refine St.enter (N := 9) Tryz.func82 rfl Tryz.ntmps82 rfl ?_
  refine St.seq fun K0 hK0 => ?_
  refine St.region ?_
  refine St.r (R.assign rfl) rfl rfl ?_
  refine St.nil ?_
  refine St.weak [(0, _), (1, _)] ⟨rfl, rfl, trivial⟩ ?_
  refine St.then_n ?_
  refine St.go hK0 ?_
  clear hK0
  refine St.seq fun K1 hK1 => ?_
  refine St.region ?_
  refine St.r (R.move rfl) rfl rfl ?_
  refine St.r (R.move rfl) rfl rfl ?_
  refine St.call rfl rfl ent85 (str_Index _ hv) rfl ?_
  rintro r7 w7 ⟨rfl, e7⟩
  replace E := Ext.trans E e7
  refine St.r (Runs.eq (R.geq rfl rfl) ((congrArg Value.bool (idxOf_any _ xs)))) rfl rfl ?_
  refine St.r (R.assign rfl) rfl rfl ?_
  refine St.nil ?_
  refine St.weak [(4, _)] ⟨rfl, trivial⟩ ?_
  refine St.then_n ?_
  refine St.go hK1 ?_
  clear hK1
  refine St.ret ?_
  refine St.ret1 Tryz.results82 rfl ?_
  exact ⟨_, rfl, rfl, E⟩

theorem mSlots_ret {p : Pat} (w0 : World) : Ret Tryz.prog 63 [.agg (encPat p).toArray] w0 fun r w' => r = .agg ((slotsOf p).flatMap encSlot).toArray ∧ Ext w0 w' := by
  have E : Ext w0 w0 := Ext.refl w0
  refine St.enter (N := 10) Tryz.func63 rfl Tryz.ntmps63 rfl ?_
  refine St.seq fun K0 hK0 => ?_
  refine St.region ?_
  refine St.box rfl rfl ?_
  intro w1 b1 hb1 hs1 e1 k1
  have qE1 := E.size
  replace E := Ext.trans E e1
  refine St.alloc Tryz.zeroValue115 rfl ?_
  intro w2 b2 hb2 hs2 e2 k2
  have qE2 := E.size
  replace E := Ext.trans E e2
  replace k1 := k1.ext e2
  refine St.nil ?_
  refine St.weak [(1, _), (2, _)] ⟨rfl, rfl, trivial⟩ ?_
  refine St.then_n ?_
  refine St.go hK0 ?_
  clear hK0
  refine St.seq fun K1 hK1 => ?_
  refine St.region ?_
  refine St.r (R.fieldA Tryz.underlying48 rfl Tryz.sizeOf46 rfl rfl rfl) rfl rfl ?_
  refine St.r (R.loadA Tryz.isAgg46 Tryz.sizeOf46 rfl (k1.cells.cut 0 4 rfl) rfl) rfl rfl ?_
  refine St.r (R.fieldA Tryz.underlying48 rfl Tryz.sizeOf46 rfl rfl rfl) rfl rfl ?_
  refine St.r (R.loadA Tryz.isAgg46 Tryz.sizeOf46 rfl (k1.cells.cut 4 4 rfl) rfl) rfl rfl ?_
  refine St.r (R.fieldA Tryz.underlying48 rfl Tryz.sizeOf46 rfl rfl rfl) rfl rfl ?_
  refine St.r (R.loadA Tryz.isAgg46 Tryz.sizeOf46 rfl (k1.cells.cut 8 4 rfl) rfl) rfl rfl ?_
  refine St.r (R.buildA Tryz.underlying115 Tryz.sizeOf46 Tryz.zeroValue115 rfl rfl rfl (by intro u hu; simp only [List.mem_cons, List.not_mem_nil, or_false] at hu; rcases hu with rfl | rfl | rfl <;> rfl)) rfl rfl ?_
  refine St.store Tryz.sizeOf115 rfl rfl k2 rfl (by simp [Value.cells]) (one_slots p) ?_
  intro ws0 ks0 gs0 zs0
  replace E := Ext.then E gs0 (by intro j hj; omega)
  replace k1 := k1.chg gs0 (by omega)
  clear k2; have k2 := ks0; clear ks0
  replace k2 : Blk ws0 b2 115 ((slotsOf p).flatMap encSlot) := k2
  refine St.nil ?_
  refine St.weak [(2, _)] ⟨rfl, trivial⟩ ?_
  refine St.then_n ?_
  refine St.go hK1 ?_
  clear hK1
  refine St.ret ?_
  refine St.retA Tryz.results63 Tryz.isAgg115 Tryz.sizeOf115 rfl k2.cells rfl ?_
  exact ⟨_, rfl, rfl, E⟩

theorem mTerms_ret {t : Triple} (w0 : World) : Ret Tryz.prog 180 [.agg (encTriple t).toArray] w0 fun r w' => r = .agg ((termsOf t).flatMap encTerm).toArray ∧ Ext w0 w' := by
  have E : Ext w0 w0 := Ext.refl w0
  refine St.enter (N := 10) Tryz.func180 rfl Tryz.ntmps180 rfl ?_
  refine St.seq fun K0 hK0 => ?_
  refine St.region ?_
  refine St.box rfl rfl ?_
  intro w1 b1 hb1 hs1 e1 k1
  have qE1 := E.size
  replace E := Ext.trans E e1
  refine St.alloc Tryz.zeroValue258 rfl ?_
  intro w2 b2 hb2 hs2 e2 k2
  have qE2 := E.size
  replace E := Ext.trans E e2
  replace k1 := k1.ext e2
  refine St.nil ?_
  refine St.weak [(1, _), (2, _)] ⟨rfl, rfl, trivial⟩ ?_
  refine St.then_n ?_
  refine St.go hK0 ?_
  clear hK0
  refine St.seq fun K1 hK1 => ?_
  refine St.region ?_
  refine St.r (R.fieldA Tryz.underlying100 rfl Tryz.sizeOf44 rfl rfl rfl) rfl rfl ?_
  refine St.r (R.loadA Tryz.isAgg44 Tryz.sizeOf44 rfl (triple_s k1) rfl) rfl rfl ?_
  refine St.r (R.fieldA Tryz.underlying100 rfl Tryz.sizeOf44 rfl rfl rfl) rfl rfl ?_
  refine St.r (R.loadA Tryz.isAgg44 Tryz.sizeOf44 rfl (triple_p k1) rfl) rfl rfl ?_
  refine St.r (R.fieldA Tryz.underlying100 rfl Tryz.sizeOf44 rfl rfl rfl) rfl rfl ?_
  refine St.r (R.loadA Tryz.isAgg44 Tryz.sizeOf44 rfl (triple_o k1) rfl) rfl rfl ?_
  refine St.r (R.buildA Tryz.underlying258 Tryz.sizeOf44 Tryz.zeroValue258 rfl rfl rfl (by intro u hu; simp only [List.mem_cons, List.not_mem_nil, or_false] at hu; rcases hu with rfl | rfl | rfl <;> rfl)) rfl rfl ?_
  refine St.store Tryz.sizeOf258 rfl rfl k2 rfl (by simp [Value.cells]) (one_terms t) ?_
  intro ws0 ks0 gs0 zs0
  replace E := Ext.then E gs0 (by intro j hj; omega)
  replace k1 := k1.chg gs0 (by omega)
  clear k2; have k2 := ks0; clear ks0
  replace k2 : Blk ws0 b2 258 ((termsOf t).flatMap encTerm) := k2
  refine St.nil ?_
  refine St.weak [(2, _)] ⟨rfl, trivial⟩ ?_
  refine St.then_n ?_
  refine St.go hK1 ?_
  clear hK1
  refine St.ret ?_
  refine St.retA Tryz.results180 Tryz.isAgg258 Tryz.sizeOf258 rfl k2.cells rfl ?_
  exact ⟨_, rfl, rfl, E⟩

theorem word1_ret {c : UInt8} (w0 : World) : Ret Tryz.prog 229 [.int .u8 (c.toNat : Int)] w0 fun r w' => r = .bool (offL c) ∧ Ext w0 w' := by
  refine St.enter (N := 9) Tryz.func229 rfl Tryz.ntmps229 rfl ?_
  refine St.seq fun K0 hK0 => ?_
  refine St.region ?_
  refine St.r (R.assign rfl) rfl rfl ?_
  refine St.nil ?_
  refine St.weak [(0, _)] ⟨rfl, trivial⟩ ?_
  refine St.then_n ?_
  refine St.go hK0 ?_
  clear hK0
  refine St.seq fun K1 hK1 => ?_
  by_cases h4 : (c.toNat : Int) < 97
  ·
    refine St.region ?_
    refine St.r (R.move rfl) rfl rfl ?_
    refine St.r (Runs.lit (c := true) (R.lss rfl rfl) (decide_eq_true h4)) rfl rfl ?_
    refine St.r (R.move rfl) rfl rfl ?_
    refine St.pass (dg := 5) rfl rfl rfl rfl rfl ?_
    refine St.pass (dg := 5) rfl rfl rfl rfl rfl ?_
    refine St.r (R.pickT rfl rfl) rfl rfl ?_
    refine St.r (R.assign rfl) rfl rfl ?_
    refine St.nil ?_
    refine St.weak [(2, _)] ⟨rfl, trivial⟩ ?_
    refine St.then_n ?_
    refine St.go hK1 ?_
    clear hK1
    refine St.ret ?_
    refine St.ret1 Tryz.results229 rfl ?_
    exact ⟨_, rfl, by rw [offL, decide_eq_true h4]; rfl, Ext.refl _⟩
  ·
    refine St.region ?_
    refine St.r (R.move rfl) rfl rfl ?_
    refine St.r (Runs.lit (c := false) (R.lss rfl rfl) (decide_eq_false h4)) rfl rfl ?_
    refine St.r (R.move rfl) rfl rfl ?_
    refine St.take (dg := 5) rfl rfl ?_ rfl
    refine St.r (R.move rfl) rfl rfl ?_
    refine St.take (dg := 5) rfl rfl ?_ rfl
    refine St.r (R.gtr rfl rfl) rfl rfl ?_
    refine St.r (R.pickF rfl rfl) rfl rfl ?_
    refine St.r (R.assign rfl) rfl rfl ?_
    refine St.nil ?_
    refine St.weak [(2, _)] ⟨rfl, trivial⟩ ?_
    refine St.then_n ?_
    refine St.go hK1 ?_
    clear hK1
    refine St.ret ?_
    refine St.ret1 Tryz.results229 rfl ?_
    exact ⟨_, rfl, by rw [offL, decide_eq_false h4]; rfl, Ext.refl _⟩

theorem mWord_ret {s : ByteArray} (w0 : World) : Ret Tryz.prog 175 [.string s] w0 fun r w' => r = .bool (wordV s) ∧ Ext w0 w' := by
  have E : Ext w0 w0 := Ext.refl w0
  refine St.enter (N := 12) Tryz.func175 rfl Tryz.ntmps175 rfl ?_
  refine St.seq fun K0 hK0 => ?_
  refine St.region ?_
  refine St.r (R.assign rfl) rfl rfl ?_
  refine St.nil ?_
  refine St.weak [(0, _)] ⟨rfl, trivial⟩ ?_
  refine St.then_n ?_
  refine St.go hK0 ?_
  clear hK0
  refine St.seq fun K1 hK1 => ?_
  by_cases h5 : (s.size : Int) ≤ 10
  ·
    refine St.region ?_
    refine St.r (R.move rfl) rfl rfl ?_
    refine St.r (R.lenStr Tryz.underlying9 rfl) rfl rfl ?_
    refine St.r (Runs.lit (c := true) (R.leq rfl rfl) (decide_eq_true h5)) rfl rfl ?_
    refine St.r (R.move rfl) rfl rfl ?_
    refine St.take (dg := 6) rfl rfl ?_ rfl
    refine St.r (R.move rfl) rfl rfl ?_
    refine St.take (dg := 6) rfl rfl ?_ rfl
    refine St.bytes Tryz.underlying9 Tryz.underlying155 Tryz.underlying5 rfl (by omega) rfl ?_
    intro w8 b8 c8 hb8 hs8 e8 r8 k8
    replace E := Ext.trans E e8
    refine St.take (dg := 6) rfl rfl ?_ rfl
    refine St.call rfl rfl ent138 (byte_ContainsFunc (p := offL) _ r8 ent229 (fun W x eW _ => word1_ret W)) rfl ?_
    rintro r9 w9 ⟨rfl, e9⟩
    replace E := Ext.trans E e9
    refine St.take (dg := 6) rfl rfl ?_ rfl
    refine St.r (R.not rfl) rfl rfl ?_
    refine St.r (R.pickT rfl rfl) rfl rfl ?_
    refine St.r (R.assign rfl) rfl rfl ?_
    refine St.nil ?_
    refine St.weak [(2, _)] ⟨rfl, trivial⟩ ?_
    refine St.then_n ?_
    refine St.go hK1 ?_
    clear hK1
    refine St.ret ?_
    refine St.ret1 Tryz.results175 rfl ?_
    exact ⟨_, rfl, by rw [wordV, decide_eq_true h5, Bool.true_and, not_off], E⟩
  ·
    refine St.region ?_
    refine St.r (R.move rfl) rfl rfl ?_
    refine St.r (R.lenStr Tryz.underlying9 rfl) rfl rfl ?_
    refine St.r (Runs.lit (c := false) (R.leq rfl rfl) (decide_eq_false h5)) rfl rfl ?_
    refine St.r (R.move rfl) rfl rfl ?_
    refine St.pass (dg := 6) rfl rfl rfl rfl rfl ?_
    refine St.pass (dg := 6) rfl rfl rfl rfl rfl ?_
    refine St.pass (dg := 6) rfl rfl rfl rfl rfl ?_
    refine St.pass (dg := 6) rfl rfl rfl rfl rfl ?_
    refine St.r (R.pickF rfl rfl) rfl rfl ?_
    refine St.r (R.assign rfl) rfl rfl ?_
    refine St.nil ?_
    refine St.weak [(2, _)] ⟨rfl, trivial⟩ ?_
    refine St.then_n ?_
    refine St.go hK1 ?_
    clear hK1
    refine St.ret ?_
    refine St.ret1 Tryz.results175 rfl ?_
    exact ⟨_, rfl, by rw [wordV, decide_eq_false h5]; rfl, E⟩

set_option maxHeartbeats 4000000 in
set_option maxRecDepth 100000 in
theorem mVars_ret {p : Pat} (w0 : World) : Ret Tryz.prog 122 [.agg (encPat p).toArray] w0 fun r w' => ∃ y, r = .tuple #[y, errV 119 (patErr p)] ∧ RStrs w' y (if (patErr p).isSome then [] else patVars p) ∧ (∀ k, y.ownBlock = some k → w0.heap.size ≤ k) ∧ Ext w0 w' := by
  have E : Ext w0 w0 := Ext.refl w0
  refine St.enter (N := 46) Tryz.func122 rfl Tryz.ntmps122 rfl ?_
  refine St.seq fun K0 hK0 => ?_
  refine St.region ?_
  refine St.box rfl rfl ?_
  intro w1 b1 hb1 hs1 e1 k1
  have qE1 := E.size
  replace E := Ext.trans E e1
  refine St.r (R.assign rfl) rfl rfl ?_
  refine St.r (R.assign rfl) rfl rfl ?_
  refine St.nil ?_
  refine St.weak [(1, _)] ⟨rfl, trivial⟩ ?_
  refine St.then_n ?_
  refine St.go hK0 ?_
  clear hK0
  refine St.seq fun K1 hK1 => ?_
  refine St.region ?_
  refine St.r (R.assign rfl) rfl rfl ?_
  refine St.nil ?_
  refine St.weak [(1, _), (4, _)] ⟨rfl, rfl, trivial⟩ ?_
  refine St.then_n ?_
  refine St.go hK1 ?_
  clear hK1
  refine St.seq fun K2 hK2 => ?_
  refine St.seq fun K3 hK3 => ?_
  refine St.region ?_
  refine St.r (R.loadA Tryz.isAgg48 Tryz.sizeOf48 rfl k1.cells rfl) rfl rfl ?_
  refine St.call rfl rfl ent63 (mSlots_ret _) rfl ?_
  rintro r9 w9 ⟨rfl, e9⟩
  replace E := Ext.trans E e9
  replace k1 := k1.ext e9
  refine St.r (R.move rfl) rfl rfl ?_
  refine St.nil ?_
  refine St.weak [(4, _), (9, _), (10, _)] ⟨rfl, rfl, rfl, trivial⟩ ?_
  refine St.then_n ?_
  refine St.go hK3 ?_
  clear hK3
  refine St.block ?_
  refine St.loop (fun (x : Nat × Value) => match x with | (k, ov) => [(4, ov), (9, .agg ((slotsOf p).flatMap encSlot).toArray), (10, .int .i64 (k : Int))])
      (fun (x : Nat × Value) w => match x with | (k, ov) => k ≤ 3 ∧ Ext w0 w ∧ Own encStr 1 w0.heap.size 9 w ov (((slotsOf p).take k).foldl addS []) ∧ patErr p = firstE (((slotsOf p).drop k).map slotErr))
      (fun (x : Nat × Value) => match x with | (k, ov) => 3 - k) (0, .slice none 0 0) ⟨rfl, rfl, rfl, trivial⟩ ?_ ?_
  · exact ⟨Nat.zero_le _, E, Own.nil _ _ _ _ _, rfl⟩
  rintro ⟨k, ov⟩ w ⟨hk, E, o4, he⟩
  show St _ _ [(4, ov), (9, .agg ((slotsOf p).flatMap encSlot).toArray), (10, .int .i64 (k : Int))] _ _
  refine St.seq fun K4 hK4 => ?_
  refine St.region ?_
  refine St.r (R.lss rfl rfl) rfl rfl ?_
  refine St.nil ?_
  refine St.weak [(4, _), (9, _), (10, _), (11, _)] ⟨rfl, rfl, rfl, rfl, trivial⟩ ?_
  refine St.then_n ?_
  refine St.go hK4 ?_
  clear hK4
  refine St.seq fun K5 hK5 => ?_
  refine St.condD rfl (fun h11 => ?_) (fun h11 => ?_)
  ·
    obtain ⟨s, hs⟩ := slots_get (p := p) (i := k) (by omega)
    have hoL := fun k hk => (o4.base (k := k) hk).2
    have hol : (((slotsOf p).take k).foldl addS []).length ≤ 3 := by
      have : ∀ (ss : List Slot) (out : List ByteArray), (ss.foldl addS out).length ≤ out.length + ss.length := by
        intro ss
        induction ss with
        | nil => intro out; simp
        | cons a r ih => intro out; have := ih (addS out a); have := addS_len out a; rw [List.foldl_cons, List.length_cons]; omega
      have := this ((slotsOf p).take k) []
      simp only [List.length_nil, List.length_take] at this; omega
    refine St.skip ?_
    refine St.then_n ?_
    refine St.go hK5 ?_
    clear hK5
    refine St.seq fun K6 hK6 => ?_
    refine St.block ?_
    refine St.seq fun K7 hK7 => ?_
    refine St.region ?_
    refine St.r (R.idxArr k Tryz.underlying115 Tryz.isAgg46 Tryz.sizeOf46 rfl rfl rfl (by omega) (flat_cut encSlot_len hs)) rfl rfl ?_
    refine St.alloc Tryz.zeroValue46 rfl ?_
    intro w6 b6 hb6 hs6 e6 k6
    have qE6 := E.size
    replace E := Ext.trans E e6
    replace o4 := o4.ext e6
    refine St.store Tryz.sizeOf46 rfl rfl k6 rfl (by simp [Value.cells, encSlot, encTerm]) (one_slot s) ?_
    intro ws0 ks0 gs0 zs0
    replace E := Ext.then E gs0 (by intro j hj; omega)
    replace o4 := o4.chg gs0 (fun k hk h => by have := hoL k hk; omega)
    clear k6; have k6 := ks0; clear ks0
    replace k6 : Blk ws0 b6 46 (encSlot s) := k6
    refine St.nil ?_
    refine St.weak [(4, _), (6, _), (9, _), (10, _)] ⟨rfl, rfl, rfl, rfl, trivial⟩ ?_
    refine St.then_n ?_
    refine St.go hK7 ?_
    clear hK7
    refine St.seq fun K8 hK8 => ?_
    refine St.seq fun K9 hK9 => ?_
    refine St.region ?_
    refine St.r (R.fieldA Tryz.underlying46 rfl Tryz.sizeOf9 rfl rfl rfl) rfl rfl ?_
    refine St.r (R.load1 Tryz.isAgg9 rfl (k6.cells.at 0 rfl)) rfl rfl ?_
    refine St.r (R.eqS rfl rfl) rfl rfl ?_
    refine St.nil ?_
    refine St.weak [(4, _), (6, _), (9, _), (10, _), (15, _)] ⟨rfl, rfl, rfl, rfl, rfl, trivial⟩ ?_
    refine St.then_n ?_
    refine St.go hK9 ?_
    clear hK9
    refine St.condD rfl (fun h15 => ?_) (fun h15 => ?_)
    ·
      refine St.seq fun K10 hK10 => ?_
      refine St.seq fun K11 hK11 => ?_
      refine St.region ?_
      refine St.r (R.fieldA Tryz.underlying46 rfl Tryz.sizeOf44 rfl rfl rfl) rfl rfl ?_
      refine St.r (R.loadA Tryz.isAgg44 Tryz.sizeOf44 rfl (k6.cells.cut 1 3 rfl) rfl) rfl rfl ?_
      refine St.call rfl rfl ent121 (tCheck_ret _) rfl ?_
      rintro r18 w18 ⟨rfl, e18⟩
      replace E := Ext.trans E e18
      replace o4 := o4.ext e18
      replace k6 := k6.ext e18
      refine St.r (R.assign rfl) rfl rfl ?_
      refine St.nil ?_
      refine St.weak [(4, _), (7, _), (9, _), (10, _)] ⟨rfl, rfl, rfl, rfl, trivial⟩ ?_
      refine St.then_n ?_
      refine St.go hK11 ?_
      clear hK11
      refine St.seq fun K12 hK12 => ?_
      refine St.region ?_
      refine St.r (R.move rfl) rfl rfl ?_
      refine St.r (R.notNil (et := 119) (e := _) Tryz.underlying32 rfl) rfl rfl ?_
      refine St.nil ?_
      refine St.weak [(4, _), (7, _), (9, _), (10, _), (20, _)] ⟨rfl, rfl, rfl, rfl, rfl, trivial⟩ ?_
      refine St.then_n ?_
      refine St.go hK12 ?_
      clear hK12
      refine St.cond rfl (fun h20 => ?_) (fun h20 => ?_)
      ·
        refine St.seq fun K13 hK13 => ?_
        refine St.region ?_
        refine St.r (R.move rfl) rfl rfl ?_
        refine St.r (R.assign rfl) rfl rfl ?_
        refine St.r (R.assign rfl) rfl rfl ?_
        refine St.nil ?_
        refine St.weak [(2, _), (3, _)] ⟨rfl, rfl, trivial⟩ ?_
        refine St.then_n ?_
        refine St.go hK13 ?_
        clear hK13
        refine St.ret ?_
        refine St.then_r ?_
        refine St.then_r ?_
        refine St.in_r ?_
        refine St.then_r ?_
        refine St.then_r ?_
        refine St.in_r ?_
        refine St.then_r ?_
        refine St.ret2 Tryz.results122 rfl rfl ?_
        have hse : slotErr s = termErr s.term := by rw [slotErr, if_pos h15]
        have hpe : patErr p = termErr s.term := by rw [he, drop_at hs, List.map_cons, hse, firstE_some h20]
        exact ⟨_, rfl, _, by rw [hpe], by rw [hpe, if_pos h20]; exact RSl.nil _ _ _, fun k h => (by cases h), E⟩
      ·
        refine St.skip ?_
        refine St.then_n ?_
        refine St.go hK10 ?_
        clear hK10
        refine St.exit ?_
        refine St.then_x ?_
        refine St.in_x ?_
        refine St.then_n ?_
        refine St.go hK6 ?_
        clear hK6
        refine St.region ?_
        refine St.r (R.add rfl rfl (by omega) (by omega)) rfl rfl ?_
        refine St.r (R.move rfl) rfl rfl ?_
        refine St.nil ?_
        refine St.weak [(4, _), (9, _), (10, _)] ⟨rfl, rfl, rfl, trivial⟩ ?_
        refine St.then_n ?_
        refine St.round (k + 1, ov) ⟨rfl, rfl, rfl, trivial⟩ ?_ ?_
        · try dsimp only
          have hse : slotErr s = none := by rw [slotErr, if_pos h15]; exact isSome_false h20
          refine ⟨by omega, E, ?_, ?_⟩
          · rw [take_snoc hs, List.foldl_append]; show Own _ _ _ _ _ _ (addS _ s); rw [addS, if_pos h15]; exact o4
          · rw [he, drop_at hs, List.map_cons, firstE_none (by rw [hse]; rfl)]
        · try dsimp only
          omega
    ·
      refine St.skip ?_
      refine St.then_n ?_
      refine St.go hK8 ?_
      clear hK8
      refine St.seq fun K14 hK14 => ?_
      refine St.block ?_
      refine St.seq fun K15 hK15 => ?_
      refine St.region ?_
      refine St.r (R.fieldA Tryz.underlying46 rfl Tryz.sizeOf9 rfl rfl rfl) rfl rfl ?_
      refine St.r (R.load1 Tryz.isAgg9 rfl (k6.cells.at 0 rfl)) rfl rfl ?_
      refine St.call rfl rfl ent175 (mWord_ret _) rfl ?_
      rintro r25 w25 ⟨rfl, e25⟩
      replace E := Ext.trans E e25
      replace o4 := o4.ext e25
      replace k6 := k6.ext e25
      refine St.r (R.not rfl) rfl rfl ?_
      refine St.r (R.assign rfl) rfl rfl ?_
      refine St.nil ?_
      refine St.weak [(4, _), (6, _), (9, _), (10, _), (22, _)] ⟨rfl, rfl, rfl, rfl, rfl, trivial⟩ ?_
      refine St.then_n ?_
      refine St.go hK15 ?_
      clear hK15
      refine St.cond rfl (fun h22 => ?_) (fun h22 => ?_)
      ·
        refine St.seq fun K16 hK16 => ?_
        refine St.region ?_
        refine St.r (R.iface Tryz.underlying119 rfl rfl) rfl rfl ?_
        refine St.r (R.assign rfl) rfl rfl ?_
        refine St.r (R.assign rfl) rfl rfl ?_
        refine St.nil ?_
        refine St.weak [(2, _), (3, _)] ⟨rfl, rfl, trivial⟩ ?_
        refine St.then_n ?_
        refine St.go hK16 ?_
        clear hK16
        refine St.ret ?_
        refine St.in_r ?_
        refine St.then_r ?_
        refine St.in_r ?_
        refine St.then_r ?_
        refine St.then_r ?_
        refine St.in_r ?_
        refine St.then_r ?_
        refine St.ret2 Tryz.results122 rfl rfl ?_
        have hse : slotErr s = some 2 := by rw [slotErr, if_neg h15, if_pos (by rw [wordV_letters h15]; simpa using h22)]
        have hpe : patErr p = some 2 := by rw [he, drop_at hs, List.map_cons, hse, firstE_some (by rfl)]
        exact ⟨_, rfl, _, by rw [hpe]; rfl, by rw [hpe, if_pos (by rfl)]; exact RSl.nil _ _ _, fun k h => (by cases h), E⟩
      ·
        refine St.seq fun K17 hK17 => ?_
        refine St.region ?_
        refine St.r (R.fieldA Tryz.underlying46 rfl Tryz.sizeOf44 rfl rfl rfl) rfl rfl ?_
        refine St.r (R.loadA Tryz.isAgg44 Tryz.sizeOf44 rfl (k6.cells.cut 1 3 rfl) rfl) rfl rfl ?_
        refine St.r (R.build Tryz.underlying44 (places44 _ Tryz.underlying44) Tryz.zeroValue44 rfl rfl rfl) rfl rfl ?_
        refine St.r (R.neAgg Tryz.eqGuardType44 (eqTerm 9998 s.term noTerm) rfl rfl) rfl rfl ?_
        refine St.r (R.assign rfl) rfl rfl ?_
        refine St.nil ?_
        refine St.weak [(4, _), (6, _), (9, _), (10, _), (28, _)] ⟨rfl, rfl, rfl, rfl, rfl, trivial⟩ ?_
        refine St.then_n ?_
        refine St.go hK17 ?_
        clear hK17
        refine St.cond rfl (fun h28 => ?_) (fun h28 => ?_)
        ·
          refine St.seq fun K18 hK18 => ?_
          refine St.region ?_
          refine St.r (R.iface Tryz.underlying119 rfl rfl) rfl rfl ?_
          refine St.r (R.assign rfl) rfl rfl ?_
          refine St.r (R.assign rfl) rfl rfl ?_
          refine St.nil ?_
          refine St.weak [(2, _), (3, _)] ⟨rfl, rfl, trivial⟩ ?_
          refine St.then_n ?_
          refine St.go hK18 ?_
          clear hK18
          refine St.ret ?_
          refine St.in_r ?_
          refine St.then_r ?_
          refine St.in_r ?_
          refine St.then_r ?_
          refine St.then_r ?_
          refine St.in_r ?_
          refine St.then_r ?_
          refine St.ret2 Tryz.results122 rfl rfl ?_
          have hse : slotErr s = some 3 := by rw [slotErr, if_neg h15, if_neg (by rw [wordV_letters h15]; simpa using h22), if_pos (by simpa using h28)]
          have hpe : patErr p = some 3 := by rw [he, drop_at hs, List.map_cons, hse, firstE_some (by rfl)]
          exact ⟨_, rfl, _, by rw [hpe]; rfl, by rw [hpe, if_pos (by rfl)]; exact RSl.nil _ _ _, fun k h => (by cases h), E⟩
        ·
          refine St.skip ?_
          refine St.in_n ?_
          refine St.then_n ?_
          refine St.go hK14 ?_
          clear hK14
          refine St.seq fun K19 hK19 => ?_
          refine St.region ?_
          refine St.r (R.move rfl) rfl rfl ?_
          refine St.r (R.fieldA Tryz.underlying46 rfl Tryz.sizeOf9 rfl rfl rfl) rfl rfl ?_
          refine St.r (R.load1 Tryz.isAgg9 rfl (k6.cells.at 0 rfl)) rfl rfl ?_
          refine St.call rfl rfl ent82 (str_Contains _ (o4.reads encStr_len)) rfl ?_
          rintro r37 w37 ⟨rfl, e37⟩
          replace E := Ext.trans E e37
          replace o4 := o4.ext e37
          replace k6 := k6.ext e37
          refine St.r (R.not rfl) rfl rfl ?_
          refine St.nil ?_
          refine St.weak [(4, _), (6, _), (9, _), (10, _), (38, _)] ⟨rfl, rfl, rfl, rfl, rfl, trivial⟩ ?_
          refine St.then_n ?_
          refine St.go hK19 ?_
          clear hK19
          refine St.cond rfl (fun h38 => ?_) (fun h38 => ?_)
          ·
            refine St.region ?_
            refine St.r (R.move rfl) rfl rfl ?_
            refine St.r (R.fieldA Tryz.underlying46 rfl Tryz.sizeOf9 rfl rfl rfl) rfl rfl ?_
            refine St.r (R.load1 Tryz.isAgg9 rfl (k6.cells.at 0 rfl)) rfl rfl ?_
            refine St.buildSl Tryz.underlying23 Tryz.sizeOf9 Tryz.zeroValue9 rfl rfl rfl rfl (by intro u hu; simp only [List.mem_cons, List.not_mem_nil, or_false] at hu; first | (subst hu; rfl) | (rcases hu with rfl | rfl <;> rfl) | (rcases hu with rfl | rfl | rfl <;> rfl) | (rcases hu with rfl | rfl | rfl | rfl <;> rfl)) rfl ?_
            intro w42 b42 hb42 hs42 e42 k42
            have qE42 := E.size
            replace E := Ext.trans E e42
            replace o4 := o4.ext e42
            replace k6 := k6.ext e42
            refine St.append (enc := encStr) (fun _ => rfl) one_str Tryz.underlying23 info9 rfl rfl rfl rfl o4 (RSl.mk (enc := encStr) (xs := [s.var]) encStr_len k42.cells (fun i u hu => hu) (by simp) (by simp)) (by simp; omega) (by simp; omega) E.size rfl ?_
            intro v43 w43 a43 g43 at43
            replace E := Ext.then E g43 (by intro j hj hk; have := (o4.base hk).1; omega)
            clear o4; have o4 := a43; clear a43
            refine St.r (R.assign rfl) rfl rfl ?_
            refine St.nil ?_
            refine St.weak [(4, _), (9, _), (10, _)] ⟨rfl, rfl, rfl, trivial⟩ ?_
            refine St.in_n ?_
            refine St.then_n ?_
            refine St.go hK6 ?_
            clear hK6
            refine St.region ?_
            refine St.r (R.add rfl rfl (by omega) (by omega)) rfl rfl ?_
            refine St.r (R.move rfl) rfl rfl ?_
            refine St.nil ?_
            refine St.weak [(4, _), (9, _), (10, _)] ⟨rfl, rfl, rfl, trivial⟩ ?_
            refine St.then_n ?_
            refine St.round (k + 1, v43) ⟨rfl, rfl, rfl, trivial⟩ ?_ ?_
            · try dsimp only
              have hse : slotErr s = none := by rw [slotErr, if_neg h15, if_neg (by rw [wordV_letters h15]; simpa using h22), if_neg (by simpa using h28)]
              refine ⟨by omega, E, ?_, ?_⟩
              · rw [take_snoc hs, List.foldl_append]; show Own _ _ _ _ _ _ (addS _ s); rw [addS, if_neg h15, addV, if_neg (by simpa [mem_any] using h38)]; exact o4
              · rw [he, drop_at hs, List.map_cons, firstE_none (by rw [hse]; rfl)]
            · try dsimp only
              omega
          ·
            refine St.skip ?_
            refine St.in_n ?_
            refine St.then_n ?_
            refine St.go hK6 ?_
            clear hK6
            refine St.region ?_
            refine St.r (R.add rfl rfl (by omega) (by omega)) rfl rfl ?_
            refine St.r (R.move rfl) rfl rfl ?_
            refine St.nil ?_
            refine St.weak [(4, _), (9, _), (10, _)] ⟨rfl, rfl, rfl, trivial⟩ ?_
            refine St.then_n ?_
            refine St.round (k + 1, ov) ⟨rfl, rfl, rfl, trivial⟩ ?_ ?_
            · try dsimp only
              have hse : slotErr s = none := by rw [slotErr, if_neg h15, if_neg (by rw [wordV_letters h15]; simpa using h22), if_neg (by simpa using h28)]
              refine ⟨by omega, E, ?_, ?_⟩
              · rw [take_snoc hs, List.foldl_append]; show Own _ _ _ _ _ _ (addS _ s); rw [addS, if_neg h15, addV, if_pos (by simpa [mem_any] using h38)]; exact o4
              · rw [he, drop_at hs, List.map_cons, firstE_none (by rw [hse]; rfl)]
            · try dsimp only
              omega
  ·
    refine St.exit ?_
    refine St.then_x ?_
    refine St.then_x ?_
    refine St.in_x ?_
    refine St.then_n ?_
    refine St.go hK2 ?_
    clear hK2
    refine St.seq fun K20 hK20 => ?_
    refine St.region ?_
    refine St.r (R.move rfl) rfl rfl ?_
    refine St.r (R.assign rfl) rfl rfl ?_
    refine St.r (R.assign rfl) rfl rfl ?_
    refine St.nil ?_
    refine St.weak [(2, _), (3, _)] ⟨rfl, rfl, trivial⟩ ?_
    refine St.then_n ?_
    refine St.go hK20 ?_
    clear hK20
    refine St.ret ?_
    refine St.ret2 Tryz.results122 rfl rfl ?_
    have hk3 : k = 3 := by omega
    subst hk3
    have hpe : patErr p = none := by rw [he]; rfl
    exact ⟨_, rfl, _, by rw [hpe]; rfl, by rw [hpe, if_neg (by simp)]; exact o4.reads encStr_len, fun k hk => (o4.base hk).1, E⟩

set_option maxHeartbeats 4000000 in
set_option maxRecDepth 100000 in
theorem Fits_ret {t : Triple} {p : Pat} (w0 : World) : Ret Tryz.prog 134 [.agg (encTriple t).toArray, .agg (encPat p).toArray] w0 fun r w' => r = .bool (fitsB p t) ∧ Ext w0 w' := by
  have E : Ext w0 w0 := Ext.refl w0
  refine St.enter (N := 57) Tryz.func134 rfl Tryz.ntmps134 rfl ?_
  refine St.seq fun K0 hK0 => ?_
  refine St.region ?_
  refine St.box rfl rfl ?_
  intro w2 b2 hb2 hs2 e2 k2
  have qE2 := E.size
  replace E := Ext.trans E e2
  refine St.box rfl rfl ?_
  intro w3 b3 hb3 hs3 e3 k3
  have qE3 := E.size
  replace E := Ext.trans E e3
  replace k2 := k2.ext e3
  refine St.r (R.assign rfl) rfl rfl ?_
  refine St.nil ?_
  refine St.weak [(2, _), (3, _)] ⟨rfl, rfl, trivial⟩ ?_
  refine St.then_n ?_
  refine St.go hK0 ?_
  clear hK0
  refine St.seqJ (fun (x : Nat × Nat) => match x with | (p5, p6) => [(5, .pointer (some ⟨p5, 0, none⟩)), (6, .pointer (some ⟨p6, 0, none⟩))])
      (fun (x : Nat × Nat) w => match x with | (p5, p6) => Ext w0 w ∧ Blk w p5 115 ((slotsOf p).flatMap encSlot) ∧ Blk w p6 258 ((termsOf t).flatMap encTerm)) ?_ ?_
  · rintro ⟨p5, p6⟩ w ⟨E, k5, k6⟩
    show St _ _ [(5, .pointer (some ⟨p5, 0, none⟩)), (6, .pointer (some ⟨p6, 0, none⟩))] _ _
    refine St.seq fun K2 hK2 => ?_
    refine St.seq fun K3 hK3 => ?_
    refine St.region ?_
    refine St.r (R.loadA Tryz.isAgg115 Tryz.sizeOf115 rfl k5.cells rfl) rfl rfl ?_
    refine St.r (R.move rfl) rfl rfl ?_
    refine St.nil ?_
    refine St.weak [(5, _), (6, _), (14, _), (15, _)] ⟨rfl, rfl, rfl, rfl, trivial⟩ ?_
    refine St.then_n ?_
    refine St.go hK3 ?_
    clear hK3
    refine St.block ?_
    refine St.loop (fun (i : Nat) => [(5, .pointer (some ⟨p5, 0, none⟩)), (6, .pointer (some ⟨p6, 0, none⟩)), (14, .agg ((slotsOf p).flatMap encSlot).toArray), (15, .int .i64 (i : Int))])
        (fun (i : Nat) w => i ≤ 3 ∧ Ext w0 w ∧ Blk w p5 115 ((slotsOf p).flatMap encSlot) ∧ Blk w p6 258 ((termsOf t).flatMap encTerm) ∧ ∀ j, j < i → badSlot (slotsOf p) (termsOf t) j = false ∧ ∀ k, k < j → badPair (slotsOf p) (termsOf t) j k = false)
        (fun (i : Nat) => 3 - i) 0 ⟨rfl, rfl, rfl, rfl, trivial⟩ ?_ ?_
    · exact ⟨Nat.zero_le _, E, k5, k6, fun j h => by omega⟩
    rintro i w ⟨hi, E, k5, k6, hall⟩
    show St _ _ [(5, .pointer (some ⟨p5, 0, none⟩)), (6, .pointer (some ⟨p6, 0, none⟩)), (14, .agg ((slotsOf p).flatMap encSlot).toArray), (15, .int .i64 (i : Int))] _ _
    refine St.seq fun K4 hK4 => ?_
    refine St.region ?_
    refine St.r (R.lss rfl rfl) rfl rfl ?_
    refine St.nil ?_
    refine St.weak [(5, _), (6, _), (14, _), (15, _), (16, _)] ⟨rfl, rfl, rfl, rfl, rfl, trivial⟩ ?_
    refine St.then_n ?_
    refine St.go hK4 ?_
    clear hK4
    refine St.seq fun K5 hK5 => ?_
    refine St.condD rfl (fun h16 => ?_) (fun h16 => ?_)
    ·
      obtain ⟨s, hs⟩ := slots_get (p := p) (i := i) (by omega)
      obtain ⟨x, hx⟩ := terms_get (t := t) (i := i) (by omega)
      have y5 := k5.lt
      have y6 := k6.lt
      refine St.skip ?_
      refine St.then_n ?_
      refine St.go hK5 ?_
      clear hK5
      refine St.seq fun K6 hK6 => ?_
      refine St.block ?_
      refine St.seq fun K7 hK7 => ?_
      refine St.region ?_
      refine St.r (R.move rfl) rfl rfl ?_
      refine St.r (R.idxArr i Tryz.underlying115 Tryz.isAgg46 Tryz.sizeOf46 rfl rfl rfl (by omega) (flat_cut encSlot_len hs)) rfl rfl ?_
      refine St.alloc Tryz.zeroValue46 rfl ?_
      intro w8 b8 hb8 hs8 e8 k8
      have qE8 := E.size
      replace E := Ext.trans E e8
      replace k5 := k5.ext e8
      replace k6 := k6.ext e8
      refine St.r (R.assign rfl) rfl rfl ?_
      refine St.store Tryz.sizeOf46 rfl rfl k8 rfl (by simp [Value.cells, encSlot, encTerm]) (one_slot s) ?_
      intro ws2 ks2 gs2 zs2
      replace E := Ext.then E gs2 (by intro j hj; omega)
      replace k5 := k5.chg gs2 (by omega)
      replace k6 := k6.chg gs2 (by omega)
      clear k8; have k8 := ks2; clear ks2
      replace k8 : Blk ws2 b8 46 (encSlot s) := k8
      refine St.nil ?_
      refine St.weak [(5, _), (6, _), (7, _), (8, _), (14, _), (15, _)] ⟨rfl, rfl, rfl, rfl, rfl, rfl, trivial⟩ ?_
      refine St.then_n ?_
      refine St.go hK7 ?_
      clear hK7
      refine St.seqJ (fun (x : Unit) => match x with | () => [(5, .pointer (some ⟨p5, 0, none⟩)), (6, .pointer (some ⟨p6, 0, none⟩)), (7, .int .i64 (i : Int)), (8, .pointer (some ⟨b8, 0, none⟩)), (14, .agg ((slotsOf p).flatMap encSlot).toArray), (15, .int .i64 (i : Int))])
          (fun (x : Unit) w => match x with | () => Ext w0 w ∧ Blk w p5 115 ((slotsOf p).flatMap encSlot) ∧ Blk w p6 258 ((termsOf t).flatMap encTerm) ∧ Blk w b8 46 (encSlot s) ∧ badSlot (slotsOf p) (termsOf t) i = false) ?_ ?_
      · rintro _ w ⟨E, k5, k6, k8, hbs⟩
        show St _ _ [(5, .pointer (some ⟨p5, 0, none⟩)), (6, .pointer (some ⟨p6, 0, none⟩)), (7, .int .i64 (i : Int)), (8, .pointer (some ⟨b8, 0, none⟩)), (14, .agg ((slotsOf p).flatMap encSlot).toArray), (15, .int .i64 (i : Int))] _ _
        refine St.seq fun K9 hK9 => ?_
        refine St.region ?_
        refine St.r (R.move rfl) rfl rfl ?_
        refine St.r (R.move rfl) rfl rfl ?_
        refine St.nil ?_
        refine St.weak [(5, _), (6, _), (7, _), (8, _), (14, _), (15, _), (30, _), (31, _)] ⟨rfl, rfl, rfl, rfl, rfl, rfl, rfl, rfl, trivial⟩ ?_
        refine St.then_n ?_
        refine St.go hK9 ?_
        clear hK9
        refine St.block ?_
        refine St.loop (fun (k : Nat) => [(5, .pointer (some ⟨p5, 0, none⟩)), (6, .pointer (some ⟨p6, 0, none⟩)), (7, .int .i64 (i : Int)), (8, .pointer (some ⟨b8, 0, none⟩)), (14, .agg ((slotsOf p).flatMap encSlot).toArray), (15, .int .i64 (i : Int)), (30, .int .i64 (i : Int)), (31, .int .i64 (k : Int))])
            (fun (k : Nat) w => k ≤ i ∧ Ext w0 w ∧ Blk w p5 115 ((slotsOf p).flatMap encSlot) ∧ Blk w p6 258 ((termsOf t).flatMap encTerm) ∧ Blk w b8 46 (encSlot s) ∧ ∀ j, j < k → badPair (slotsOf p) (termsOf t) i j = false)
            (fun (k : Nat) => i - k) 0 ⟨rfl, rfl, rfl, rfl, rfl, rfl, rfl, rfl, trivial⟩ ?_ ?_
        · exact ⟨Nat.zero_le _, E, k5, k6, k8, fun j h => by omega⟩
        rintro k w ⟨hki, E, k5, k6, k8, hin⟩
        show St _ _ [(5, .pointer (some ⟨p5, 0, none⟩)), (6, .pointer (some ⟨p6, 0, none⟩)), (7, .int .i64 (i : Int)), (8, .pointer (some ⟨b8, 0, none⟩)), (14, .agg ((slotsOf p).flatMap encSlot).toArray), (15, .int .i64 (i : Int)), (30, .int .i64 (i : Int)), (31, .int .i64 (k : Int))] _ _
        refine St.seq fun K10 hK10 => ?_
        refine St.region ?_
        refine St.r (R.lss rfl rfl) rfl rfl ?_
        refine St.nil ?_
        refine St.weak [(5, _), (6, _), (7, _), (8, _), (14, _), (15, _), (30, _), (31, _), (32, _)] ⟨rfl, rfl, rfl, rfl, rfl, rfl, rfl, rfl, rfl, trivial⟩ ?_
        refine St.then_n ?_
        refine St.go hK10 ?_
        clear hK10
        refine St.seq fun K11 hK11 => ?_
        refine St.condD rfl (fun h32 => ?_) (fun h32 => ?_)
        ·
          obtain ⟨u, hu⟩ := slots_get (p := p) (i := k) (by omega)
          obtain ⟨y, hy⟩ := terms_get (t := t) (i := k) (by omega)
          refine St.skip ?_
          refine St.then_n ?_
          refine St.go hK11 ?_
          clear hK11
          refine St.seq fun K12 hK12 => ?_
          refine St.block ?_
          refine St.seq fun K13 hK13 => ?_
          refine St.region ?_
          refine St.r (R.move rfl) rfl rfl ?_
          refine St.r (R.assign rfl) rfl rfl ?_
          refine St.nil ?_
          refine St.weak [(5, _), (6, _), (7, _), (8, _), (9, _), (14, _), (15, _), (30, _), (31, _)] ⟨rfl, rfl, rfl, rfl, rfl, rfl, rfl, rfl, rfl, trivial⟩ ?_
          refine St.then_n ?_
          refine St.go hK13 ?_
          clear hK13
          refine St.seq fun K14 hK14 => ?_
          by_cases h36 : s.var ≠ ⟨#[]⟩
          ·
            by_cases h44 : u.var = s.var
            ·
              refine St.weak [(5, _), (6, _), (7, _), (8, _), (9, _), (14, _), (15, _), (30, _), (31, _)] ⟨rfl, rfl, rfl, rfl, rfl, rfl, rfl, rfl, rfl, trivial⟩ ?_
              refine St.draw mixed rfl rfl rfl rfl ?_
              replace E := Ext.trans E (Ext.drew _)
              replace k5 := k5.ext (Ext.drew _)
              replace k6 := k6.ext (Ext.drew _)
              replace k8 := k8.ext (Ext.drew _)
              refine ⟨_, OpOk.r (R.fieldA Tryz.underlying46 rfl Tryz.sizeOf9 rfl rfl rfl) rfl, ?_⟩
              refine ⟨_, OpOk.r (R.load1 Tryz.isAgg9 rfl (k8.cells.at 0 rfl)) rfl, ?_⟩
              refine ⟨_, OpOk.r (Runs.lit (c := true) (R.neS rfl rfl) (decide_eq_true h36)) rfl, ?_⟩
              refine ⟨_, OpOk.r (R.move rfl) rfl, ?_⟩
              refine ⟨_, OpOk.take (dg := 37) (R.move rfl) rfl rfl rfl rfl, ?_⟩
              refine ⟨_, OpOk.take (dg := 37) (R.indexA k Tryz.underlying115 Tryz.sizeOf46 rfl rfl rfl (by omega)) rfl rfl rfl rfl, ?_⟩
              refine ⟨_, OpOk.take (dg := 37) (R.fieldA Tryz.underlying46 rfl Tryz.sizeOf9 rfl rfl rfl) rfl rfl rfl rfl, ?_⟩
              refine ⟨_, OpOk.take (dg := 37) (R.load1 Tryz.isAgg9 rfl (((Blk.elem (sp := []) encSlot_len (by rw [List.append_nil]; exact k5) hu)).at 0 rfl)) rfl rfl rfl rfl, ?_⟩
              refine ⟨_, OpOk.take (dg := 37) (R.fieldA Tryz.underlying46 rfl Tryz.sizeOf9 rfl rfl rfl) rfl rfl rfl rfl, ?_⟩
              refine ⟨_, OpOk.take (dg := 37) (R.load1 Tryz.isAgg9 rfl (k8.cells.at 0 rfl)) rfl rfl rfl rfl, ?_⟩
              refine ⟨_, OpOk.take (dg := 37) (Runs.lit (c := true) (R.eqS rfl rfl) (decide_eq_true h44)) rfl rfl rfl rfl, ?_⟩
              refine ⟨_, OpOk.r (R.pickT rfl rfl) rfl, ?_⟩
              refine ⟨_, OpOk.r (R.move rfl) rfl, ?_⟩
              refine ⟨_, OpOk.take (dg := 46) (R.move rfl) rfl rfl rfl rfl, ?_⟩
              refine ⟨_, OpOk.take (dg := 46) (R.indexA k Tryz.underlying258 Tryz.sizeOf44 rfl rfl rfl (by omega)) rfl rfl rfl rfl, ?_⟩
              refine ⟨_, OpOk.take (dg := 46) (R.loadA Tryz.isAgg44 Tryz.sizeOf44 rfl ((Blk.elem (sp := []) encTerm_len (by rw [List.append_nil]; exact k6) hy)) rfl) rfl rfl rfl rfl, ?_⟩
              refine ⟨_, OpOk.take (dg := 46) (R.move rfl) rfl rfl rfl rfl, ?_⟩
              refine ⟨_, OpOk.take (dg := 46) (R.indexA i Tryz.underlying258 Tryz.sizeOf44 rfl rfl rfl (by omega)) rfl rfl rfl rfl, ?_⟩
              refine ⟨_, OpOk.take (dg := 46) (R.loadA Tryz.isAgg44 Tryz.sizeOf44 rfl ((Blk.elem (sp := []) encTerm_len (by rw [List.append_nil]; exact k6) hx)) rfl) rfl rfl rfl rfl, ?_⟩
              refine ⟨_, OpOk.take (dg := 46) (R.neAgg Tryz.eqGuardType44 (eqTerm 9998 y x) rfl rfl) rfl rfl rfl rfl, ?_⟩
              refine ⟨_, OpOk.r (R.pickT rfl rfl) rfl, ?_⟩
              show St _ _ _ _ _
              refine St.weak [(5, _), (6, _), (7, _), (8, _), (14, _), (15, _), (30, _), (31, _), (54, _)] ⟨rfl, rfl, rfl, rfl, rfl, rfl, rfl, rfl, rfl, trivial⟩ ?_
              refine St.then_n ?_
              refine St.go hK14 ?_
              clear hK14
              refine St.cond rfl (fun h54 => ?_) (fun h54 => ?_)
              ·
                refine St.seq fun K15 hK15 => ?_
                refine St.region ?_
                refine St.r (R.assign rfl) rfl rfl ?_
                refine St.nil ?_
                refine St.weak [(4, _)] ⟨rfl, trivial⟩ ?_
                refine St.then_n ?_
                refine St.go hK15 ?_
                clear hK15
                refine St.ret ?_
                refine St.in_r ?_
                refine St.then_r ?_
                refine St.then_r ?_
                refine St.in_r ?_
                refine St.in_r ?_
                refine St.then_r ?_
                refine St.then_r ?_
                refine St.in_r ?_
                refine St.then_r ?_
                refine St.ret1 Tryz.results134 rfl ?_
                exact ⟨_, rfl, by rw [fitsB_pair (i := i) (k := k) (by omega) (by omega) (by rw [badPair_at hs hx hu hy, decide_eq_true h36, decide_eq_true h44]; simpa using h54)], E⟩
              ·
                refine St.skip ?_
                refine St.in_n ?_
                refine St.then_n ?_
                refine St.go hK12 ?_
                clear hK12
                refine St.region ?_
                refine St.r (R.add rfl rfl (by omega) (by omega)) rfl rfl ?_
                refine St.r (R.move rfl) rfl rfl ?_
                refine St.nil ?_
                refine St.weak [(5, _), (6, _), (7, _), (8, _), (14, _), (15, _), (30, _), (31, _)] ⟨rfl, rfl, rfl, rfl, rfl, rfl, rfl, rfl, trivial⟩ ?_
                refine St.then_n ?_
                refine St.round (k + 1) ⟨rfl, rfl, rfl, rfl, rfl, rfl, rfl, rfl, trivial⟩ ?_ ?_
                · refine ⟨by omega, E, k5, k6, k8, fun j hj => ?_⟩
                  rcases Nat.lt_or_ge j k with h | h
                  · exact hin j h
                  · obtain rfl : j = k := by omega
                    rw [badPair_at hs hx hu hy, decide_eq_true h36, decide_eq_true h44]; simpa using h54 --]
                · omega
            ·
              refine St.weak [(5, _), (6, _), (7, _), (8, _), (9, _), (14, _), (15, _), (30, _), (31, _)] ⟨rfl, rfl, rfl, rfl, rfl, rfl, rfl, rfl, rfl, trivial⟩ ?_
              refine St.draw mixed rfl rfl rfl rfl ?_
              replace E := Ext.trans E (Ext.drew _)
              replace k5 := k5.ext (Ext.drew _)
              replace k6 := k6.ext (Ext.drew _)
              replace k8 := k8.ext (Ext.drew _)
              refine ⟨_, OpOk.r (R.fieldA Tryz.underlying46 rfl Tryz.sizeOf9 rfl rfl rfl) rfl, ?_⟩
              refine ⟨_, OpOk.r (R.load1 Tryz.isAgg9 rfl (k8.cells.at 0 rfl)) rfl, ?_⟩
              refine ⟨_, OpOk.r (Runs.lit (c := true) (R.neS rfl rfl) (decide_eq_true h36)) rfl, ?_⟩
              refine ⟨_, OpOk.r (R.move rfl) rfl, ?_⟩
              refine ⟨_, OpOk.take (dg := 37) (R.move rfl) rfl rfl rfl rfl, ?_⟩
              refine ⟨_, OpOk.take (dg := 37) (R.indexA k Tryz.underlying115 Tryz.sizeOf46 rfl rfl rfl (by omega)) rfl rfl rfl rfl, ?_⟩
              refine ⟨_, OpOk.take (dg := 37) (R.fieldA Tryz.underlying46 rfl Tryz.sizeOf9 rfl rfl rfl) rfl rfl rfl rfl, ?_⟩
              refine ⟨_, OpOk.take (dg := 37) (R.load1 Tryz.isAgg9 rfl (((Blk.elem (sp := []) encSlot_len (by rw [List.append_nil]; exact k5) hu)).at 0 rfl)) rfl rfl rfl rfl, ?_⟩
              refine ⟨_, OpOk.take (dg := 37) (R.fieldA Tryz.underlying46 rfl Tryz.sizeOf9 rfl rfl rfl) rfl rfl rfl rfl, ?_⟩
              refine ⟨_, OpOk.take (dg := 37) (R.load1 Tryz.isAgg9 rfl (k8.cells.at 0 rfl)) rfl rfl rfl rfl, ?_⟩
              refine ⟨_, OpOk.take (dg := 37) (Runs.lit (c := false) (R.eqS rfl rfl) (decide_eq_false h44)) rfl rfl rfl rfl, ?_⟩
              refine ⟨_, OpOk.r (R.pickT rfl rfl) rfl, ?_⟩
              refine ⟨_, OpOk.r (R.move rfl) rfl, ?_⟩
              refine ⟨_, OpOk.pass (dg := 46) rfl rfl rfl rfl rfl, ?_⟩
              refine ⟨_, OpOk.pass (dg := 46) rfl rfl rfl rfl rfl, ?_⟩
              refine ⟨_, OpOk.pass (dg := 46) rfl rfl rfl rfl rfl, ?_⟩
              refine ⟨_, OpOk.pass (dg := 46) rfl rfl rfl rfl rfl, ?_⟩
              refine ⟨_, OpOk.pass (dg := 46) rfl rfl rfl rfl rfl, ?_⟩
              refine ⟨_, OpOk.pass (dg := 46) rfl rfl rfl rfl rfl, ?_⟩
              refine ⟨_, OpOk.pass (dg := 46) rfl rfl rfl rfl rfl, ?_⟩
              refine ⟨_, OpOk.r (R.pickF rfl rfl) rfl, ?_⟩
              show St _ _ _ _ _
              refine St.weak [(5, _), (6, _), (7, _), (8, _), (14, _), (15, _), (30, _), (31, _), (54, _)] ⟨rfl, rfl, rfl, rfl, rfl, rfl, rfl, rfl, rfl, trivial⟩ ?_
              refine St.then_n ?_
              refine St.go hK14 ?_
              clear hK14
              refine St.condF rfl ?_
              refine St.skip ?_
              refine St.in_n ?_
              refine St.then_n ?_
              refine St.go hK12 ?_
              clear hK12
              refine St.region ?_
              refine St.r (R.add rfl rfl (by omega) (by omega)) rfl rfl ?_
              refine St.r (R.move rfl) rfl rfl ?_
              refine St.nil ?_
              refine St.weak [(5, _), (6, _), (7, _), (8, _), (14, _), (15, _), (30, _), (31, _)] ⟨rfl, rfl, rfl, rfl, rfl, rfl, rfl, rfl, trivial⟩ ?_
              refine St.then_n ?_
              refine St.round (k + 1) ⟨rfl, rfl, rfl, rfl, rfl, rfl, rfl, rfl, trivial⟩ ?_ ?_
              · refine ⟨by omega, E, k5, k6, k8, fun j hj => ?_⟩
                rcases Nat.lt_or_ge j k with h | h
                · exact hin j h
                · obtain rfl : j = k := by omega
                  rw [badPair_at hs hx hu hy, decide_eq_true h36, decide_eq_false h44]; rfl --]
              · omega
          ·
            refine St.weak [(5, _), (6, _), (7, _), (8, _), (9, _), (14, _), (15, _), (30, _), (31, _)] ⟨rfl, rfl, rfl, rfl, rfl, rfl, rfl, rfl, rfl, trivial⟩ ?_
            refine St.draw mixed rfl rfl rfl rfl ?_
            replace E := Ext.trans E (Ext.drew _)
            replace k5 := k5.ext (Ext.drew _)
            replace k6 := k6.ext (Ext.drew _)
            replace k8 := k8.ext (Ext.drew _)
            refine ⟨_, OpOk.r (R.fieldA Tryz.underlying46 rfl Tryz.sizeOf9 rfl rfl rfl) rfl, ?_⟩
            refine ⟨_, OpOk.r (R.load1 Tryz.isAgg9 rfl (k8.cells.at 0 rfl)) rfl, ?_⟩
            refine ⟨_, OpOk.r (Runs.lit (c := false) (R.neS rfl rfl) (decide_eq_false h36)) rfl, ?_⟩
            refine ⟨_, OpOk.r (R.move rfl) rfl, ?_⟩
            refine ⟨_, OpOk.pass (dg := 37) rfl rfl rfl rfl rfl, ?_⟩
            refine ⟨_, OpOk.pass (dg := 37) rfl rfl rfl rfl rfl, ?_⟩
            refine ⟨_, OpOk.pass (dg := 37) rfl rfl rfl rfl rfl, ?_⟩
            refine ⟨_, OpOk.pass (dg := 37) rfl rfl rfl rfl rfl, ?_⟩
            refine ⟨_, OpOk.pass (dg := 37) rfl rfl rfl rfl rfl, ?_⟩
            refine ⟨_, OpOk.pass (dg := 37) rfl rfl rfl rfl rfl, ?_⟩
            refine ⟨_, OpOk.pass (dg := 37) rfl rfl rfl rfl rfl, ?_⟩
            refine ⟨_, OpOk.r (R.pickF rfl rfl) rfl, ?_⟩
            refine ⟨_, OpOk.r (R.move rfl) rfl, ?_⟩
            refine ⟨_, OpOk.pass (dg := 46) rfl rfl rfl rfl rfl, ?_⟩
            refine ⟨_, OpOk.pass (dg := 46) rfl rfl rfl rfl rfl, ?_⟩
            refine ⟨_, OpOk.pass (dg := 46) rfl rfl rfl rfl rfl, ?_⟩
            refine ⟨_, OpOk.pass (dg := 46) rfl rfl rfl rfl rfl, ?_⟩
            refine ⟨_, OpOk.pass (dg := 46) rfl rfl rfl rfl rfl, ?_⟩
            refine ⟨_, OpOk.pass (dg := 46) rfl rfl rfl rfl rfl, ?_⟩
            refine ⟨_, OpOk.pass (dg := 46) rfl rfl rfl rfl rfl, ?_⟩
            refine ⟨_, OpOk.r (R.pickF rfl rfl) rfl, ?_⟩
            show St _ _ _ _ _
            refine St.weak [(5, _), (6, _), (7, _), (8, _), (14, _), (15, _), (30, _), (31, _), (54, _)] ⟨rfl, rfl, rfl, rfl, rfl, rfl, rfl, rfl, rfl, trivial⟩ ?_
            refine St.then_n ?_
            refine St.go hK14 ?_
            clear hK14
            refine St.condF rfl ?_
            refine St.skip ?_
            refine St.in_n ?_
            refine St.then_n ?_
            refine St.go hK12 ?_
            clear hK12
            refine St.region ?_
            refine St.r (R.add rfl rfl (by omega) (by omega)) rfl rfl ?_
            refine St.r (R.move rfl) rfl rfl ?_
            refine St.nil ?_
            refine St.weak [(5, _), (6, _), (7, _), (8, _), (14, _), (15, _), (30, _), (31, _)] ⟨rfl, rfl, rfl, rfl, rfl, rfl, rfl, rfl, trivial⟩ ?_
            refine St.then_n ?_
            refine St.round (k + 1) ⟨rfl, rfl, rfl, rfl, rfl, rfl, rfl, rfl, trivial⟩ ?_ ?_
            · refine ⟨by omega, E, k5, k6, k8, fun j hj => ?_⟩
              rcases Nat.lt_or_ge j k with h | h
              · exact hin j h
              · obtain rfl : j = k := by omega
                rw [badPair_at hs hx hu hy, decide_eq_false h36]; rfl --]
            · omega
        ·
          refine St.exit ?_
          refine St.then_x ?_
          refine St.then_x ?_
          refine St.in_x ?_
          refine St.in_n ?_
          refine St.then_n ?_
          refine St.go hK6 ?_
          clear hK6
          refine St.region ?_
          refine St.r (R.add rfl rfl (by omega) (by omega)) rfl rfl ?_
          refine St.r (R.move rfl) rfl rfl ?_
          refine St.nil ?_
          refine St.weak [(5, _), (6, _), (14, _), (15, _)] ⟨rfl, rfl, rfl, rfl, trivial⟩ ?_
          refine St.then_n ?_
          refine St.round (i + 1) ⟨rfl, rfl, rfl, rfl, trivial⟩ ?_ ?_
          · refine ⟨by omega, E, k5, k6, fun j hj => ?_⟩
            rcases Nat.lt_or_ge j i with h | h
            · exact hall j h
            · obtain rfl : j = i := by omega
              exact ⟨hbs, fun k hk => hin k (by omega)⟩
          · omega
      intro K8 hK8
      refine St.seq fun K16 hK16 => ?_
      by_cases h21 : s.var = ⟨#[]⟩
      ·
        refine St.weak [(5, _), (6, _), (7, _), (8, _), (14, _), (15, _)] ⟨rfl, rfl, rfl, rfl, rfl, rfl, trivial⟩ ?_
        refine St.draw mixed rfl rfl rfl rfl ?_
        replace E := Ext.trans E (Ext.drew _)
        replace k5 := k5.ext (Ext.drew _)
        replace k6 := k6.ext (Ext.drew _)
        replace k8 := k8.ext (Ext.drew _)
        refine ⟨_, OpOk.r (R.fieldA Tryz.underlying46 rfl Tryz.sizeOf9 rfl rfl rfl) rfl, ?_⟩
        refine ⟨_, OpOk.r (R.load1 Tryz.isAgg9 rfl (k8.cells.at 0 rfl)) rfl, ?_⟩
        refine ⟨_, OpOk.r (Runs.lit (c := true) (R.eqS rfl rfl) (decide_eq_true h21)) rfl, ?_⟩
        refine ⟨_, OpOk.r (R.move rfl) rfl, ?_⟩
        refine ⟨_, OpOk.take (dg := 22) (R.fieldA Tryz.underlying46 rfl Tryz.sizeOf44 rfl rfl rfl) rfl rfl rfl rfl, ?_⟩
        refine ⟨_, OpOk.take (dg := 22) (R.loadA Tryz.isAgg44 Tryz.sizeOf44 rfl (k8.cells.cut 1 3 rfl) rfl) rfl rfl rfl rfl, ?_⟩
        refine ⟨_, OpOk.take (dg := 22) (R.move rfl) rfl rfl rfl rfl, ?_⟩
        refine ⟨_, OpOk.take (dg := 22) (R.indexA i Tryz.underlying258 Tryz.sizeOf44 rfl rfl rfl (by omega)) rfl rfl rfl rfl, ?_⟩
        refine ⟨_, OpOk.take (dg := 22) (R.loadA Tryz.isAgg44 Tryz.sizeOf44 rfl ((Blk.elem (sp := []) encTerm_len (by rw [List.append_nil]; exact k6) hx)) rfl) rfl rfl rfl rfl, ?_⟩
        refine ⟨_, OpOk.take (dg := 22) (R.neAgg Tryz.eqGuardType44 (eqTerm 9998 s.term x) rfl rfl) rfl rfl rfl rfl, ?_⟩
        refine ⟨_, OpOk.r (R.pickT rfl rfl) rfl, ?_⟩
        show St _ _ _ _ _
        refine St.weak [(5, _), (6, _), (7, _), (8, _), (14, _), (15, _), (29, _)] ⟨rfl, rfl, rfl, rfl, rfl, rfl, rfl, trivial⟩ ?_
        refine St.then_n ?_
        refine St.go hK16 ?_
        clear hK16
        refine St.cond rfl (fun h29 => ?_) (fun h29 => ?_)
        ·
          refine St.seq fun K17 hK17 => ?_
          refine St.region ?_
          refine St.r (R.assign rfl) rfl rfl ?_
          refine St.nil ?_
          refine St.weak [(4, _)] ⟨rfl, trivial⟩ ?_
          refine St.then_n ?_
          refine St.go hK17 ?_
          clear hK17
          refine St.ret ?_
          refine St.then_r ?_
          refine St.in_r ?_
          refine St.then_r ?_
          refine St.then_r ?_
          refine St.in_r ?_
          refine St.then_r ?_
          refine St.ret1 Tryz.results134 rfl ?_
          exact ⟨_, rfl, by rw [fitsB_slot (i := i) (by omega) (by rw [badSlot_at hs hx, decide_eq_true h21]; simpa using h29)], E⟩
        ·
          refine St.skip ?_
          refine St.then_n ?_
          refine St.meet hK8 () ⟨rfl, rfl, rfl, rfl, rfl, rfl, trivial⟩ ?_
          · exact ⟨E, k5, k6, k8, by rw [badSlot_at hs hx, decide_eq_true h21]; simpa using h29⟩
      ·
        refine St.weak [(5, _), (6, _), (7, _), (8, _), (14, _), (15, _)] ⟨rfl, rfl, rfl, rfl, rfl, rfl, trivial⟩ ?_
        refine St.draw mixed rfl rfl rfl rfl ?_
        replace E := Ext.trans E (Ext.drew _)
        replace k5 := k5.ext (Ext.drew _)
        replace k6 := k6.ext (Ext.drew _)
        replace k8 := k8.ext (Ext.drew _)
        refine ⟨_, OpOk.r (R.fieldA Tryz.underlying46 rfl Tryz.sizeOf9 rfl rfl rfl) rfl, ?_⟩
        refine ⟨_, OpOk.r (R.load1 Tryz.isAgg9 rfl (k8.cells.at 0 rfl)) rfl, ?_⟩
        refine ⟨_, OpOk.r (Runs.lit (c := false) (R.eqS rfl rfl) (decide_eq_false h21)) rfl, ?_⟩
        refine ⟨_, OpOk.r (R.move rfl) rfl, ?_⟩
        refine ⟨_, OpOk.pass (dg := 22) rfl rfl rfl rfl rfl, ?_⟩
        refine ⟨_, OpOk.pass (dg := 22) rfl rfl rfl rfl rfl, ?_⟩
        refine ⟨_, OpOk.pass (dg := 22) rfl rfl rfl rfl rfl, ?_⟩
        refine ⟨_, OpOk.pass (dg := 22) rfl rfl rfl rfl rfl, ?_⟩
        refine ⟨_, OpOk.pass (dg := 22) rfl rfl rfl rfl rfl, ?_⟩
        refine ⟨_, OpOk.pass (dg := 22) rfl rfl rfl rfl rfl, ?_⟩
        refine ⟨_, OpOk.r (R.pickF rfl rfl) rfl, ?_⟩
        show St _ _ _ _ _
        refine St.weak [(5, _), (6, _), (7, _), (8, _), (14, _), (15, _), (29, _)] ⟨rfl, rfl, rfl, rfl, rfl, rfl, rfl, trivial⟩ ?_
        refine St.then_n ?_
        refine St.go hK16 ?_
        clear hK16
        refine St.condF rfl ?_
        refine St.skip ?_
        refine St.then_n ?_
        refine St.meet hK8 () ⟨rfl, rfl, rfl, rfl, rfl, rfl, trivial⟩ ?_
        · exact ⟨E, k5, k6, k8, by rw [badSlot_at hs hx, decide_eq_false h21]; rfl⟩
    ·
      refine St.exit ?_
      refine St.then_x ?_
      refine St.then_x ?_
      refine St.in_x ?_
      refine St.then_n ?_
      refine St.go hK2 ?_
      clear hK2
      refine St.seq fun K18 hK18 => ?_
      refine St.region ?_
      refine St.r (R.assign rfl) rfl rfl ?_
      refine St.nil ?_
      refine St.weak [(4, _)] ⟨rfl, trivial⟩ ?_
      refine St.then_n ?_
      refine St.go hK18 ?_
      clear hK18
      refine St.ret ?_
      refine St.ret1 Tryz.results134 rfl ?_
      exact ⟨_, rfl, by rw [fitsB_true fun j hj => hall j (by omega)], E⟩
  intro K1 hK1
  refine St.weak [(2, _), (3, _)] ⟨rfl, rfl, trivial⟩ ?_
  refine St.drawT (S := fun k => k ≠ b2 ∧ k ≠ b3 ∧ w0.heap.size ≤ k) (eff := [1, 3, 4, 5, 6, 7]) mixed rfl rfl rfl rfl ?_
  replace E := Ext.trans E (Ext.drew _)
  replace k2 := k2.ext (Ext.drew _)
  replace k3 := k3.ext (Ext.drew _)
  have hp10 := k3.cells
  refine DrawT.pinA 0 rfl rfl Tryz.isAgg48 Tryz.sizeOf48 rfl hp10 rfl ?_
  have hp12 := k2.cells
  refine DrawT.pinA 2 rfl rfl Tryz.isAgg100 Tryz.sizeOf100 rfl hp12 rfl ?_
  have y2a := k2.lt
  have y3a := k3.lt
  try have y6a := k6.lt
  have y2b := k2.lt
  have y3b := k3.lt
  try have y5b := k5.lt
  refine DrawT.many (ns := [1, 4, 5]) rfl rfl rfl ⟨⟨_, _, [2], rfl, (by kernel_rfl), OpC.plain (Eff.call rfl rfl ent63 (mSlots_ret _)) rfl, ?_, ?_⟩, ⟨_, _, [2, 0], rfl, (by kernel_rfl), OpC.plain (Eff.alloc Tryz.zeroValue115) rfl, ?_, ?_⟩, ⟨_, _, [2, 0], rfl, (by kernel_rfl), OpC.plain (Eff.alloc Tryz.zeroValue258) rfl, ?_, ?_⟩, trivial⟩
  · rintro r11 w11 ⟨rfl, e11⟩
    refine ⟨?_, ⟨e11.cells hp12, trivial⟩⟩
    exact Chg.mono e11 fun _ _ h => h.elim
  · rintro r11 w11 ⟨rfl, e11⟩
    replace hp12 := e11.cells hp12
    replace E := Ext.trans E e11
    replace k2 := k2.ext e11
    replace k3 := k3.ext e11
    have y2a := k2.lt
    have y3a := k3.lt
    try have y6a := k6.lt
    have y2b := k2.lt
    have y3b := k3.lt
    try have y5b := k5.lt
    refine DrawT.many (ns := [3, 4, 5]) rfl rfl rfl ⟨⟨_, _, [], rfl, (by kernel_rfl), OpC.plain (Eff.call rfl rfl ent180 (mTerms_ret _)) rfl, ?_, ?_⟩, ⟨_, _, [2], rfl, (by kernel_rfl), OpC.plain (Eff.alloc Tryz.zeroValue115) rfl, ?_, ?_⟩, ⟨_, _, [2], rfl, (by kernel_rfl), OpC.plain (Eff.alloc Tryz.zeroValue258) rfl, ?_, ?_⟩, trivial⟩
    · rintro r13 w13 ⟨rfl, e13⟩
      refine ⟨?_, trivial⟩
      exact Chg.mono e13 fun _ _ h => h.elim
    · rintro r13 w13 ⟨rfl, e13⟩
      replace E := Ext.trans E e13
      replace k2 := k2.ext e13
      replace k3 := k3.ext e13
      have y2a := k2.lt
      have y3a := k3.lt
      try have y6a := k6.lt
      have y2b := k2.lt
      have y3b := k3.lt
      try have y5b := k5.lt
      refine DrawT.many (ns := [4, 5]) rfl rfl rfl ⟨⟨_, _, [], rfl, (by kernel_rfl), OpC.plain (Eff.alloc Tryz.zeroValue115) rfl, ?_, ?_⟩, ⟨_, _, [], rfl, (by kernel_rfl), OpC.plain (Eff.alloc Tryz.zeroValue258) rfl, ?_, ?_⟩, trivial⟩
      · rintro _ _ ⟨_, _, _, _, e, _⟩
        refine ⟨?_, trivial⟩
        exact Chg.mono e (fun _ _ h => h.elim)
      · rintro _ w5 ⟨b5, rfl, hb5, hs5, e5, k5⟩
        have qE5 := E.size
        replace E := Ext.trans E e5
        replace k2 := k2.ext e5
        replace k3 := k3.ext e5
        have y2b := k2.lt
        have y3b := k3.lt
        try have y5b := k5.lt
        refine DrawT.one (n := 5) [] rfl rfl rfl (by kernel_rfl) (OpC.plain (Eff.alloc Tryz.zeroValue258) rfl) ?_ ?_
        · rintro _ _ ⟨_, _, _, _, e, _⟩
          refine ⟨?_, trivial⟩
          exact Chg.mono e (fun _ _ h => h.elim)
        rintro _ w6 ⟨b6, rfl, hb6, hs6, e6, k6⟩
        have qE6 := E.size
        replace E := Ext.trans E e6
        replace k2 := k2.ext e6
        replace k3 := k3.ext e6
        replace k5 := k5.ext e6
        refine DrawT.one (n := 6) [] rfl rfl rfl (by kernel_rfl) (OpC.plain (Eff.store Tryz.sizeOf115 rfl rfl k5 rfl (by simp [Value.cells]) (one_slots p)) rfl) ?_ ?_
        · rintro _ _ ⟨_, _, g, _⟩
          refine ⟨?_, trivial⟩
          exact Chg.mono g fun k _ h => by subst h; omega
        rintro _ ws0 ⟨rfl, ks0, gs0, zs0⟩
        replace E := Ext.then E gs0 (by intro j hj; omega)
        replace k2 := k2.chg gs0 (by omega)
        replace k3 := k3.chg gs0 (by omega)
        replace k6 := k6.chg gs0 (by omega)
        clear k5; have k5 := ks0; clear ks0
        replace k5 : Blk ws0 b5 115 ((slotsOf p).flatMap encSlot) := k5
        refine DrawT.one (n := 7) [] rfl rfl rfl (by kernel_rfl) (OpC.plain (Eff.store Tryz.sizeOf258 rfl rfl k6 rfl (by simp [Value.cells]) (one_terms t)) rfl) ?_ ?_
        · rintro _ _ ⟨_, _, g, _⟩
          refine ⟨?_, trivial⟩
          exact Chg.mono g fun k _ h => by subst h; omega
        rintro _ ws1 ⟨rfl, ks1, gs1, zs1⟩
        replace E := Ext.then E gs1 (by intro j hj; omega)
        replace k2 := k2.chg gs1 (by omega)
        replace k3 := k3.chg gs1 (by omega)
        replace k5 := k5.chg gs1 (by omega)
        clear k6; have k6 := ks1; clear ks1
        replace k6 : Blk ws1 b6 258 ((termsOf t).flatMap encTerm) := k6
        refine DrawT.fin rfl ?_
        show St _ _ _ _ _
        refine St.weak [(5, _), (6, _)] ⟨rfl, rfl, trivial⟩ ?_
        refine St.then_n ?_
        refine St.meet hK1 (b5, b6) ⟨rfl, rfl, trivial⟩ ?_
        · try dsimp only
          exact ⟨E, k5, k6⟩
      · rintro _ _ ⟨_, _, _, _, e, _⟩
        refine ⟨?_, trivial⟩
        exact Chg.mono e (fun _ _ h => h.elim)
      · rintro _ w6 ⟨b6, rfl, hb6, hs6, e6, k6⟩
        have qE6 := E.size
        replace E := Ext.trans E e6
        replace k2 := k2.ext e6
        replace k3 := k3.ext e6
        have y2a := k2.lt
        have y3a := k3.lt
        try have y6a := k6.lt
        refine DrawT.one (n := 4) [] rfl rfl rfl (by kernel_rfl) (OpC.plain (Eff.alloc Tryz.zeroValue115) rfl) ?_ ?_
        · rintro _ _ ⟨_, _, _, _, e, _⟩
          refine ⟨?_, trivial⟩
          exact Chg.mono e (fun _ _ h => h.elim)
        rintro _ w5 ⟨b5, rfl, hb5, hs5, e5, k5⟩
        have qE5 := E.size
        replace E := Ext.trans E e5
        replace k2 := k2.ext e5
        replace k3 := k3.ext e5
        replace k6 := k6.ext e5
        refine DrawT.one (n := 6) [] rfl rfl rfl (by kernel_rfl) (OpC.plain (Eff.store Tryz.sizeOf115 rfl rfl k5 rfl (by simp [Value.cells]) (one_slots p)) rfl) ?_ ?_
        · rintro _ _ ⟨_, _, g, _⟩
          refine ⟨?_, trivial⟩
          exact Chg.mono g fun k _ h => by subst h; omega
        rintro _ ws0 ⟨rfl, ks0, gs0, zs0⟩
        replace E := Ext.then E gs0 (by intro j hj; omega)
        replace k2 := k2.chg gs0 (by omega)
        replace k3 := k3.chg gs0 (by omega)
        replace k6 := k6.chg gs0 (by omega)
        clear k5; have k5 := ks0; clear ks0
        replace k5 : Blk ws0 b5 115 ((slotsOf p).flatMap encSlot) := k5
        refine DrawT.one (n := 7) [] rfl rfl rfl (by kernel_rfl) (OpC.plain (Eff.store Tryz.sizeOf258 rfl rfl k6 rfl (by simp [Value.cells]) (one_terms t)) rfl) ?_ ?_
        · rintro _ _ ⟨_, _, g, _⟩
          refine ⟨?_, trivial⟩
          exact Chg.mono g fun k _ h => by subst h; omega
        rintro _ ws1 ⟨rfl, ks1, gs1, zs1⟩
        replace E := Ext.then E gs1 (by intro j hj; omega)
        replace k2 := k2.chg gs1 (by omega)
        replace k3 := k3.chg gs1 (by omega)
        replace k5 := k5.chg gs1 (by omega)
        clear k6; have k6 := ks1; clear ks1
        replace k6 : Blk ws1 b6 258 ((termsOf t).flatMap encTerm) := k6
        refine DrawT.fin rfl ?_
        show St _ _ _ _ _
        refine St.weak [(5, _), (6, _)] ⟨rfl, rfl, trivial⟩ ?_
        refine St.then_n ?_
        refine St.meet hK1 (b5, b6) ⟨rfl, rfl, trivial⟩ ?_
        · try dsimp only
          exact ⟨E, k5, k6⟩
    · rintro _ _ ⟨_, _, _, _, e, _⟩
      refine ⟨?_, ⟨e.cells hp12, trivial⟩⟩
      exact Chg.mono e (fun _ _ h => h.elim)
    · rintro _ w5 ⟨b5, rfl, hb5, hs5, e5, k5⟩
      replace hp12 := e5.cells hp12
      have qE5 := E.size
      replace E := Ext.trans E e5
      replace k2 := k2.ext e5
      replace k3 := k3.ext e5
      have y2b := k2.lt
      have y3b := k3.lt
      try have y5b := k5.lt
      refine DrawT.many (ns := [3, 5]) rfl rfl rfl ⟨⟨_, _, [], rfl, (by kernel_rfl), OpC.plain (Eff.call rfl rfl ent180 (mTerms_ret _)) rfl, ?_, ?_⟩, ⟨_, _, [2], rfl, (by kernel_rfl), OpC.plain (Eff.alloc Tryz.zeroValue258) rfl, ?_, ?_⟩, trivial⟩
      · rintro r13 w13 ⟨rfl, e13⟩
        refine ⟨?_, trivial⟩
        exact Chg.mono e13 fun _ _ h => h.elim
      · rintro r13 w13 ⟨rfl, e13⟩
        replace E := Ext.trans E e13
        replace k2 := k2.ext e13
        replace k3 := k3.ext e13
        replace k5 := k5.ext e13
        have y2b := k2.lt
        have y3b := k3.lt
        try have y5b := k5.lt
        refine DrawT.one (n := 5) [] rfl rfl rfl (by kernel_rfl) (OpC.plain (Eff.alloc Tryz.zeroValue258) rfl) ?_ ?_
        · rintro _ _ ⟨_, _, _, _, e, _⟩
          refine ⟨?_, trivial⟩
          exact Chg.mono e (fun _ _ h => h.elim)
        rintro _ w6 ⟨b6, rfl, hb6, hs6, e6, k6⟩
        have qE6 := E.size
        replace E := Ext.trans E e6
        replace k2 := k2.ext e6
        replace k3 := k3.ext e6
        replace k5 := k5.ext e6
        refine DrawT.one (n := 6) [] rfl rfl rfl (by kernel_rfl) (OpC.plain (Eff.store Tryz.sizeOf115 rfl rfl k5 rfl (by simp [Value.cells]) (one_slots p)) rfl) ?_ ?_
        · rintro _ _ ⟨_, _, g, _⟩
          refine ⟨?_, trivial⟩
          exact Chg.mono g fun k _ h => by subst h; omega
        rintro _ ws0 ⟨rfl, ks0, gs0, zs0⟩
        replace E := Ext.then E gs0 (by intro j hj; omega)
        replace k2 := k2.chg gs0 (by omega)
        replace k3 := k3.chg gs0 (by omega)
        replace k6 := k6.chg gs0 (by omega)
        clear k5; have k5 := ks0; clear ks0
        replace k5 : Blk ws0 b5 115 ((slotsOf p).flatMap encSlot) := k5
        refine DrawT.one (n := 7) [] rfl rfl rfl (by kernel_rfl) (OpC.plain (Eff.store Tryz.sizeOf258 rfl rfl k6 rfl (by simp [Value.cells]) (one_terms t)) rfl) ?_ ?_
        · rintro _ _ ⟨_, _, g, _⟩
          refine ⟨?_, trivial⟩
          exact Chg.mono g fun k _ h => by subst h; omega
        rintro _ ws1 ⟨rfl, ks1, gs1, zs1⟩
        replace E := Ext.then E gs1 (by intro j hj; omega)
        replace k2 := k2.chg gs1 (by omega)
        replace k3 := k3.chg gs1 (by omega)
        replace k5 := k5.chg gs1 (by omega)
        clear k6; have k6 := ks1; clear ks1
        replace k6 : Blk ws1 b6 258 ((termsOf t).flatMap encTerm) := k6
        refine DrawT.fin rfl ?_
        show St _ _ _ _ _
        refine St.weak [(5, _), (6, _)] ⟨rfl, rfl, trivial⟩ ?_
        refine St.then_n ?_
        refine St.meet hK1 (b5, b6) ⟨rfl, rfl, trivial⟩ ?_
        · try dsimp only
          exact ⟨E, k5, k6⟩
      · rintro _ _ ⟨_, _, _, _, e, _⟩
        refine ⟨?_, ⟨e.cells hp12, trivial⟩⟩
        exact Chg.mono e (fun _ _ h => h.elim)
      · rintro _ w6 ⟨b6, rfl, hb6, hs6, e6, k6⟩
        replace hp12 := e6.cells hp12
        have qE6 := E.size
        replace E := Ext.trans E e6
        replace k2 := k2.ext e6
        replace k3 := k3.ext e6
        replace k5 := k5.ext e6
        refine DrawT.one (n := 3) [] rfl rfl rfl (by kernel_rfl) (OpC.plain (Eff.call rfl rfl ent180 (mTerms_ret _)) rfl) ?_ ?_
        · rintro r13 w13 ⟨rfl, e13⟩
          refine ⟨?_, trivial⟩
          exact Chg.mono e13 fun _ _ h => h.elim
        rintro r13 w13 ⟨rfl, e13⟩
        replace E := Ext.trans E e13
        replace k2 := k2.ext e13
        replace k3 := k3.ext e13
        replace k5 := k5.ext e13
        replace k6 := k6.ext e13
        refine DrawT.one (n := 6) [] rfl rfl rfl (by kernel_rfl) (OpC.plain (Eff.store Tryz.sizeOf115 rfl rfl k5 rfl (by simp [Value.cells]) (one_slots p)) rfl) ?_ ?_
        · rintro _ _ ⟨_, _, g, _⟩
          refine ⟨?_, trivial⟩
          exact Chg.mono g fun k _ h => by subst h; omega
        rintro _ ws0 ⟨rfl, ks0, gs0, zs0⟩
        replace E := Ext.then E gs0 (by intro j hj; omega)
        replace k2 := k2.chg gs0 (by omega)
        replace k3 := k3.chg gs0 (by omega)
        replace k6 := k6.chg gs0 (by omega)
        clear k5; have k5 := ks0; clear ks0
        replace k5 : Blk ws0 b5 115 ((slotsOf p).flatMap encSlot) := k5
        refine DrawT.one (n := 7) [] rfl rfl rfl (by kernel_rfl) (OpC.plain (Eff.store Tryz.sizeOf258 rfl rfl k6 rfl (by simp [Value.cells]) (one_terms t)) rfl) ?_ ?_
        · rintro _ _ ⟨_, _, g, _⟩
          refine ⟨?_, trivial⟩
          exact Chg.mono g fun k _ h => by subst h; omega
        rintro _ ws1 ⟨rfl, ks1, gs1, zs1⟩
        replace E := Ext.then E gs1 (by intro j hj; omega)
        replace k2 := k2.chg gs1 (by omega)
        replace k3 := k3.chg gs1 (by omega)
        replace k5 := k5.chg gs1 (by omega)
        clear k6; have k6 := ks1; clear ks1
        replace k6 : Blk ws1 b6 258 ((termsOf t).flatMap encTerm) := k6
        refine DrawT.fin rfl ?_
        show St _ _ _ _ _
        refine St.weak [(5, _), (6, _)] ⟨rfl, rfl, trivial⟩ ?_
        refine St.then_n ?_
        refine St.meet hK1 (b5, b6) ⟨rfl, rfl, trivial⟩ ?_
        · try dsimp only
          exact ⟨E, k5, k6⟩
    · rintro _ _ ⟨_, _, _, _, e, _⟩
      refine ⟨?_, ⟨e.cells hp12, trivial⟩⟩
      exact Chg.mono e (fun _ _ h => h.elim)
    · rintro _ w6 ⟨b6, rfl, hb6, hs6, e6, k6⟩
      replace hp12 := e6.cells hp12
      have qE6 := E.size
      replace E := Ext.trans E e6
      replace k2 := k2.ext e6
      replace k3 := k3.ext e6
      have y2a := k2.lt
      have y3a := k3.lt
      try have y6a := k6.lt
      refine DrawT.many (ns := [3, 4]) rfl rfl rfl ⟨⟨_, _, [], rfl, (by kernel_rfl), OpC.plain (Eff.call rfl rfl ent180 (mTerms_ret _)) rfl, ?_, ?_⟩, ⟨_, _, [2], rfl, (by kernel_rfl), OpC.plain (Eff.alloc Tryz.zeroValue115) rfl, ?_, ?_⟩, trivial⟩
      · rintro r13 w13 ⟨rfl, e13⟩
        refine ⟨?_, trivial⟩
        exact Chg.mono e13 fun _ _ h => h.elim
      · rintro r13 w13 ⟨rfl, e13⟩
        replace E := Ext.trans E e13
        replace k2 := k2.ext e13
        replace k3 := k3.ext e13
        replace k6 := k6.ext e13
        have y2a := k2.lt
        have y3a := k3.lt
        try have y6a := k6.lt
        refine DrawT.one (n := 4) [] rfl rfl rfl (by kernel_rfl) (OpC.plain (Eff.alloc Tryz.zeroValue115) rfl) ?_ ?_
        · rintro _ _ ⟨_, _, _, _, e, _⟩
          refine ⟨?_, trivial⟩
          exact Chg.mono e (fun _ _ h => h.elim)
        rintro _ w5 ⟨b5, rfl, hb5, hs5, e5, k5⟩
        have qE5 := E.size
        replace E := Ext.trans E e5
        replace k2 := k2.ext e5
        replace k3 := k3.ext e5
        replace k6 := k6.ext e5
        refine DrawT.one (n := 6) [] rfl rfl rfl (by kernel_rfl) (OpC.plain (Eff.store Tryz.sizeOf115 rfl rfl k5 rfl (by simp [Value.cells]) (one_slots p)) rfl) ?_ ?_
        · rintro _ _ ⟨_, _, g, _⟩
          refine ⟨?_, trivial⟩
          exact Chg.mono g fun k _ h => by subst h; omega
        rintro _ ws0 ⟨rfl, ks0, gs0, zs0⟩
        replace E := Ext.then E gs0 (by intro j hj; omega)
        replace k2 := k2.chg gs0 (by omega)
        replace k3 := k3.chg gs0 (by omega)
        replace k6 := k6.chg gs0 (by omega)
        clear k5; have k5 := ks0; clear ks0
        replace k5 : Blk ws0 b5 115 ((slotsOf p).flatMap encSlot) := k5
        refine DrawT.one (n := 7) [] rfl rfl rfl (by kernel_rfl) (OpC.plain (Eff.store Tryz.sizeOf258 rfl rfl k6 rfl (by simp [Value.cells]) (one_terms t)) rfl) ?_ ?_
        · rintro _ _ ⟨_, _, g, _⟩
          refine ⟨?_, trivial⟩
          exact Chg.mono g fun k _ h => by subst h; omega
        rintro _ ws1 ⟨rfl, ks1, gs1, zs1⟩
        replace E := Ext.then E gs1 (by intro j hj; omega)
        replace k2 := k2.chg gs1 (by omega)
        replace k3 := k3.chg gs1 (by omega)
        replace k5 := k5.chg gs1 (by omega)
        clear k6; have k6 := ks1; clear ks1
        replace k6 : Blk ws1 b6 258 ((termsOf t).flatMap encTerm) := k6
        refine DrawT.fin rfl ?_
        show St _ _ _ _ _
        refine St.weak [(5, _), (6, _)] ⟨rfl, rfl, trivial⟩ ?_
        refine St.then_n ?_
        refine St.meet hK1 (b5, b6) ⟨rfl, rfl, trivial⟩ ?_
        · try dsimp only
          exact ⟨E, k5, k6⟩
      · rintro _ _ ⟨_, _, _, _, e, _⟩
        refine ⟨?_, ⟨e.cells hp12, trivial⟩⟩
        exact Chg.mono e (fun _ _ h => h.elim)
      · rintro _ w5 ⟨b5, rfl, hb5, hs5, e5, k5⟩
        replace hp12 := e5.cells hp12
        have qE5 := E.size
        replace E := Ext.trans E e5
        replace k2 := k2.ext e5
        replace k3 := k3.ext e5
        replace k6 := k6.ext e5
        refine DrawT.one (n := 3) [] rfl rfl rfl (by kernel_rfl) (OpC.plain (Eff.call rfl rfl ent180 (mTerms_ret _)) rfl) ?_ ?_
        · rintro r13 w13 ⟨rfl, e13⟩
          refine ⟨?_, trivial⟩
          exact Chg.mono e13 fun _ _ h => h.elim
        rintro r13 w13 ⟨rfl, e13⟩
        replace E := Ext.trans E e13
        replace k2 := k2.ext e13
        replace k3 := k3.ext e13
        replace k6 := k6.ext e13
        replace k5 := k5.ext e13
        refine DrawT.one (n := 6) [] rfl rfl rfl (by kernel_rfl) (OpC.plain (Eff.store Tryz.sizeOf115 rfl rfl k5 rfl (by simp [Value.cells]) (one_slots p)) rfl) ?_ ?_
        · rintro _ _ ⟨_, _, g, _⟩
          refine ⟨?_, trivial⟩
          exact Chg.mono g fun k _ h => by subst h; omega
        rintro _ ws0 ⟨rfl, ks0, gs0, zs0⟩
        replace E := Ext.then E gs0 (by intro j hj; omega)
        replace k2 := k2.chg gs0 (by omega)
        replace k3 := k3.chg gs0 (by omega)
        replace k6 := k6.chg gs0 (by omega)
        clear k5; have k5 := ks0; clear ks0
        replace k5 : Blk ws0 b5 115 ((slotsOf p).flatMap encSlot) := k5
        refine DrawT.one (n := 7) [] rfl rfl rfl (by kernel_rfl) (OpC.plain (Eff.store Tryz.sizeOf258 rfl rfl k6 rfl (by simp [Value.cells]) (one_terms t)) rfl) ?_ ?_
        · rintro _ _ ⟨_, _, g, _⟩
          refine ⟨?_, trivial⟩
          exact Chg.mono g fun k _ h => by subst h; omega
        rintro _ ws1 ⟨rfl, ks1, gs1, zs1⟩
        replace E := Ext.then E gs1 (by intro j hj; omega)
        replace k2 := k2.chg gs1 (by omega)
        replace k3 := k3.chg gs1 (by omega)
        replace k5 := k5.chg gs1 (by omega)
        clear k6; have k6 := ks1; clear ks1
        replace k6 : Blk ws1 b6 258 ((termsOf t).flatMap encTerm) := k6
        refine DrawT.fin rfl ?_
        show St _ _ _ _ _
        refine St.weak [(5, _), (6, _)] ⟨rfl, rfl, trivial⟩ ?_
        refine St.then_n ?_
        refine St.meet hK1 (b5, b6) ⟨rfl, rfl, trivial⟩ ?_
        · try dsimp only
          exact ⟨E, k5, k6⟩
  · rintro _ _ ⟨_, _, _, _, e, _⟩
    refine ⟨?_, ⟨e.cells hp12, e.cells hp10, trivial⟩⟩
    exact Chg.mono e (fun _ _ h => h.elim)
  · rintro _ w5 ⟨b5, rfl, hb5, hs5, e5, k5⟩
    replace hp12 := e5.cells hp12
    replace hp10 := e5.cells hp10
    have qE5 := E.size
    replace E := Ext.trans E e5
    replace k2 := k2.ext e5
    replace k3 := k3.ext e5
    have y2b := k2.lt
    have y3b := k3.lt
    try have y5b := k5.lt
    refine DrawT.many (ns := [1, 5]) rfl rfl rfl ⟨⟨_, _, [2], rfl, (by kernel_rfl), OpC.plain (Eff.call rfl rfl ent63 (mSlots_ret _)) rfl, ?_, ?_⟩, ⟨_, _, [2, 0], rfl, (by kernel_rfl), OpC.plain (Eff.alloc Tryz.zeroValue258) rfl, ?_, ?_⟩, trivial⟩
    · rintro r11 w11 ⟨rfl, e11⟩
      refine ⟨?_, ⟨e11.cells hp12, trivial⟩⟩
      exact Chg.mono e11 fun _ _ h => h.elim
    · rintro r11 w11 ⟨rfl, e11⟩
      replace hp12 := e11.cells hp12
      replace E := Ext.trans E e11
      replace k2 := k2.ext e11
      replace k3 := k3.ext e11
      replace k5 := k5.ext e11
      have y2b := k2.lt
      have y3b := k3.lt
      try have y5b := k5.lt
      refine DrawT.many (ns := [3, 5]) rfl rfl rfl ⟨⟨_, _, [], rfl, (by kernel_rfl), OpC.plain (Eff.call rfl rfl ent180 (mTerms_ret _)) rfl, ?_, ?_⟩, ⟨_, _, [2], rfl, (by kernel_rfl), OpC.plain (Eff.alloc Tryz.zeroValue258) rfl, ?_, ?_⟩, trivial⟩
      · rintro r13 w13 ⟨rfl, e13⟩
        refine ⟨?_, trivial⟩
        exact Chg.mono e13 fun _ _ h => h.elim
      · rintro r13 w13 ⟨rfl, e13⟩
        replace E := Ext.trans E e13
        replace k2 := k2.ext e13
        replace k3 := k3.ext e13
        replace k5 := k5.ext e13
        have y2b := k2.lt
        have y3b := k3.lt
        try have y5b := k5.lt
        refine DrawT.one (n := 5) [] rfl rfl rfl (by kernel_rfl) (OpC.plain (Eff.alloc Tryz.zeroValue258) rfl) ?_ ?_
        · rintro _ _ ⟨_, _, _, _, e, _⟩
          refine ⟨?_, trivial⟩
          exact Chg.mono e (fun _ _ h => h.elim)
        rintro _ w6 ⟨b6, rfl, hb6, hs6, e6, k6⟩
        have qE6 := E.size
        replace E := Ext.trans E e6
        replace k2 := k2.ext e6
        replace k3 := k3.ext e6
        replace k5 := k5.ext e6
        refine DrawT.one (n := 6) [] rfl rfl rfl (by kernel_rfl) (OpC.plain (Eff.store Tryz.sizeOf115 rfl rfl k5 rfl (by simp [Value.cells]) (one_slots p)) rfl) ?_ ?_
        · rintro _ _ ⟨_, _, g, _⟩
          refine ⟨?_, trivial⟩
          exact Chg.mono g fun k _ h => by subst h; omega
        rintro _ ws0 ⟨rfl, ks0, gs0, zs0⟩
        replace E := Ext.then E gs0 (by intro j hj; omega)
        replace k2 := k2.chg gs0 (by omega)
        replace k3 := k3.chg gs0 (by omega)
        replace k6 := k6.chg gs0 (by omega)
        clear k5; have k5 := ks0; clear ks0
        replace k5 : Blk ws0 b5 115 ((slotsOf p).flatMap encSlot) := k5
        refine DrawT.one (n := 7) [] rfl rfl rfl (by kernel_rfl) (OpC.plain (Eff.store Tryz.sizeOf258 rfl rfl k6 rfl (by simp [Value.cells]) (one_terms t)) rfl) ?_ ?_
        · rintro _ _ ⟨_, _, g, _⟩
          refine ⟨?_, trivial⟩
          exact Chg.mono g fun k _ h => by subst h; omega
        rintro _ ws1 ⟨rfl, ks1, gs1, zs1⟩
        replace E := Ext.then E gs1 (by intro j hj; omega)
        replace k2 := k2.chg gs1 (by omega)
        replace k3 := k3.chg gs1 (by omega)
        replace k5 := k5.chg gs1 (by omega)
        clear k6; have k6 := ks1; clear ks1
        replace k6 : Blk ws1 b6 258 ((termsOf t).flatMap encTerm) := k6
        refine DrawT.fin rfl ?_
        show St _ _ _ _ _
        refine St.weak [(5, _), (6, _)] ⟨rfl, rfl, trivial⟩ ?_
        refine St.then_n ?_
        refine St.meet hK1 (b5, b6) ⟨rfl, rfl, trivial⟩ ?_
        · try dsimp only
          exact ⟨E, k5, k6⟩
      · rintro _ _ ⟨_, _, _, _, e, _⟩
        refine ⟨?_, ⟨e.cells hp12, trivial⟩⟩
        exact Chg.mono e (fun _ _ h => h.elim)
      · rintro _ w6 ⟨b6, rfl, hb6, hs6, e6, k6⟩
        replace hp12 := e6.cells hp12
        have qE6 := E.size
        replace E := Ext.trans E e6
        replace k2 := k2.ext e6
        replace k3 := k3.ext e6
        replace k5 := k5.ext e6
        refine DrawT.one (n := 3) [] rfl rfl rfl (by kernel_rfl) (OpC.plain (Eff.call rfl rfl ent180 (mTerms_ret _)) rfl) ?_ ?_
        · rintro r13 w13 ⟨rfl, e13⟩
          refine ⟨?_, trivial⟩
          exact Chg.mono e13 fun _ _ h => h.elim
        rintro r13 w13 ⟨rfl, e13⟩
        replace E := Ext.trans E e13
        replace k2 := k2.ext e13
        replace k3 := k3.ext e13
        replace k5 := k5.ext e13
        replace k6 := k6.ext e13
        refine DrawT.one (n := 6) [] rfl rfl rfl (by kernel_rfl) (OpC.plain (Eff.store Tryz.sizeOf115 rfl rfl k5 rfl (by simp [Value.cells]) (one_slots p)) rfl) ?_ ?_
        · rintro _ _ ⟨_, _, g, _⟩
          refine ⟨?_, trivial⟩
          exact Chg.mono g fun k _ h => by subst h; omega
        rintro _ ws0 ⟨rfl, ks0, gs0, zs0⟩
        replace E := Ext.then E gs0 (by intro j hj; omega)
        replace k2 := k2.chg gs0 (by omega)
        replace k3 := k3.chg gs0 (by omega)
        replace k6 := k6.chg gs0 (by omega)
        clear k5; have k5 := ks0; clear ks0
        replace k5 : Blk ws0 b5 115 ((slotsOf p).flatMap encSlot) := k5
        refine DrawT.one (n := 7) [] rfl rfl rfl (by kernel_rfl) (OpC.plain (Eff.store Tryz.sizeOf258 rfl rfl k6 rfl (by simp [Value.cells]) (one_terms t)) rfl) ?_ ?_
        · rintro _ _ ⟨_, _, g, _⟩
          refine ⟨?_, trivial⟩
          exact Chg.mono g fun k _ h => by subst h; omega
        rintro _ ws1 ⟨rfl, ks1, gs1, zs1⟩
        replace E := Ext.then E gs1 (by intro j hj; omega)
        replace k2 := k2.chg gs1 (by omega)
        replace k3 := k3.chg gs1 (by omega)
        replace k5 := k5.chg gs1 (by omega)
        clear k6; have k6 := ks1; clear ks1
        replace k6 : Blk ws1 b6 258 ((termsOf t).flatMap encTerm) := k6
        refine DrawT.fin rfl ?_
        show St _ _ _ _ _
        refine St.weak [(5, _), (6, _)] ⟨rfl, rfl, trivial⟩ ?_
        refine St.then_n ?_
        refine St.meet hK1 (b5, b6) ⟨rfl, rfl, trivial⟩ ?_
        · try dsimp only
          exact ⟨E, k5, k6⟩
    · rintro _ _ ⟨_, _, _, _, e, _⟩
      refine ⟨?_, ⟨e.cells hp12, e.cells hp10, trivial⟩⟩
      exact Chg.mono e (fun _ _ h => h.elim)
    · rintro _ w6 ⟨b6, rfl, hb6, hs6, e6, k6⟩
      replace hp12 := e6.cells hp12
      replace hp10 := e6.cells hp10
      have qE6 := E.size
      replace E := Ext.trans E e6
      replace k2 := k2.ext e6
      replace k3 := k3.ext e6
      replace k5 := k5.ext e6
      refine DrawT.one (n := 1) [2] rfl rfl rfl (by kernel_rfl) (OpC.plain (Eff.call rfl rfl ent63 (mSlots_ret _)) rfl) ?_ ?_
      · rintro r11 w11 ⟨rfl, e11⟩
        refine ⟨?_, ⟨e11.cells hp12, trivial⟩⟩
        exact Chg.mono e11 fun _ _ h => h.elim
      rintro r11 w11 ⟨rfl, e11⟩
      replace hp12 := e11.cells hp12
      replace E := Ext.trans E e11
      replace k2 := k2.ext e11
      replace k3 := k3.ext e11
      replace k5 := k5.ext e11
      replace k6 := k6.ext e11
      refine DrawT.one (n := 3) [] rfl rfl rfl (by kernel_rfl) (OpC.plain (Eff.call rfl rfl ent180 (mTerms_ret _)) rfl) ?_ ?_
      · rintro r13 w13 ⟨rfl, e13⟩
        refine ⟨?_, trivial⟩
        exact Chg.mono e13 fun _ _ h => h.elim
      rintro r13 w13 ⟨rfl, e13⟩
      replace E := Ext.trans E e13
      replace k2 := k2.ext e13
      replace k3 := k3.ext e13
      replace k5 := k5.ext e13
      replace k6 := k6.ext e13
      refine DrawT.one (n := 6) [] rfl rfl rfl (by kernel_rfl) (OpC.plain (Eff.store Tryz.sizeOf115 rfl rfl k5 rfl (by simp [Value.cells]) (one_slots p)) rfl) ?_ ?_
      · rintro _ _ ⟨_, _, g, _⟩
        refine ⟨?_, trivial⟩
        exact Chg.mono g fun k _ h => by subst h; omega
      rintro _ ws0 ⟨rfl, ks0, gs0, zs0⟩
      replace E := Ext.then E gs0 (by intro j hj; omega)
      replace k2 := k2.chg gs0 (by omega)
      replace k3 := k3.chg gs0 (by omega)
      replace k6 := k6.chg gs0 (by omega)
      clear k5; have k5 := ks0; clear ks0
      replace k5 : Blk ws0 b5 115 ((slotsOf p).flatMap encSlot) := k5
      refine DrawT.one (n := 7) [] rfl rfl rfl (by kernel_rfl) (OpC.plain (Eff.store Tryz.sizeOf258 rfl rfl k6 rfl (by simp [Value.cells]) (one_terms t)) rfl) ?_ ?_
      · rintro _ _ ⟨_, _, g, _⟩
        refine ⟨?_, trivial⟩
        exact Chg.mono g fun k _ h => by subst h; omega
      rintro _ ws1 ⟨rfl, ks1, gs1, zs1⟩
      replace E := Ext.then E gs1 (by intro j hj; omega)
      replace k2 := k2.chg gs1 (by omega)
      replace k3 := k3.chg gs1 (by omega)
      replace k5 := k5.chg gs1 (by omega)
      clear k6; have k6 := ks1; clear ks1
      replace k6 : Blk ws1 b6 258 ((termsOf t).flatMap encTerm) := k6
      refine DrawT.fin rfl ?_
      show St _ _ _ _ _
      refine St.weak [(5, _), (6, _)] ⟨rfl, rfl, trivial⟩ ?_
      refine St.then_n ?_
      refine St.meet hK1 (b5, b6) ⟨rfl, rfl, trivial⟩ ?_
      · try dsimp only
        exact ⟨E, k5, k6⟩
  · rintro _ _ ⟨_, _, _, _, e, _⟩
    refine ⟨?_, ⟨e.cells hp12, e.cells hp10, trivial⟩⟩
    exact Chg.mono e (fun _ _ h => h.elim)
  · rintro _ w6 ⟨b6, rfl, hb6, hs6, e6, k6⟩
    replace hp12 := e6.cells hp12
    replace hp10 := e6.cells hp10
    have qE6 := E.size
    replace E := Ext.trans E e6
    replace k2 := k2.ext e6
    replace k3 := k3.ext e6
    have y2a := k2.lt
    have y3a := k3.lt
    try have y6a := k6.lt
    refine DrawT.many (ns := [1, 4]) rfl rfl rfl ⟨⟨_, _, [2], rfl, (by kernel_rfl), OpC.plain (Eff.call rfl rfl ent63 (mSlots_ret _)) rfl, ?_, ?_⟩, ⟨_, _, [2, 0], rfl, (by kernel_rfl), OpC.plain (Eff.alloc Tryz.zeroValue115) rfl, ?_, ?_⟩, trivial⟩
    · rintro r11 w11 ⟨rfl, e11⟩
      refine ⟨?_, ⟨e11.cells hp12, trivial⟩⟩
      exact Chg.mono e11 fun _ _ h => h.elim
    · rintro r11 w11 ⟨rfl, e11⟩
      replace hp12 := e11.cells hp12
      replace E := Ext.trans E e11
      replace k2 := k2.ext e11
      replace k3 := k3.ext e11
      replace k6 := k6.ext e11
      have y2a := k2.lt
      have y3a := k3.lt
      try have y6a := k6.lt
      refine DrawT.many (ns := [3, 4]) rfl rfl rfl ⟨⟨_, _, [], rfl, (by kernel_rfl), OpC.plain (Eff.call rfl rfl ent180 (mTerms_ret _)) rfl, ?_, ?_⟩, ⟨_, _, [2], rfl, (by kernel_rfl), OpC.plain (Eff.alloc Tryz.zeroValue115) rfl, ?_, ?_⟩, trivial⟩
      · rintro r13 w13 ⟨rfl, e13⟩
        refine ⟨?_, trivial⟩
        exact Chg.mono e13 fun _ _ h => h.elim
      · rintro r13 w13 ⟨rfl, e13⟩
        replace E := Ext.trans E e13
        replace k2 := k2.ext e13
        replace k3 := k3.ext e13
        replace k6 := k6.ext e13
        have y2a := k2.lt
        have y3a := k3.lt
        try have y6a := k6.lt
        refine DrawT.one (n := 4) [] rfl rfl rfl (by kernel_rfl) (OpC.plain (Eff.alloc Tryz.zeroValue115) rfl) ?_ ?_
        · rintro _ _ ⟨_, _, _, _, e, _⟩
          refine ⟨?_, trivial⟩
          exact Chg.mono e (fun _ _ h => h.elim)
        rintro _ w5 ⟨b5, rfl, hb5, hs5, e5, k5⟩
        have qE5 := E.size
        replace E := Ext.trans E e5
        replace k2 := k2.ext e5
        replace k3 := k3.ext e5
        replace k6 := k6.ext e5
        refine DrawT.one (n := 6) [] rfl rfl rfl (by kernel_rfl) (OpC.plain (Eff.store Tryz.sizeOf115 rfl rfl k5 rfl (by simp [Value.cells]) (one_slots p)) rfl) ?_ ?_
        · rintro _ _ ⟨_, _, g, _⟩
          refine ⟨?_, trivial⟩
          exact Chg.mono g fun k _ h => by subst h; omega
        rintro _ ws0 ⟨rfl, ks0, gs0, zs0⟩
        replace E := Ext.then E gs0 (by intro j hj; omega)
        replace k2 := k2.chg gs0 (by omega)
        replace k3 := k3.chg gs0 (by omega)
        replace k6 := k6.chg gs0 (by omega)
        clear k5; have k5 := ks0; clear ks0
        replace k5 : Blk ws0 b5 115 ((slotsOf p).flatMap encSlot) := k5
        refine DrawT.one (n := 7) [] rfl rfl rfl (by kernel_rfl) (OpC.plain (Eff.store Tryz.sizeOf258 rfl rfl k6 rfl (by simp [Value.cells]) (one_terms t)) rfl) ?_ ?_
        · rintro _ _ ⟨_, _, g, _⟩
          refine ⟨?_, trivial⟩
          exact Chg.mono g fun k _ h => by subst h; omega
        rintro _ ws1 ⟨rfl, ks1, gs1, zs1⟩
        replace E := Ext.then E gs1 (by intro j hj; omega)
        replace k2 := k2.chg gs1 (by omega)
        replace k3 := k3.chg gs1 (by omega)
        replace k5 := k5.chg gs1 (by omega)
        clear k6; have k6 := ks1; clear ks1
        replace k6 : Blk ws1 b6 258 ((termsOf t).flatMap encTerm) := k6
        refine DrawT.fin rfl ?_
        show St _ _ _ _ _
        refine St.weak [(5, _), (6, _)] ⟨rfl, rfl, trivial⟩ ?_
        refine St.then_n ?_
        refine St.meet hK1 (b5, b6) ⟨rfl, rfl, trivial⟩ ?_
        · try dsimp only
          exact ⟨E, k5, k6⟩
      · rintro _ _ ⟨_, _, _, _, e, _⟩
        refine ⟨?_, ⟨e.cells hp12, trivial⟩⟩
        exact Chg.mono e (fun _ _ h => h.elim)
      · rintro _ w5 ⟨b5, rfl, hb5, hs5, e5, k5⟩
        replace hp12 := e5.cells hp12
        have qE5 := E.size
        replace E := Ext.trans E e5
        replace k2 := k2.ext e5
        replace k3 := k3.ext e5
        replace k6 := k6.ext e5
        refine DrawT.one (n := 3) [] rfl rfl rfl (by kernel_rfl) (OpC.plain (Eff.call rfl rfl ent180 (mTerms_ret _)) rfl) ?_ ?_
        · rintro r13 w13 ⟨rfl, e13⟩
          refine ⟨?_, trivial⟩
          exact Chg.mono e13 fun _ _ h => h.elim
        rintro r13 w13 ⟨rfl, e13⟩
        replace E := Ext.trans E e13
        replace k2 := k2.ext e13
        replace k3 := k3.ext e13
        replace k6 := k6.ext e13
        replace k5 := k5.ext e13
        refine DrawT.one (n := 6) [] rfl rfl rfl (by kernel_rfl) (OpC.plain (Eff.store Tryz.sizeOf115 rfl rfl k5 rfl (by simp [Value.cells]) (one_slots p)) rfl) ?_ ?_
        · rintro _ _ ⟨_, _, g, _⟩
          refine ⟨?_, trivial⟩
          exact Chg.mono g fun k _ h => by subst h; omega
        rintro _ ws0 ⟨rfl, ks0, gs0, zs0⟩
        replace E := Ext.then E gs0 (by intro j hj; omega)
        replace k2 := k2.chg gs0 (by omega)
        replace k3 := k3.chg gs0 (by omega)
        replace k6 := k6.chg gs0 (by omega)
        clear k5; have k5 := ks0; clear ks0
        replace k5 : Blk ws0 b5 115 ((slotsOf p).flatMap encSlot) := k5
        refine DrawT.one (n := 7) [] rfl rfl rfl (by kernel_rfl) (OpC.plain (Eff.store Tryz.sizeOf258 rfl rfl k6 rfl (by simp [Value.cells]) (one_terms t)) rfl) ?_ ?_
        · rintro _ _ ⟨_, _, g, _⟩
          refine ⟨?_, trivial⟩
          exact Chg.mono g fun k _ h => by subst h; omega
        rintro _ ws1 ⟨rfl, ks1, gs1, zs1⟩
        replace E := Ext.then E gs1 (by intro j hj; omega)
        replace k2 := k2.chg gs1 (by omega)
        replace k3 := k3.chg gs1 (by omega)
        replace k5 := k5.chg gs1 (by omega)
        clear k6; have k6 := ks1; clear ks1
        replace k6 : Blk ws1 b6 258 ((termsOf t).flatMap encTerm) := k6
        refine DrawT.fin rfl ?_
        show St _ _ _ _ _
        refine St.weak [(5, _), (6, _)] ⟨rfl, rfl, trivial⟩ ?_
        refine St.then_n ?_
        refine St.meet hK1 (b5, b6) ⟨rfl, rfl, trivial⟩ ?_
        · try dsimp only
          exact ⟨E, k5, k6⟩
    · rintro _ _ ⟨_, _, _, _, e, _⟩
      refine ⟨?_, ⟨e.cells hp12, e.cells hp10, trivial⟩⟩
      exact Chg.mono e (fun _ _ h => h.elim)
    · rintro _ w5 ⟨b5, rfl, hb5, hs5, e5, k5⟩
      replace hp12 := e5.cells hp12
      replace hp10 := e5.cells hp10
      have qE5 := E.size
      replace E := Ext.trans E e5
      replace k2 := k2.ext e5
      replace k3 := k3.ext e5
      replace k6 := k6.ext e5
      refine DrawT.one (n := 1) [2] rfl rfl rfl (by kernel_rfl) (OpC.plain (Eff.call rfl rfl ent63 (mSlots_ret _)) rfl) ?_ ?_
      · rintro r11 w11 ⟨rfl, e11⟩
        refine ⟨?_, ⟨e11.cells hp12, trivial⟩⟩
        exact Chg.mono e11 fun _ _ h => h.elim
      rintro r11 w11 ⟨rfl, e11⟩
      replace hp12 := e11.cells hp12
      replace E := Ext.trans E e11
      replace k2 := k2.ext e11
      replace k3 := k3.ext e11
      replace k6 := k6.ext e11
      replace k5 := k5.ext e11
      refine DrawT.one (n := 3) [] rfl rfl rfl (by kernel_rfl) (OpC.plain (Eff.call rfl rfl ent180 (mTerms_ret _)) rfl) ?_ ?_
      · rintro r13 w13 ⟨rfl, e13⟩
        refine ⟨?_, trivial⟩
        exact Chg.mono e13 fun _ _ h => h.elim
      rintro r13 w13 ⟨rfl, e13⟩
      replace E := Ext.trans E e13
      replace k2 := k2.ext e13
      replace k3 := k3.ext e13
      replace k6 := k6.ext e13
      replace k5 := k5.ext e13
      refine DrawT.one (n := 6) [] rfl rfl rfl (by kernel_rfl) (OpC.plain (Eff.store Tryz.sizeOf115 rfl rfl k5 rfl (by simp [Value.cells]) (one_slots p)) rfl) ?_ ?_
      · rintro _ _ ⟨_, _, g, _⟩
        refine ⟨?_, trivial⟩
        exact Chg.mono g fun k _ h => by subst h; omega
      rintro _ ws0 ⟨rfl, ks0, gs0, zs0⟩
      replace E := Ext.then E gs0 (by intro j hj; omega)
      replace k2 := k2.chg gs0 (by omega)
      replace k3 := k3.chg gs0 (by omega)
      replace k6 := k6.chg gs0 (by omega)
      clear k5; have k5 := ks0; clear ks0
      replace k5 : Blk ws0 b5 115 ((slotsOf p).flatMap encSlot) := k5
      refine DrawT.one (n := 7) [] rfl rfl rfl (by kernel_rfl) (OpC.plain (Eff.store Tryz.sizeOf258 rfl rfl k6 rfl (by simp [Value.cells]) (one_terms t)) rfl) ?_ ?_
      · rintro _ _ ⟨_, _, g, _⟩
        refine ⟨?_, trivial⟩
        exact Chg.mono g fun k _ h => by subst h; omega
      rintro _ ws1 ⟨rfl, ks1, gs1, zs1⟩
      replace E := Ext.then E gs1 (by intro j hj; omega)
      replace k2 := k2.chg gs1 (by omega)
      replace k3 := k3.chg gs1 (by omega)
      replace k5 := k5.chg gs1 (by omega)
      clear k6; have k6 := ks1; clear ks1
      replace k6 : Blk ws1 b6 258 ((termsOf t).flatMap encTerm) := k6
      refine DrawT.fin rfl ?_
      show St _ _ _ _ _
      refine St.weak [(5, _), (6, _)] ⟨rfl, rfl, trivial⟩ ?_
      refine St.then_n ?_
      refine St.meet hK1 (b5, b6) ⟨rfl, rfl, trivial⟩ ?_
      · try dsimp only
        exact ⟨E, k5, k6⟩

theorem Of1_ret {t : Triple} {p : Pat} {B : Nat} (w0 : World) (hB : CellsAt w0 B 0 (encPat p)) : Ret Tryz.prog 133 [.agg (encTriple t).toArray, .pointer (some ⟨B, 0, none⟩)] w0 fun r w' => r = .bool (!fitsB p t) ∧ Ext w0 w' := by
  have E : Ext w0 w0 := Ext.refl w0
  refine St.enter (N := 8) Tryz.func133 rfl Tryz.ntmps133 rfl ?_
  refine St.seq fun K0 hK0 => ?_
  refine St.region ?_
  refine St.box rfl rfl ?_
  intro w2 b2 hb2 hs2 e2 k2
  have qE2 := E.size
  replace E := Ext.trans E e2
  refine St.r (R.assign rfl) rfl rfl ?_
  refine St.nil ?_
  refine St.weak [(1, _), (2, _)] ⟨rfl, rfl, trivial⟩ ?_
  refine St.then_n ?_
  refine St.go hK0 ?_
  clear hK0
  refine St.seq fun K1 hK1 => ?_
  refine St.region ?_
  refine St.r (R.loadA Tryz.isAgg100 Tryz.sizeOf100 rfl k2.cells rfl) rfl rfl ?_
  refine St.r (R.loadA Tryz.isAgg48 Tryz.sizeOf48 rfl (E.cells hB) rfl) rfl rfl ?_
  refine St.call rfl rfl ent134 (Fits_ret _) rfl ?_
  rintro r6 w6 ⟨rfl, e6⟩
  replace E := Ext.trans E e6
  replace k2 := k2.ext e6
  refine St.r (R.not rfl) rfl rfl ?_
  refine St.r (R.assign rfl) rfl rfl ?_
  refine St.nil ?_
  refine St.weak [(3, _)] ⟨rfl, trivial⟩ ?_
  refine St.then_n ?_
  refine St.go hK1 ?_
  clear hK1
  refine St.ret ?_
  refine St.ret1 Tryz.results133 rfl ?_
  exact ⟨_, rfl, rfl, E⟩

theorem mOf_ret {l : List Triple} {p : Pat} {v : Value} (w0 : World) (hv : RTriples w0 v l) (hl : l.length ≤ 1000000000) : Ret Tryz.prog 62 [v, .agg (encPat p).toArray] w0 fun r w' => Own encTriple 9 w0.heap.size 100 w' r (ofL l p) ∧ Ext w0 w' := by
  have E : Ext w0 w0 := Ext.refl w0
  refine St.enter (N := 9) Tryz.func62 rfl Tryz.ntmps62 rfl ?_
  refine St.seq fun K0 hK0 => ?_
  refine St.region ?_
  refine St.box rfl rfl ?_
  intro w3 b3 hb3 hs3 e3 k3
  have qE3 := E.size
  replace E := Ext.trans E e3
  refine St.r (R.assign rfl) rfl rfl ?_
  refine St.nil ?_
  refine St.weak [(0, _), (3, _)] ⟨rfl, rfl, trivial⟩ ?_
  refine St.then_n ?_
  refine St.go hK0 ?_
  clear hK0
  refine St.seq fun K1 hK1 => ?_
  refine St.region ?_
  refine St.r (R.move rfl) rfl rfl ?_
  have y3 := k3.lt
  have y0 := E.size
  refine St.call rfl rfl ent97 (tri_Clone _ (hv.ext (REnc.firm _) E) hl) rfl ?_
  rintro r6 w6 ⟨o6, e6⟩
  replace E := Ext.trans E e6
  replace k3 := k3.ext e6
  have z6 := E.size
  have hb6 := fun k hk => (o6.base (k := k) hk).1
  refine St.r (R.fn rfl rfl) rfl rfl ?_
  refine St.call rfl rfl ent132 (tri_DeleteFunc (p := fun t => !fitsB p t) _ o6 ent133 (fun W x C hx => Of1_ret W (C.cells k3.cells (fun hk => by have := hb6 _ hk; omega)))) rfl ?_
  rintro r8 w8 ⟨o8, C8⟩
  replace E := Ext.then E C8 (by intro j hj hk; have := hb6 _ hk; omega)
  refine St.r (R.assign rfl) rfl rfl ?_
  refine St.nil ?_
  refine St.weak [(4, _)] ⟨rfl, trivial⟩ ?_
  refine St.then_n ?_
  refine St.go hK1 ?_
  clear hK1
  refine St.ret ?_
  refine St.ret1 Tryz.results62 rfl ?_
  exact ⟨_, rfl, by have := o8.lower (base' := w0.heap.size) (by omega); simpa [ofL] using this, E⟩

end Go.Proofs.YtjgcmpondbocfaaGreatDoor

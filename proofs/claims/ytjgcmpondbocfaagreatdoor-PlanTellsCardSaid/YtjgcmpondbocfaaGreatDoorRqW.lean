/- The references on patterns and questions: slots, names, what is wrong, what fits. Each walked once, under the reading of the arguments. -/
import Derived.Test.YtjgcmpondbocfaaGreatDoorProg
import Derived.Test.YtjgcmpondbocfaaGreatDoorAskW
import Derived.Test.YtjgcmpondbocfaaGreatDoorRef2W
namespace Go.Proofs.YtjgcmpondbocfaaGreatDoor
open Go.RowKit 
theorem ent45 : Ent Tryz.prog 45 := Ent.of Tryz.func45 (by kernel_rfl) rfl
theorem ent50 : Ent Tryz.prog 50 := Ent.of Tryz.func50 (by kernel_rfl) rfl
theorem ent51 : Ent Tryz.prog 51 := Ent.of Tryz.func51 (by kernel_rfl) rfl
theorem ent54 : Ent Tryz.prog 54 := Ent.of Tryz.func54 (by kernel_rfl) rfl
theorem ent67 : Ent Tryz.prog 67 := Ent.of Tryz.func67 (by kernel_rfl) rfl
theorem ent125 : Ent Tryz.prog 125 := Ent.of Tryz.func125 (by kernel_rfl) rfl
theorem rSlots_ret {p : Pat} (w0 : World) : Ret Tryz.prog 54 [.agg (encPat p).toArray] w0 fun r w' => ∃ b, r = .slice (some ⟨b, 0, none⟩) 3 3 ∧ RSl (REnc encSlot) 4 w' (.slice (some ⟨b, 0, none⟩) 3 3) (slotsOf p) ∧ w0.heap.size ≤ b ∧ Ext w0 w' := by
  have E : Ext w0 w0 := Ext.refl w0
  refine St.enter (N := 10) Tryz.func54 rfl Tryz.ntmps54 rfl ?_
  refine St.seq fun K0 hK0 => ?_
  refine St.region ?_
  refine St.box rfl rfl ?_
  intro w1 b1 hb1 hs1 e1 k1
  have qE1 := E.size
  replace E := Ext.trans E e1
  refine St.r (R.assign rfl) rfl rfl ?_
  refine St.nil ?_
  refine St.weak [(1, _)] ⟨rfl, trivial⟩ ?_
  refine St.then_n ?_
  refine St.go hK0 ?_
  clear hK0
  refine St.seq fun K1 hK1 => ?_
  refine St.region ?_
  refine St.r (R.fieldA Tryz.underlying48 rfl Tryz.sizeOf46 rfl rfl rfl) rfl rfl ?_
  refine St.r (R.loadA Tryz.isAgg46 Tryz.sizeOf46 rfl (k1.cells.cut 0 4 rfl) rfl) rfl rfl ?_
  refine St.r (R.fieldA Tryz.underlying48 rfl Tryz.sizeOf46 rfl rfl rfl) rfl rfl ?_
  refine St.r (R.loadA Tryz.isAgg46 Tryz.sizeOf46 rfl (k1.cells.cut 4 4 rfl) rfl) rfl rfl ?_
  refine St.r (R.fieldA Tryz.underlying48 rfl Tryz.sizeOf46 rfl rfl rfl) rfl rfl ?_
  refine St.r (R.loadA Tryz.isAgg46 Tryz.sizeOf46 rfl (k1.cells.cut 8 4 rfl) rfl) rfl rfl ?_
  refine St.buildSl Tryz.underlying106 Tryz.sizeOf46 Tryz.zeroValue46 rfl rfl rfl rfl (by intro u hu; simp only [List.mem_cons, List.not_mem_nil, or_false] at hu; first | (subst hu; rfl) | (rcases hu with rfl | rfl <;> rfl) | (rcases hu with rfl | rfl | rfl <;> rfl) | (rcases hu with rfl | rfl | rfl | rfl <;> rfl)) rfl ?_
  intro w9 b9 hb9 hs9 e9 k9
  have qE9 := E.size
  replace E := Ext.trans E e9
  replace k1 := k1.ext e9
  refine St.r (R.assign rfl) rfl rfl ?_
  refine St.nil ?_
  refine St.weak [(2, _)] ⟨rfl, trivial⟩ ?_
  refine St.then_n ?_
  refine St.go hK1 ?_
  clear hK1
  refine St.ret ?_
  refine St.ret1 Tryz.results54 rfl ?_
  exact ⟨_, rfl, b9, rfl, RSl.mk (enc := encSlot) (xs := slotsOf p) encSlot_len k9.cells (fun i u hu => hu) (by simp [slotsOf]) (by simp), by omega, E⟩

theorem rThree_ret {t : Triple} (w0 : World) : Ret Tryz.prog 67 [.agg (encTriple t).toArray] w0 fun r w' => ∃ b, r = .slice (some ⟨b, 0, none⟩) 3 3 ∧ RTerms w' (.slice (some ⟨b, 0, none⟩) 3 3) (termsOf t) ∧ w0.heap.size ≤ b ∧ Ext w0 w' := by
  have E : Ext w0 w0 := Ext.refl w0
  refine St.enter (N := 10) Tryz.func67 rfl Tryz.ntmps67 rfl ?_
  refine St.seq fun K0 hK0 => ?_
  refine St.region ?_
  refine St.box rfl rfl ?_
  intro w1 b1 hb1 hs1 e1 k1
  have qE1 := E.size
  replace E := Ext.trans E e1
  refine St.r (R.assign rfl) rfl rfl ?_
  refine St.nil ?_
  refine St.weak [(1, _)] ⟨rfl, trivial⟩ ?_
  refine St.then_n ?_
  refine St.go hK0 ?_
  clear hK0
  refine St.seq fun K1 hK1 => ?_
  refine St.region ?_
  refine St.r (R.fieldA Tryz.underlying100 rfl Tryz.sizeOf44 rfl rfl rfl) rfl rfl ?_
  refine St.r (R.loadA Tryz.isAgg44 Tryz.sizeOf44 rfl (triple_s k1) rfl) rfl rfl ?_
  refine St.r (R.fieldA Tryz.underlying100 rfl Tryz.sizeOf44 rfl rfl rfl) rfl rfl ?_
  refine St.r (R.loadA Tryz.isAgg44 Tryz.sizeOf44 rfl (triple_p k1) rfl) rfl rfl ?_
  refine St.r (R.fieldA Tryz.underlying100 rfl Tryz.sizeOf44 rfl rfl rfl) rfl rfl ?_
  refine St.r (R.loadA Tryz.isAgg44 Tryz.sizeOf44 rfl (triple_o k1) rfl) rfl rfl ?_
  refine St.buildSl Tryz.underlying85 Tryz.sizeOf44 Tryz.zeroValue44 rfl rfl rfl rfl (by intro u hu; simp only [List.mem_cons, List.not_mem_nil, or_false] at hu; first | (subst hu; rfl) | (rcases hu with rfl | rfl <;> rfl) | (rcases hu with rfl | rfl | rfl <;> rfl) | (rcases hu with rfl | rfl | rfl | rfl <;> rfl)) rfl ?_
  intro w9 b9 hb9 hs9 e9 k9
  have qE9 := E.size
  replace E := Ext.trans E e9
  replace k1 := k1.ext e9
  refine St.r (R.assign rfl) rfl rfl ?_
  refine St.nil ?_
  refine St.weak [(2, _)] ⟨rfl, trivial⟩ ?_
  refine St.then_n ?_
  refine St.go hK1 ?_
  clear hK1
  refine St.ret ?_
  refine St.ret1 Tryz.results67 rfl ?_
  exact ⟨_, rfl, b9, rfl, RSl.mk (enc := encTerm) (xs := termsOf t) encTerm_len k9.cells (fun i u hu => hu) (by simp [termsOf]) (by simp), by omega, E⟩

theorem rHas_ret {xs : List ByteArray} {s : ByteArray} {v : Value} (w0 : World) (hv : RStrs w0 v xs) : Ret Tryz.prog 51 [v, .string s] w0 fun r w' => r = .bool (decide (s ∈ xs)) ∧ Ext w0 w' := by
  obtain ⟨A, c, rfl, hc1, hc2⟩ := hv.form
  have E : Ext w0 w0 := Ext.refl w0
  refine St.enter (N := 18) Tryz.func51 rfl Tryz.ntmps51 rfl ?_
  refine St.seq fun K0 hK0 => ?_
  refine St.region ?_
  refine St.r (R.assign rfl) rfl rfl ?_
  refine St.nil ?_
  refine St.weak [(0, _), (1, _)] ⟨rfl, rfl, trivial⟩ ?_
  refine St.then_n ?_
  refine St.go hK0 ?_
  clear hK0
  refine St.seq fun K1 hK1 => ?_
  refine St.seq fun K2 hK2 => ?_
  refine St.region ?_
  refine St.r (R.assign rfl) rfl rfl ?_
  refine St.nil ?_
  refine St.weak [(0, _), (1, _), (5, _)] ⟨rfl, rfl, rfl, trivial⟩ ?_
  refine St.then_n ?_
  refine St.go hK2 ?_
  clear hK2
  refine St.block ?_
  refine St.loop (fun (k : Nat) => [(0, .slice A xs.length c), (1, .string s), (5, .int .i64 (k : Int))])
      (fun (k : Nat) w => k ≤ xs.length ∧ Ext w0 w ∧ ¬ s ∈ xs.take k)
      (fun (k : Nat) => xs.length - k) 0 ⟨rfl, rfl, rfl, trivial⟩ ?_ ?_
  · exact ⟨Nat.zero_le _, E, by simp⟩
  rintro k w ⟨hk, E, hall⟩
  show St _ _ [(0, .slice A xs.length c), (1, .string s), (5, .int .i64 (k : Int))] _ _
  refine St.seq fun K3 hK3 => ?_
  refine St.seq fun K4 hK4 => ?_
  refine St.region ?_
  refine St.r (R.move rfl) rfl rfl ?_
  refine St.r (R.move rfl) rfl rfl ?_
  refine St.r (R.lenSl Tryz.underlying23 rfl) rfl rfl ?_
  refine St.r (R.lss rfl rfl) rfl rfl ?_
  refine St.nil ?_
  refine St.weak [(0, _), (1, _), (5, _), (9, _)] ⟨rfl, rfl, rfl, rfl, trivial⟩ ?_
  refine St.then_n ?_
  refine St.go hK4 ?_
  clear hK4
  refine St.condD rfl (fun h9 => ?_) (fun h9 => ?_)
  ·
    obtain ⟨x, hx⟩ := get_of_lt (xs := xs) (k := k) (by omega)
    obtain ⟨xb, xo, rfl, hxc⟩ := hv.get' hx
    refine St.skip ?_
    refine St.then_n ?_
    refine St.go hK3 ?_
    clear hK3
    refine St.seq fun K5 hK5 => ?_
    refine St.block ?_
    refine St.seq fun K6 hK6 => ?_
    refine St.region ?_
    refine St.r (R.move rfl) rfl rfl ?_
    refine St.r (R.move rfl) rfl rfl ?_
    refine St.r (R.indexS k Tryz.underlying23 Tryz.sizeOf9 rfl rfl rfl (by omega)) rfl rfl ?_
    refine St.r (R.load1 Tryz.isAgg9 rfl ((E.cells hxc).at 0 rfl)) rfl rfl ?_
    refine St.r (R.move rfl) rfl rfl ?_
    refine St.r (R.eqS rfl rfl) rfl rfl ?_
    refine St.nil ?_
    refine St.weak [(0, _), (1, _), (5, _), (17, _)] ⟨rfl, rfl, rfl, rfl, trivial⟩ ?_
    refine St.then_n ?_
    refine St.go hK6 ?_
    clear hK6
    refine St.condD rfl (fun h17 => ?_) (fun h17 => ?_)
    ·
      refine St.seq fun K7 hK7 => ?_
      refine St.region ?_
      refine St.r (R.assign rfl) rfl rfl ?_
      refine St.nil ?_
      refine St.weak [(4, _)] ⟨rfl, trivial⟩ ?_
      refine St.then_n ?_
      refine St.go hK7 ?_
      clear hK7
      refine St.ret ?_
      refine St.in_r ?_
      refine St.then_r ?_
      refine St.then_r ?_
      refine St.in_r ?_
      refine St.then_r ?_
      refine St.ret1 Tryz.results51 rfl ?_
      exact ⟨_, rfl, by rw [decide_eq_true (h17 ▸ List.mem_of_getElem? hx)], E⟩
    ·
      refine St.skip ?_
      refine St.in_n ?_
      refine St.then_n ?_
      refine St.go hK5 ?_
      clear hK5
      refine St.region ?_
      refine St.r (R.move rfl) rfl rfl ?_
      refine St.r (R.add rfl rfl (by omega) (by omega)) rfl rfl ?_
      refine St.r (R.assign rfl) rfl rfl ?_
      refine St.nil ?_
      refine St.weak [(0, _), (1, _), (5, _)] ⟨rfl, rfl, rfl, trivial⟩ ?_
      refine St.then_n ?_
      refine St.round (k + 1) ⟨rfl, rfl, rfl, trivial⟩ ?_ ?_
      · refine ⟨by omega, E, ?_⟩
        rw [take_snoc hx, List.mem_append, List.mem_singleton]
        rintro (h | h)
        · exact hall h
        · exact h17 h.symm
      · omega
  ·
    refine St.exit ?_
    refine St.then_x ?_
    refine St.then_x ?_
    refine St.in_x ?_
    refine St.then_n ?_
    refine St.go hK1 ?_
    clear hK1
    refine St.seq fun K8 hK8 => ?_
    refine St.region ?_
    refine St.r (R.assign rfl) rfl rfl ?_
    refine St.nil ?_
    refine St.weak [(4, _)] ⟨rfl, trivial⟩ ?_
    refine St.then_n ?_
    refine St.go hK8 ?_
    clear hK8
    refine St.ret ?_
    refine St.ret1 Tryz.results51 rfl ?_
    rw [List.take_of_length_le (by omega)] at hall
    exact ⟨_, rfl, by rw [decide_eq_false hall], E⟩

set_option maxHeartbeats 4000000 in
set_option maxRecDepth 100000 in
theorem rVars_ret {p : Pat} (w0 : World) : Ret Tryz.prog 45 [.agg (encPat p).toArray] w0 fun r w' => ∃ y, r = .tuple #[y, .int .i64 (wrongI (patErr p))] ∧ RStrs w' y (if (patErr p).isSome then [] else patVars p) ∧ (∀ k, y.ownBlock = some k → w0.heap.size ≤ k) ∧ Ext w0 w' := by
  have E : Ext w0 w0 := Ext.refl w0
  refine St.enter (N := 76) Tryz.func45 rfl Tryz.ntmps45 rfl ?_
  refine St.seq fun K0 hK0 => ?_
  refine St.region ?_
  refine St.box rfl rfl ?_
  intro w1 b1 hb1 hs1 e1 k1
  have qE1 := E.size
  replace E := Ext.trans E e1
  refine St.r (R.assign rfl) rfl rfl ?_
  refine St.r (R.assign rfl) rfl rfl ?_
  refine St.nil ?_
  refine St.weak [(1, _)] ⟨rfl, trivial⟩ ?_
  refine St.then_n ?_
  refine St.go hK0 ?_
  clear hK0
  refine St.seq fun K1 hK1 => ?_
  refine St.region ?_
  refine St.r (R.assign rfl) rfl rfl ?_
  refine St.nil ?_
  refine St.weak [(1, _), (4, _)] ⟨rfl, rfl, trivial⟩ ?_
  refine St.then_n ?_
  refine St.go hK1 ?_
  clear hK1
  refine St.seq fun K2 hK2 => ?_
  refine St.region ?_
  refine St.r (R.loadA Tryz.isAgg48 Tryz.sizeOf48 rfl k1.cells rfl) rfl rfl ?_
  have z12 := E.size
  refine St.call rfl rfl ent54 (rSlots_ret _) rfl ?_
  rintro r12 w12 ⟨b5, rfl, r5, hb5, e12⟩
  replace E := Ext.trans E e12
  replace k1 := k1.ext e12
  refine St.r (R.assign rfl) rfl rfl ?_
  refine St.nil ?_
  refine St.weak [(4, _), (5, _)] ⟨rfl, rfl, trivial⟩ ?_
  refine St.then_n ?_
  refine St.go hK2 ?_
  clear hK2
  refine St.seq fun K3 hK3 => ?_
  refine St.seq fun K4 hK4 => ?_
  refine St.region ?_
  refine St.r (R.assign rfl) rfl rfl ?_
  refine St.nil ?_
  refine St.weak [(4, _), (5, _), (6, _)] ⟨rfl, rfl, rfl, trivial⟩ ?_
  refine St.then_n ?_
  refine St.go hK4 ?_
  clear hK4
  refine St.block ?_
  obtain ⟨Z, hZ⟩ : ∃ Z, Z = w12.heap.size := ⟨_, rfl⟩
  have hb5l : b5 < Z := by have := r5.lt (fun x => by rw [encSlot_len]; omega) (by simp [slotsOf]) (k := b5) rfl; omega
  have hZ0 : w0.heap.size ≤ Z := by have := E.size; omega
  refine St.loop (fun (x : Nat × Value) => match x with | (k, ov) => [(4, ov), (5, .slice (some ⟨b5, 0, none⟩) 3 3), (6, .int .i64 (k : Int))])
      (fun (x : Nat × Value) w => match x with | (k, ov) => k ≤ 3 ∧ Ext w0 w ∧ Own encStr 1 Z 9 w ov (((slotsOf p).take k).foldl addS []) ∧ RSl (REnc encSlot) 4 w (.slice (some ⟨b5, 0, none⟩) 3 3) (slotsOf p) ∧ patErr p = firstE (((slotsOf p).drop k).map slotErr) ∧ Z ≤ w.heap.size)
      (fun (x : Nat × Value) => match x with | (k, ov) => 3 - k) (0, .slice none 0 0) ⟨rfl, rfl, rfl, trivial⟩ ?_ ?_
  · exact ⟨Nat.zero_le _, E, Own.nil _ _ _ _ _, r5, rfl, by omega⟩
  rintro ⟨k, ov⟩ w ⟨hk, E, o4, r5, he, zz⟩
  show St _ _ [(4, ov), (5, .slice (some ⟨b5, 0, none⟩) 3 3), (6, .int .i64 (k : Int))] _ _
  refine St.seq fun K5 hK5 => ?_
  refine St.seq fun K6 hK6 => ?_
  refine St.region ?_
  refine St.r (R.move rfl) rfl rfl ?_
  refine St.r (R.lss rfl rfl) rfl rfl ?_
  refine St.nil ?_
  refine St.weak [(4, _), (5, _), (6, _), (14, _)] ⟨rfl, rfl, rfl, rfl, trivial⟩ ?_
  refine St.then_n ?_
  refine St.go hK6 ?_
  clear hK6
  refine St.condD rfl (fun h14 => ?_) (fun h14 => ?_)
  ·
    obtain ⟨s, hs⟩ := slots_get (p := p) (i := k) (by omega)
    have hoL := fun k hk => (o4.base (k := k) hk).2
    have hzw : Z ≤ w.heap.size := zz
    have hol : (((slotsOf p).take k).foldl addS []).length ≤ 3 := by
      have : ∀ (ss : List Slot) (out : List ByteArray), (ss.foldl addS out).length ≤ out.length + ss.length := by
        intro ss
        induction ss with
        | nil => intro out; simp
        | cons a r ih => intro out; have := ih (addS out a); have := addS_len out a; rw [List.foldl_cons, List.length_cons]; omega
      have := this ((slotsOf p).take k) []
      simp only [List.length_nil, List.length_take] at this; omega
    refine St.skip ?_
    refine St.then_n ?_
    refine St.go hK5 ?_
    clear hK5
    refine St.seq fun K7 hK7 => ?_
    refine St.block ?_
    refine St.seq fun K8 hK8 => ?_
    refine St.seq fun K9 hK9 => ?_
    refine St.region ?_
    refine St.r (R.move rfl) rfl rfl ?_
    refine St.r (R.move rfl) rfl rfl ?_
    refine St.r (R.indexS k Tryz.underlying106 Tryz.sizeOf46 rfl rfl rfl (by omega)) rfl rfl ?_
    refine St.r (R.fieldA Tryz.underlying46 rfl Tryz.sizeOf9 rfl rfl rfl) rfl rfl ?_
    refine St.r (R.load1 Tryz.isAgg9 rfl (((r5.get hs).cut 0 1 rfl).at 0 rfl)) rfl rfl ?_
    refine St.r (R.eqS rfl rfl) rfl rfl ?_
    refine St.nil ?_
    refine St.weak [(4, _), (5, _), (6, _), (22, _)] ⟨rfl, rfl, rfl, rfl, trivial⟩ ?_
    refine St.then_n ?_
    refine St.go hK9 ?_
    clear hK9
    refine St.condD rfl (fun h22 => ?_) (fun h22 => ?_)
    ·
      refine St.seq fun K10 hK10 => ?_
      refine St.region ?_
      refine St.r (R.move rfl) rfl rfl ?_
      refine St.r (R.move rfl) rfl rfl ?_
      refine St.r (R.indexS k Tryz.underlying106 Tryz.sizeOf46 rfl rfl rfl (by omega)) rfl rfl ?_
      refine St.r (R.fieldA Tryz.underlying46 rfl Tryz.sizeOf44 rfl rfl rfl) rfl rfl ?_
      refine St.r (R.loadA Tryz.isAgg44 Tryz.sizeOf44 rfl (((r5.get hs).cut 1 3 rfl)) rfl) rfl rfl ?_
      refine St.call rfl rfl ent44 (rTerm_ret _) rfl ?_
      rintro r28 w28 ⟨rfl, e28⟩
      replace E := Ext.trans E e28
      replace o4 := o4.ext e28
      replace r5 := r5.ext (REnc.firm _) e28
      replace zz := Nat.le_trans zz (Chg.size e28)
      refine St.r (R.assign rfl) rfl rfl ?_
      refine St.nil ?_
      refine St.weak [(4, _), (5, _), (6, _), (7, _)] ⟨rfl, rfl, rfl, rfl, trivial⟩ ?_
      refine St.then_n ?_
      refine St.go hK10 ?_
      clear hK10
      refine St.seq fun K11 hK11 => ?_
      refine St.seq fun K12 hK12 => ?_
      refine St.region ?_
      refine St.r (R.move rfl) rfl rfl ?_
      refine St.r (R.neq rfl rfl) rfl rfl ?_
      refine St.nil ?_
      refine St.weak [(4, _), (5, _), (6, _), (7, _), (30, _)] ⟨rfl, rfl, rfl, rfl, rfl, trivial⟩ ?_
      refine St.then_n ?_
      refine St.go hK12 ?_
      clear hK12
      refine St.condD rfl (fun h30 => ?_) (fun h30 => ?_)
      ·
        refine St.seq fun K13 hK13 => ?_
        refine St.region ?_
        refine St.r (R.move rfl) rfl rfl ?_
        refine St.r (R.assign rfl) rfl rfl ?_
        refine St.r (R.assign rfl) rfl rfl ?_
        refine St.nil ?_
        refine St.weak [(2, _), (3, _)] ⟨rfl, rfl, trivial⟩ ?_
        refine St.then_n ?_
        refine St.go hK13 ?_
        clear hK13
        refine St.ret ?_
        refine St.then_r ?_
        refine St.then_r ?_
        refine St.in_r ?_
        refine St.then_r ?_
        refine St.then_r ?_
        refine St.in_r ?_
        refine St.then_r ?_
        refine St.ret2 Tryz.results45 rfl rfl ?_
        obtain ⟨er, her⟩ : ∃ e, termErr s.term = some e := by
          cases hc : termErr s.term with
          | none => rw [hc] at h30; exact absurd rfl h30
          | some e => exact ⟨e, rfl⟩
        have hse : slotErr s = some er := by rw [slotErr, if_pos h22, her]
        have hpe : patErr p = some er := by rw [he, drop_at hs, List.map_cons, hse, firstE_some (by rfl)]
        exact ⟨_, rfl, _, by rw [hpe, her], by rw [hpe, if_pos (by rfl)]; exact RSl.nil _ _ _, fun k h => (by cases h), E⟩
      ·
        refine St.skip ?_
        refine St.then_n ?_
        refine St.go hK11 ?_
        clear hK11
        refine St.exit ?_
        refine St.then_x ?_
        refine St.in_x ?_
        refine St.then_n ?_
        refine St.go hK7 ?_
        clear hK7
        refine St.region ?_
        refine St.r (R.move rfl) rfl rfl ?_
        refine St.r (R.add rfl rfl (by omega) (by omega)) rfl rfl ?_
        refine St.r (R.assign rfl) rfl rfl ?_
        refine St.nil ?_
        refine St.weak [(4, _), (5, _), (6, _)] ⟨rfl, rfl, rfl, trivial⟩ ?_
        refine St.then_n ?_
        refine St.round (k + 1, ov) ⟨rfl, rfl, rfl, trivial⟩ ?_ ?_
        · try dsimp only
          have hse : slotErr s = none := by rw [slotErr, if_pos h22]; exact termErr_0.1 (Decidable.not_not.1 h30)
          refine ⟨by omega, E, ?_, r5, ?_, ?_⟩
          · rw [take_snoc hs, List.foldl_append]; show Own _ _ _ _ _ _ (addS _ s); rw [addS, if_pos h22]; exact o4
          · rw [he, drop_at hs, List.map_cons, firstE_none (by rw [hse]; rfl)]
          · exact zz
        · try dsimp only
          omega
    ·
      refine St.skip ?_
      refine St.then_n ?_
      refine St.go hK8 ?_
      clear hK8
      refine St.seq fun K14 hK14 => ?_
      refine St.region ?_
      refine St.r (R.move rfl) rfl rfl ?_
      refine St.r (R.move rfl) rfl rfl ?_
      refine St.r (R.indexS k Tryz.underlying106 Tryz.sizeOf46 rfl rfl rfl (by omega)) rfl rfl ?_
      refine St.r (R.fieldA Tryz.underlying46 rfl Tryz.sizeOf9 rfl rfl rfl) rfl rfl ?_
      refine St.r (R.load1 Tryz.isAgg9 rfl (((r5.get hs).cut 0 1 rfl).at 0 rfl)) rfl rfl ?_
      refine St.call rfl rfl ent120 (Letters_ret (by omega) _) rfl ?_
      rintro r37 w37 ⟨rfl, e37⟩
      replace E := Ext.trans E e37
      replace o4 := o4.ext e37
      replace r5 := r5.ext (REnc.firm _) e37
      replace zz := Nat.le_trans zz (Chg.size e37)
      refine St.r (R.assign rfl) rfl rfl ?_
      refine St.nil ?_
      refine St.weak [(4, _), (5, _), (6, _), (8, _)] ⟨rfl, rfl, rfl, rfl, trivial⟩ ?_
      refine St.then_n ?_
      refine St.go hK14 ?_
      clear hK14
      refine St.seq fun K15 hK15 => ?_
      refine St.seq fun K16 hK16 => ?_
      refine St.region ?_
      refine St.r (R.move rfl) rfl rfl ?_
      refine St.r (R.not rfl) rfl rfl ?_
      refine St.nil ?_
      refine St.weak [(4, _), (5, _), (6, _), (39, _)] ⟨rfl, rfl, rfl, rfl, trivial⟩ ?_
      refine St.then_n ?_
      refine St.go hK16 ?_
      clear hK16
      refine St.cond rfl (fun h39 => ?_) (fun h39 => ?_)
      ·
        refine St.seq fun K17 hK17 => ?_
        refine St.region ?_
        refine St.r (R.assign rfl) rfl rfl ?_
        refine St.r (R.assign rfl) rfl rfl ?_
        refine St.nil ?_
        refine St.weak [(2, _), (3, _)] ⟨rfl, rfl, trivial⟩ ?_
        refine St.then_n ?_
        refine St.go hK17 ?_
        clear hK17
        refine St.ret ?_
        refine St.then_r ?_
        refine St.in_r ?_
        refine St.then_r ?_
        refine St.then_r ?_
        refine St.in_r ?_
        refine St.then_r ?_
        refine St.ret2 Tryz.results45 rfl rfl ?_
        have hse : slotErr s = some 2 := by rw [slotErr, if_neg h22, if_pos (by simpa using h39)]
        have hpe : patErr p = some 2 := by rw [he, drop_at hs, List.map_cons, hse, firstE_some (by rfl)]
        exact ⟨_, rfl, _, by rw [hpe]; rfl, by rw [hpe, if_pos (by rfl)]; exact RSl.nil _ _ _, fun k h => (by cases h), E⟩
      ·
        refine St.skip ?_
        refine St.then_n ?_
        refine St.go hK15 ?_
        clear hK15
        refine St.seq fun K18 hK18 => ?_
        refine St.region ?_
        refine St.r (R.move rfl) rfl rfl ?_
        refine St.r (R.move rfl) rfl rfl ?_
        refine St.r (R.indexS k Tryz.underlying106 Tryz.sizeOf46 rfl rfl rfl (by omega)) rfl rfl ?_
        refine St.r (R.fieldA Tryz.underlying46 rfl Tryz.sizeOf44 rfl rfl rfl) rfl rfl ?_
        refine St.r (R.loadA Tryz.isAgg44 Tryz.sizeOf44 rfl (((r5.get hs).cut 1 3 rfl)) rfl) rfl rfl ?_
        have yz9 := zz
        have hoL9 := fun k hk => (o4.base (k := k) hk).2
        refine St.alloc Tryz.zeroValue44 rfl ?_
        intro w9 b9 hb9 hs9 e9 k9
        have qE9 := E.size
        replace E := Ext.trans E e9
        replace o4 := o4.ext e9
        replace r5 := r5.ext (REnc.firm _) e9
        replace zz := Nat.le_trans zz (Chg.size e9)
        refine St.store Tryz.sizeOf44 rfl rfl k9 rfl (by simp [Value.cells, encTerm]) (one_term s.term) ?_
        intro ws0 ks0 gs0 zs0
        replace E := Ext.then E gs0 (by intro j hj; omega)
        replace o4 := o4.chg gs0 (fun k hk h => by have := hoL9 k hk; omega)
        replace r5 := r5.chg gs0 (fun _ k hk h => by injection hk with hk; dsimp only at hk; omega)
        replace zz := Nat.le_trans zz (Chg.size gs0)
        clear k9; have k9 := ks0; clear ks0
        replace k9 : Blk ws0 b9 44 (encTerm s.term) := k9
        refine St.nil ?_
        refine St.weak [(4, _), (5, _), (6, _), (9, _)] ⟨rfl, rfl, rfl, rfl, trivial⟩ ?_
        refine St.then_n ?_
        refine St.go hK18 ?_
        clear hK18
        refine St.seq fun K19 hK19 => ?_
        refine St.seq fun K20 hK20 => ?_
        by_cases h47 : s.term.kind ≠ 0
        ·
          refine St.region ?_
          refine St.r (R.fieldA Tryz.underlying44 rfl Tryz.sizeOf3 rfl rfl rfl) rfl rfl ?_
          refine St.r (R.load1 Tryz.isAgg3 rfl (k9.cells.at 0 rfl)) rfl rfl ?_
          refine St.r (Runs.lit (c := true) (R.neq rfl rfl) (decide_eq_true h47)) rfl rfl ?_
          refine St.r (R.move rfl) rfl rfl ?_
          refine St.pass (dg := 48) rfl rfl rfl rfl rfl ?_
          refine St.pass (dg := 48) rfl rfl rfl rfl rfl ?_
          refine St.pass (dg := 48) rfl rfl rfl rfl rfl ?_
          refine St.r (R.pickT rfl rfl) rfl rfl ?_
          refine St.r (R.move rfl) rfl rfl ?_
          refine St.pass (dg := 53) rfl rfl rfl rfl rfl ?_
          refine St.pass (dg := 53) rfl rfl rfl rfl rfl ?_
          refine St.pass (dg := 53) rfl rfl rfl rfl rfl ?_
          refine St.r (R.pickT rfl rfl) rfl rfl ?_
          refine St.nil ?_
          refine St.weak [(4, _), (5, _), (6, _), (57, _)] ⟨rfl, rfl, rfl, rfl, trivial⟩ ?_
          refine St.then_n ?_
          refine St.go hK20 ?_
          clear hK20
          refine St.condT rfl ?_
          refine St.seq fun K21 hK21 => ?_
          refine St.region ?_
          refine St.r (R.assign rfl) rfl rfl ?_
          refine St.r (R.assign rfl) rfl rfl ?_
          refine St.nil ?_
          refine St.weak [(2, _), (3, _)] ⟨rfl, rfl, trivial⟩ ?_
          refine St.then_n ?_
          refine St.go hK21 ?_
          clear hK21
          refine St.ret ?_
          refine St.then_r ?_
          refine St.in_r ?_
          refine St.then_r ?_
          refine St.then_r ?_
          refine St.in_r ?_
          refine St.then_r ?_
          refine St.ret2 Tryz.results45 rfl rfl ?_
          have hse : slotErr s = some 3 := by rw [slotErr, if_neg h22, if_neg (by simpa using h39), if_pos (fun e => h47 (by rw [e]; rfl))]
          have hpe : patErr p = some 3 := by rw [he, drop_at hs, List.map_cons, hse, firstE_some (by rfl)]
          exact ⟨_, rfl, _, by rw [hpe]; rfl, by rw [hpe, if_pos (by rfl)]; exact RSl.nil _ _ _, fun k h => (by cases h), E⟩
        ·
          by_cases h51 : s.term.s ≠ ⟨#[]⟩
          ·
            refine St.region ?_
            refine St.r (R.fieldA Tryz.underlying44 rfl Tryz.sizeOf3 rfl rfl rfl) rfl rfl ?_
            refine St.r (R.load1 Tryz.isAgg3 rfl (k9.cells.at 0 rfl)) rfl rfl ?_
            refine St.r (Runs.lit (c := false) (R.neq rfl rfl) (decide_eq_false h47)) rfl rfl ?_
            refine St.r (R.move rfl) rfl rfl ?_
            refine St.take (dg := 48) rfl rfl ?_ rfl
            refine St.r (R.fieldA Tryz.underlying44 rfl Tryz.sizeOf9 rfl rfl rfl) rfl rfl ?_
            refine St.take (dg := 48) rfl rfl ?_ rfl
            refine St.r (R.load1 Tryz.isAgg9 rfl (k9.cells.at 1 rfl)) rfl rfl ?_
            refine St.take (dg := 48) rfl rfl ?_ rfl
            refine St.r (Runs.lit (c := true) (R.neS rfl rfl) (decide_eq_true h51)) rfl rfl ?_
            refine St.r (R.pickF rfl rfl) rfl rfl ?_
            refine St.r (R.move rfl) rfl rfl ?_
            refine St.pass (dg := 53) rfl rfl rfl rfl rfl ?_
            refine St.pass (dg := 53) rfl rfl rfl rfl rfl ?_
            refine St.pass (dg := 53) rfl rfl rfl rfl rfl ?_
            refine St.r (R.pickT rfl rfl) rfl rfl ?_
            refine St.nil ?_
            refine St.weak [(4, _), (5, _), (6, _), (57, _)] ⟨rfl, rfl, rfl, rfl, trivial⟩ ?_
            refine St.then_n ?_
            refine St.go hK20 ?_
            clear hK20
            refine St.condT rfl ?_
            refine St.seq fun K22 hK22 => ?_
            refine St.region ?_
            refine St.r (R.assign rfl) rfl rfl ?_
            refine St.r (R.assign rfl) rfl rfl ?_
            refine St.nil ?_
            refine St.weak [(2, _), (3, _)] ⟨rfl, rfl, trivial⟩ ?_
            refine St.then_n ?_
            refine St.go hK22 ?_
            clear hK22
            refine St.ret ?_
            refine St.then_r ?_
            refine St.in_r ?_
            refine St.then_r ?_
            refine St.then_r ?_
            refine St.in_r ?_
            refine St.then_r ?_
            refine St.ret2 Tryz.results45 rfl rfl ?_
            have hse : slotErr s = some 3 := by rw [slotErr, if_neg h22, if_neg (by simpa using h39), if_pos (fun e => h51 (by rw [e]; rfl))]
            have hpe : patErr p = some 3 := by rw [he, drop_at hs, List.map_cons, hse, firstE_some (by rfl)]
            exact ⟨_, rfl, _, by rw [hpe]; rfl, by rw [hpe, if_pos (by rfl)]; exact RSl.nil _ _ _, fun k h => (by cases h), E⟩
          ·
            refine St.region ?_
            refine St.r (R.fieldA Tryz.underlying44 rfl Tryz.sizeOf3 rfl rfl rfl) rfl rfl ?_
            refine St.r (R.load1 Tryz.isAgg3 rfl (k9.cells.at 0 rfl)) rfl rfl ?_
            refine St.r (Runs.lit (c := false) (R.neq rfl rfl) (decide_eq_false h47)) rfl rfl ?_
            refine St.r (R.move rfl) rfl rfl ?_
            refine St.take (dg := 48) rfl rfl ?_ rfl
            refine St.r (R.fieldA Tryz.underlying44 rfl Tryz.sizeOf9 rfl rfl rfl) rfl rfl ?_
            refine St.take (dg := 48) rfl rfl ?_ rfl
            refine St.r (R.load1 Tryz.isAgg9 rfl (k9.cells.at 1 rfl)) rfl rfl ?_
            refine St.take (dg := 48) rfl rfl ?_ rfl
            refine St.r (Runs.lit (c := false) (R.neS rfl rfl) (decide_eq_false h51)) rfl rfl ?_
            refine St.r (R.pickF rfl rfl) rfl rfl ?_
            refine St.r (R.move rfl) rfl rfl ?_
            refine St.take (dg := 53) rfl rfl ?_ rfl
            refine St.r (R.fieldA Tryz.underlying44 rfl Tryz.sizeOf9 rfl rfl rfl) rfl rfl ?_
            refine St.take (dg := 53) rfl rfl ?_ rfl
            refine St.r (R.load1 Tryz.isAgg9 rfl (k9.cells.at 2 rfl)) rfl rfl ?_
            refine St.take (dg := 53) rfl rfl ?_ rfl
            refine St.r (R.neS rfl rfl) rfl rfl ?_
            refine St.r (R.pickF rfl rfl) rfl rfl ?_
            refine St.nil ?_
            refine St.weak [(4, _), (5, _), (6, _), (57, _)] ⟨rfl, rfl, rfl, rfl, trivial⟩ ?_
            refine St.then_n ?_
            refine St.go hK20 ?_
            clear hK20
            refine St.condD rfl (fun h57 => ?_) (fun h57 => ?_)
            ·
              refine St.seq fun K23 hK23 => ?_
              refine St.region ?_
              refine St.r (R.assign rfl) rfl rfl ?_
              refine St.r (R.assign rfl) rfl rfl ?_
              refine St.nil ?_
              refine St.weak [(2, _), (3, _)] ⟨rfl, rfl, trivial⟩ ?_
              refine St.then_n ?_
              refine St.go hK23 ?_
              clear hK23
              refine St.ret ?_
              refine St.then_r ?_
              refine St.in_r ?_
              refine St.then_r ?_
              refine St.then_r ?_
              refine St.in_r ?_
              refine St.then_r ?_
              refine St.ret2 Tryz.results45 rfl rfl ?_
              have hse : slotErr s = some 3 := by rw [slotErr, if_neg h22, if_neg (by simpa using h39), if_pos (fun e => h57 (by rw [e]; rfl))]
              have hpe : patErr p = some 3 := by rw [he, drop_at hs, List.map_cons, hse, firstE_some (by rfl)]
              exact ⟨_, rfl, _, by rw [hpe]; rfl, by rw [hpe, if_pos (by rfl)]; exact RSl.nil _ _ _, fun k h => (by cases h), E⟩
            ·
              refine St.skip ?_
              refine St.then_n ?_
              refine St.go hK19 ?_
              clear hK19
              refine St.seq fun K24 hK24 => ?_
              refine St.region ?_
              refine St.r (R.move rfl) rfl rfl ?_
              refine St.r (R.move rfl) rfl rfl ?_
              refine St.r (R.move rfl) rfl rfl ?_
              refine St.r (R.indexS k Tryz.underlying106 Tryz.sizeOf46 rfl rfl rfl (by omega)) rfl rfl ?_
              refine St.r (R.fieldA Tryz.underlying46 rfl Tryz.sizeOf9 rfl rfl rfl) rfl rfl ?_
              refine St.r (R.load1 Tryz.isAgg9 rfl (((r5.get hs).cut 0 1 rfl).at 0 rfl)) rfl rfl ?_
              refine St.call rfl rfl ent51 (rHas_ret _ (o4.reads encStr_len)) rfl ?_
              rintro r64 w64 ⟨rfl, e64⟩
              replace E := Ext.trans E e64
              replace o4 := o4.ext e64
              replace r5 := r5.ext (REnc.firm _) e64
              replace zz := Nat.le_trans zz (Chg.size e64)
              replace k9 := k9.ext e64
              refine St.r (R.assign rfl) rfl rfl ?_
              refine St.nil ?_
              refine St.weak [(4, _), (5, _), (6, _), (10, _)] ⟨rfl, rfl, rfl, rfl, trivial⟩ ?_
              refine St.then_n ?_
              refine St.go hK24 ?_
              clear hK24
              refine St.seq fun K25 hK25 => ?_
              refine St.region ?_
              refine St.r (R.move rfl) rfl rfl ?_
              refine St.r (R.not rfl) rfl rfl ?_
              refine St.nil ?_
              refine St.weak [(4, _), (5, _), (6, _), (66, _)] ⟨rfl, rfl, rfl, rfl, trivial⟩ ?_
              refine St.then_n ?_
              refine St.go hK25 ?_
              clear hK25
              refine St.cond rfl (fun h66 => ?_) (fun h66 => ?_)
              ·
                refine St.region ?_
                refine St.r (R.move rfl) rfl rfl ?_
                refine St.r (R.move rfl) rfl rfl ?_
                refine St.r (R.move rfl) rfl rfl ?_
                refine St.r (R.indexS k Tryz.underlying106 Tryz.sizeOf46 rfl rfl rfl (by omega)) rfl rfl ?_
                refine St.r (R.fieldA Tryz.underlying46 rfl Tryz.sizeOf9 rfl rfl rfl) rfl rfl ?_
                refine St.r (R.load1 Tryz.isAgg9 rfl (((r5.get hs).cut 0 1 rfl).at 0 rfl)) rfl rfl ?_
                refine St.buildSl Tryz.underlying23 Tryz.sizeOf9 Tryz.zeroValue9 rfl rfl rfl rfl (by intro u hu; simp only [List.mem_cons, List.not_mem_nil, or_false] at hu; first | (subst hu; rfl) | (rcases hu with rfl | rfl <;> rfl) | (rcases hu with rfl | rfl | rfl <;> rfl) | (rcases hu with rfl | rfl | rfl | rfl <;> rfl)) rfl ?_
                intro w73 b73 hb73 hs73 e73 k73
                have qE73 := E.size
                replace E := Ext.trans E e73
                replace o4 := o4.ext e73
                replace r5 := r5.ext (REnc.firm _) e73
                replace zz := Nat.le_trans zz (Chg.size e73)
                replace k9 := k9.ext e73
                refine St.append (enc := encStr) (fun _ => rfl) one_str Tryz.underlying23 info9 rfl rfl rfl rfl o4 (RSl.mk (enc := encStr) (xs := [s.var]) encStr_len k73.cells (fun i u hu => hu) (by simp) (by simp)) (by simp; omega) (by simp; omega) (by omega) rfl ?_
                intro v74 w74 a74 g74 at74
                replace E := Ext.then E g74 (by intro j hj hk; have := (o4.base hk).1; omega)
                replace r5 := r5.chg g74 (fun _ k hk e => by injection hk with hk; dsimp only at hk; have := (o4.base e).1; omega)
                replace zz := Nat.le_trans zz (Chg.size g74)
                clear o4; have o4 := a74; clear a74
                refine St.r (R.assign rfl) rfl rfl ?_
                refine St.nil ?_
                refine St.weak [(4, _), (5, _), (6, _)] ⟨rfl, rfl, rfl, trivial⟩ ?_
                refine St.in_n ?_
                refine St.then_n ?_
                refine St.go hK7 ?_
                clear hK7
                refine St.region ?_
                refine St.r (R.move rfl) rfl rfl ?_
                refine St.r (R.add rfl rfl (by omega) (by omega)) rfl rfl ?_
                refine St.r (R.assign rfl) rfl rfl ?_
                refine St.nil ?_
                refine St.weak [(4, _), (5, _), (6, _)] ⟨rfl, rfl, rfl, trivial⟩ ?_
                refine St.then_n ?_
                refine St.round (k + 1, v74) ⟨rfl, rfl, rfl, trivial⟩ ?_ ?_
                · try dsimp only
                  have hnt : s.term = noTerm := Term.ext' (Decidable.not_not.1 h47) (Decidable.not_not.1 h51) (Decidable.not_not.1 h57)
                  have hse : slotErr s = none := by rw [slotErr, if_neg h22, if_neg (by simpa using h39), if_neg (by simpa using hnt)]
                  refine ⟨by omega, E, ?_, r5, ?_, ?_⟩
                  · rw [take_snoc hs, List.foldl_append]; show Own _ _ _ _ _ _ (addS _ s); rw [addS, if_neg h22, addV, if_neg (by simpa using h66)]; exact o4
                  · rw [he, drop_at hs, List.map_cons, firstE_none (by rw [hse]; rfl)]
                  · exact zz
                · try dsimp only
                  omega
              ·
                refine St.skip ?_
                refine St.in_n ?_
                refine St.then_n ?_
                refine St.go hK7 ?_
                clear hK7
                refine St.region ?_
                refine St.r (R.move rfl) rfl rfl ?_
                refine St.r (R.add rfl rfl (by omega) (by omega)) rfl rfl ?_
                refine St.r (R.assign rfl) rfl rfl ?_
                refine St.nil ?_
                refine St.weak [(4, _), (5, _), (6, _)] ⟨rfl, rfl, rfl, trivial⟩ ?_
                refine St.then_n ?_
                refine St.round (k + 1, ov) ⟨rfl, rfl, rfl, trivial⟩ ?_ ?_
                · try dsimp only
                  have hnt : s.term = noTerm := Term.ext' (Decidable.not_not.1 h47) (Decidable.not_not.1 h51) (Decidable.not_not.1 h57)
                  have hse : slotErr s = none := by rw [slotErr, if_neg h22, if_neg (by simpa using h39), if_neg (by simpa using hnt)]
                  refine ⟨by omega, E, ?_, r5, ?_, ?_⟩
                  · rw [take_snoc hs, List.foldl_append]; show Own _ _ _ _ _ _ (addS _ s); rw [addS, if_neg h22, addV, if_pos (by simpa using h66)]; exact o4
                  · rw [he, drop_at hs, List.map_cons, firstE_none (by rw [hse]; rfl)]
                  · exact zz
                · try dsimp only
                  omega
  ·
    refine St.exit ?_
    refine St.then_x ?_
    refine St.then_x ?_
    refine St.in_x ?_
    refine St.then_n ?_
    refine St.go hK3 ?_
    clear hK3
    refine St.seq fun K26 hK26 => ?_
    refine St.region ?_
    refine St.r (R.move rfl) rfl rfl ?_
    refine St.r (R.assign rfl) rfl rfl ?_
    refine St.r (R.assign rfl) rfl rfl ?_
    refine St.nil ?_
    refine St.weak [(2, _), (3, _)] ⟨rfl, rfl, trivial⟩ ?_
    refine St.then_n ?_
    refine St.go hK26 ?_
    clear hK26
    refine St.ret ?_
    refine St.ret2 Tryz.results45 rfl rfl ?_
    have hk3 : k = 3 := by omega
    subst hk3
    have hpe : patErr p = none := by rw [he]; rfl
    exact ⟨_, rfl, _, by rw [hpe]; rfl, by rw [hpe, if_neg (by simp)]; exact o4.reads encStr_len, fun k hk => Nat.le_trans hZ0 (o4.base hk).1, E⟩

set_option maxHeartbeats 4000000 in
set_option maxRecDepth 100000 in
theorem rFits_ret {t : Triple} {p : Pat} (w0 : World) : Ret Tryz.prog 125 [.agg (encTriple t).toArray, .agg (encPat p).toArray] w0 fun r w' => r = .bool (fitsB p t) ∧ Ext w0 w' := by
  have E : Ext w0 w0 := Ext.refl w0
  refine St.enter (N := 72) Tryz.func125 rfl Tryz.ntmps125 rfl ?_
  refine St.seq fun K0 hK0 => ?_
  refine St.region ?_
  refine St.box rfl rfl ?_
  intro w2 b2 hb2 hs2 e2 k2
  have qE2 := E.size
  replace E := Ext.trans E e2
  refine St.box rfl rfl ?_
  intro w3 b3 hb3 hs3 e3 k3
  have qE3 := E.size
  replace E := Ext.trans E e3
  replace k2 := k2.ext e3
  refine St.r (R.assign rfl) rfl rfl ?_
  refine St.nil ?_
  refine St.weak [(2, _), (3, _)] ⟨rfl, rfl, trivial⟩ ?_
  refine St.then_n ?_
  refine St.go hK0 ?_
  clear hK0
  refine St.seq fun K1 hK1 => ?_
  refine St.region ?_
  refine St.r (R.loadA Tryz.isAgg48 Tryz.sizeOf48 rfl k3.cells rfl) rfl rfl ?_
  refine St.call rfl rfl ent54 (rSlots_ret _) rfl ?_
  rintro r10 w10 ⟨b5, rfl, r5, hb5, e10⟩
  replace E := Ext.trans E e10
  replace k2 := k2.ext e10
  replace k3 := k3.ext e10
  refine St.r (R.assign rfl) rfl rfl ?_
  refine St.nil ?_
  refine St.weak [(2, _), (5, _)] ⟨rfl, rfl, trivial⟩ ?_
  refine St.then_n ?_
  refine St.go hK1 ?_
  clear hK1
  refine St.seq fun K2 hK2 => ?_
  refine St.region ?_
  refine St.r (R.loadA Tryz.isAgg100 Tryz.sizeOf100 rfl k2.cells rfl) rfl rfl ?_
  refine St.call rfl rfl ent67 (rThree_ret _) rfl ?_
  rintro r12 w12 ⟨b6, rfl, r6, hb6, e12⟩
  replace E := Ext.trans E e12
  replace k2 := k2.ext e12
  replace k3 := k3.ext e12
  replace r5 := r5.ext (REnc.firm _) e12
  refine St.r (R.assign rfl) rfl rfl ?_
  refine St.nil ?_
  refine St.weak [(5, _), (6, _)] ⟨rfl, rfl, trivial⟩ ?_
  refine St.then_n ?_
  refine St.go hK2 ?_
  clear hK2
  refine St.seq fun K3 hK3 => ?_
  refine St.seq fun K4 hK4 => ?_
  refine St.region ?_
  refine St.r (R.assign rfl) rfl rfl ?_
  refine St.nil ?_
  refine St.weak [(5, _), (6, _), (7, _)] ⟨rfl, rfl, rfl, trivial⟩ ?_
  refine St.then_n ?_
  refine St.go hK4 ?_
  clear hK4
  refine St.block ?_
  refine St.loop (fun (i : Nat) => [(5, .slice (some ⟨b5, 0, none⟩) 3 3), (6, .slice (some ⟨b6, 0, none⟩) 3 3), (7, .int .i64 (i : Int))])
      (fun (i : Nat) w => i ≤ 3 ∧ Ext w0 w ∧ RSl (REnc encSlot) 4 w (.slice (some ⟨b5, 0, none⟩) 3 3) (slotsOf p) ∧ RTerms w (.slice (some ⟨b6, 0, none⟩) 3 3) (termsOf t) ∧ ∀ j, j < i → badSlot (slotsOf p) (termsOf t) j = false ∧ ∀ k, k < j → badPair (slotsOf p) (termsOf t) j k = false)
      (fun (i : Nat) => 3 - i) 0 ⟨rfl, rfl, rfl, trivial⟩ ?_ ?_
  · exact ⟨Nat.zero_le _, E, r5, r6, fun j h => by omega⟩
  rintro i w ⟨hi, E, r5, r6, hall⟩
  show St _ _ [(5, .slice (some ⟨b5, 0, none⟩) 3 3), (6, .slice (some ⟨b6, 0, none⟩) 3 3), (7, .int .i64 (i : Int))] _ _
  refine St.seq fun K5 hK5 => ?_
  refine St.seq fun K6 hK6 => ?_
  refine St.region ?_
  refine St.r (R.move rfl) rfl rfl ?_
  refine St.r (R.lss rfl rfl) rfl rfl ?_
  refine St.nil ?_
  refine St.weak [(5, _), (6, _), (7, _), (14, _)] ⟨rfl, rfl, rfl, rfl, trivial⟩ ?_
  refine St.then_n ?_
  refine St.go hK6 ?_
  clear hK6
  refine St.condD rfl (fun h14 => ?_) (fun h14 => ?_)
  ·
    obtain ⟨s, hs⟩ := slots_get (p := p) (i := i) (by omega)
    obtain ⟨x, hx⟩ := terms_get (t := t) (i := i) (by omega)
    refine St.skip ?_
    refine St.then_n ?_
    refine St.go hK5 ?_
    clear hK5
    refine St.seq fun K7 hK7 => ?_
    refine St.block ?_
    refine St.seqJ (fun (x : Unit) => match x with | () => [(5, .slice (some ⟨b5, 0, none⟩) 3 3), (6, .slice (some ⟨b6, 0, none⟩) 3 3), (7, .int .i64 (i : Int))])
        (fun (x : Unit) w => match x with | () => Ext w0 w ∧ RSl (REnc encSlot) 4 w (.slice (some ⟨b5, 0, none⟩) 3 3) (slotsOf p) ∧ RTerms w (.slice (some ⟨b6, 0, none⟩) 3 3) (termsOf t) ∧ badSlot (slotsOf p) (termsOf t) i = false) ?_ ?_
    · rintro _ w ⟨E, r5, r6, hbs⟩
      show St _ _ [(5, .slice (some ⟨b5, 0, none⟩) 3 3), (6, .slice (some ⟨b6, 0, none⟩) 3 3), (7, .int .i64 (i : Int))] _ _
      refine St.seq fun K9 hK9 => ?_
      refine St.region ?_
      refine St.r (R.assign rfl) rfl rfl ?_
      refine St.nil ?_
      refine St.weak [(5, _), (6, _), (7, _), (8, _)] ⟨rfl, rfl, rfl, rfl, trivial⟩ ?_
      refine St.then_n ?_
      refine St.go hK9 ?_
      clear hK9
      refine St.block ?_
      refine St.loop (fun (k : Nat) => [(5, .slice (some ⟨b5, 0, none⟩) 3 3), (6, .slice (some ⟨b6, 0, none⟩) 3 3), (7, .int .i64 (i : Int)), (8, .int .i64 (k : Int))])
          (fun (k : Nat) w => k ≤ i ∧ Ext w0 w ∧ RSl (REnc encSlot) 4 w (.slice (some ⟨b5, 0, none⟩) 3 3) (slotsOf p) ∧ RTerms w (.slice (some ⟨b6, 0, none⟩) 3 3) (termsOf t) ∧ ∀ j, j < k → badPair (slotsOf p) (termsOf t) i j = false)
          (fun (k : Nat) => i - k) 0 ⟨rfl, rfl, rfl, rfl, trivial⟩ ?_ ?_
      · exact ⟨Nat.zero_le _, E, r5, r6, fun j h => by omega⟩
      rintro k w ⟨hki, E, r5, r6, hin⟩
      show St _ _ [(5, .slice (some ⟨b5, 0, none⟩) 3 3), (6, .slice (some ⟨b6, 0, none⟩) 3 3), (7, .int .i64 (i : Int)), (8, .int .i64 (k : Int))] _ _
      refine St.seq fun K10 hK10 => ?_
      refine St.seq fun K11 hK11 => ?_
      refine St.region ?_
      refine St.r (R.move rfl) rfl rfl ?_
      refine St.r (R.move rfl) rfl rfl ?_
      refine St.r (R.lss rfl rfl) rfl rfl ?_
      refine St.nil ?_
      refine St.weak [(5, _), (6, _), (7, _), (8, _), (38, _)] ⟨rfl, rfl, rfl, rfl, rfl, trivial⟩ ?_
      refine St.then_n ?_
      refine St.go hK11 ?_
      clear hK11
      refine St.condD rfl (fun h38 => ?_) (fun h38 => ?_)
      ·
        obtain ⟨u, hu⟩ := slots_get (p := p) (i := k) (by omega)
        obtain ⟨y, hy⟩ := terms_get (t := t) (i := k) (by omega)
        refine St.skip ?_
        refine St.then_n ?_
        refine St.go hK10 ?_
        clear hK10
        refine St.seq fun K12 hK12 => ?_
        refine St.block ?_
        refine St.seq fun K13 hK13 => ?_
        by_cases h46 : s.var ≠ ⟨#[]⟩
        ·
          by_cases h58 : u.var = s.var
          ·
            refine St.weak [(5, _), (6, _), (7, _), (8, _)] ⟨rfl, rfl, rfl, rfl, trivial⟩ ?_
            refine St.drawX mixed rfl rfl rfl rfl ?_
            replace E := Ext.trans E (Ext.drew _)
            replace r5 := r5.ext (REnc.firm _) (Ext.drew _)
            replace r6 := r6.ext (REnc.firm _) (Ext.drew _)
            refine ⟨_, fun W eW => OpX.q (OpOk.r (R.move rfl) rfl), ?_⟩
            refine ⟨_, fun W eW => OpX.q (OpOk.r (R.move rfl) rfl), ?_⟩
            refine ⟨_, fun W eW => OpX.q (OpOk.r (R.indexS i Tryz.underlying106 Tryz.sizeOf46 rfl rfl rfl (by omega)) rfl), ?_⟩
            refine ⟨_, fun W eW => OpX.q (OpOk.r (R.fieldA Tryz.underlying46 rfl Tryz.sizeOf9 rfl rfl rfl) rfl), ?_⟩
            refine ⟨_, fun W eW => OpX.q (OpOk.r (R.load1 Tryz.isAgg9 rfl ((((r5.ext (REnc.firm _) eW).get hs).cut 0 1 rfl).at 0 rfl)) rfl), ?_⟩
            refine ⟨_, fun W eW => OpX.q (OpOk.r (Runs.lit (c := true) (R.neS rfl rfl) (decide_eq_true h46)) rfl), ?_⟩
            refine ⟨_, fun W eW => OpX.q (OpOk.r (R.move rfl) rfl), ?_⟩
            refine ⟨_, fun W eW => OpX.q (OpOk.take (dg := 47) (R.move rfl) rfl rfl rfl rfl), ?_⟩
            refine ⟨_, fun W eW => OpX.q (OpOk.take (dg := 47) (R.move rfl) rfl rfl rfl rfl), ?_⟩
            refine ⟨_, fun W eW => OpX.q (OpOk.take (dg := 47) (R.indexS k Tryz.underlying106 Tryz.sizeOf46 rfl rfl rfl (by omega)) rfl rfl rfl rfl), ?_⟩
            refine ⟨_, fun W eW => OpX.q (OpOk.take (dg := 47) (R.fieldA Tryz.underlying46 rfl Tryz.sizeOf9 rfl rfl rfl) rfl rfl rfl rfl), ?_⟩
            refine ⟨_, fun W eW => OpX.q (OpOk.take (dg := 47) (R.load1 Tryz.isAgg9 rfl ((((r5.ext (REnc.firm _) eW).get hu).cut 0 1 rfl).at 0 rfl)) rfl rfl rfl rfl), ?_⟩
            refine ⟨_, fun W eW => OpX.q (OpOk.take (dg := 47) (R.move rfl) rfl rfl rfl rfl), ?_⟩
            refine ⟨_, fun W eW => OpX.q (OpOk.take (dg := 47) (R.move rfl) rfl rfl rfl rfl), ?_⟩
            refine ⟨_, fun W eW => OpX.q (OpOk.take (dg := 47) (R.indexS i Tryz.underlying106 Tryz.sizeOf46 rfl rfl rfl (by omega)) rfl rfl rfl rfl), ?_⟩
            refine ⟨_, fun W eW => OpX.q (OpOk.take (dg := 47) (R.fieldA Tryz.underlying46 rfl Tryz.sizeOf9 rfl rfl rfl) rfl rfl rfl rfl), ?_⟩
            refine ⟨_, fun W eW => OpX.q (OpOk.take (dg := 47) (R.load1 Tryz.isAgg9 rfl ((((r5.ext (REnc.firm _) eW).get hs).cut 0 1 rfl).at 0 rfl)) rfl rfl rfl rfl), ?_⟩
            refine ⟨_, fun W eW => OpX.q (OpOk.take (dg := 47) (Runs.lit (c := true) (R.eqS rfl rfl) (decide_eq_true h58)) rfl rfl rfl rfl), ?_⟩
            refine ⟨_, fun W eW => OpX.q (OpOk.r (R.pickT rfl rfl) rfl), ?_⟩
            refine ⟨_, fun W eW => OpX.q (OpOk.r (R.move rfl) rfl), ?_⟩
            refine ⟨_, fun W eW => OpX.q (OpOk.take (dg := 60) (R.move rfl) rfl rfl rfl rfl), ?_⟩
            refine ⟨_, fun W eW => OpX.q (OpOk.take (dg := 60) (R.move rfl) rfl rfl rfl rfl), ?_⟩
            refine ⟨_, fun W eW => OpX.q (OpOk.take (dg := 60) (R.indexS k Tryz.underlying85 Tryz.sizeOf44 rfl rfl rfl (by omega)) rfl rfl rfl rfl), ?_⟩
            refine ⟨_, fun W eW => OpX.q (OpOk.take (dg := 60) (R.loadA Tryz.isAgg44 Tryz.sizeOf44 rfl ((r6.ext (REnc.firm _) eW).get hy) rfl) rfl rfl rfl rfl), ?_⟩
            refine ⟨_, fun W eW => OpX.q (OpOk.take (dg := 60) (R.move rfl) rfl rfl rfl rfl), ?_⟩
            refine ⟨_, fun W eW => OpX.q (OpOk.take (dg := 60) (R.move rfl) rfl rfl rfl rfl), ?_⟩
            refine ⟨_, fun W eW => OpX.q (OpOk.take (dg := 60) (R.indexS i Tryz.underlying85 Tryz.sizeOf44 rfl rfl rfl (by omega)) rfl rfl rfl rfl), ?_⟩
            refine ⟨_, fun W eW => OpX.q (OpOk.take (dg := 60) (R.loadA Tryz.isAgg44 Tryz.sizeOf44 rfl ((r6.ext (REnc.firm _) eW).get hx) rfl) rfl rfl rfl rfl), ?_⟩
            refine ⟨_, fun W eW => OpX.callG (dg := 60) rfl rfl ent110 (rCompare_ret (a := y) (b := x) _) rfl rfl rfl, ?_⟩
            refine ⟨_, fun W eW => OpX.q (OpOk.take (dg := 60) (R.neq rfl rfl) rfl rfl rfl rfl), ?_⟩
            refine ⟨_, fun W eW => OpX.q (OpOk.r (R.pickT rfl rfl) rfl), ?_⟩
            show ∀ w', Ext _ w' → St _ _ _ _ w'
            intro wd11 ed11
            replace E := Ext.trans E ed11
            replace r5 := r5.ext (REnc.firm _) ed11
            replace r6 := r6.ext (REnc.firm _) ed11
            refine St.weak [(5, _), (6, _), (7, _), (8, _), (71, _)] ⟨rfl, rfl, rfl, rfl, rfl, trivial⟩ ?_
            refine St.then_n ?_
            refine St.go hK13 ?_
            clear hK13
            refine St.condD rfl (fun h71 => ?_) (fun h71 => ?_)
            ·
              refine St.seq fun K14 hK14 => ?_
              refine St.region ?_
              refine St.r (R.assign rfl) rfl rfl ?_
              refine St.nil ?_
              refine St.weak [(4, _)] ⟨rfl, trivial⟩ ?_
              refine St.then_n ?_
              refine St.go hK14 ?_
              clear hK14
              refine St.ret ?_
              refine St.in_r ?_
              refine St.then_r ?_
              refine St.then_r ?_
              refine St.in_r ?_
              refine St.in_r ?_
              refine St.then_r ?_
              refine St.then_r ?_
              refine St.in_r ?_
              refine St.then_r ?_
              refine St.ret1 Tryz.results125 rfl ?_
              exact ⟨_, rfl, by rw [fitsB_pair (i := i) (k := k) (by omega) (by omega) (by rw [badPair_at hs hx hu hy, decide_eq_true h46, decide_eq_true h58, decide_eq_true (show y ≠ x from fun e => h71 ((termCmp_is.eq _ _).2 e))]; rfl)], E⟩
            ·
              refine St.skip ?_
              refine St.in_n ?_
              refine St.then_n ?_
              refine St.go hK12 ?_
              clear hK12
              refine St.region ?_
              refine St.r (R.move rfl) rfl rfl ?_
              refine St.r (R.add rfl rfl (by omega) (by omega)) rfl rfl ?_
              refine St.r (R.assign rfl) rfl rfl ?_
              refine St.nil ?_
              refine St.weak [(5, _), (6, _), (7, _), (8, _)] ⟨rfl, rfl, rfl, rfl, trivial⟩ ?_
              refine St.then_n ?_
              refine St.round (k + 1) ⟨rfl, rfl, rfl, rfl, trivial⟩ ?_ ?_
              · refine ⟨by omega, E, r5, r6, fun j hj => ?_⟩
                rcases Nat.lt_or_ge j k with h | h
                · exact hin j h
                · obtain rfl : j = k := by omega
                  rw [badPair_at hs hx hu hy, decide_eq_true h46, decide_eq_true h58, (termCmp_is.eq _ _).1 (Decidable.not_not.1 h71)]; simp --]
              · omega
          ·
            refine St.weak [(5, _), (6, _), (7, _), (8, _)] ⟨rfl, rfl, rfl, rfl, trivial⟩ ?_
            refine St.drawX mixed rfl rfl rfl rfl ?_
            replace E := Ext.trans E (Ext.drew _)
            replace r5 := r5.ext (REnc.firm _) (Ext.drew _)
            replace r6 := r6.ext (REnc.firm _) (Ext.drew _)
            refine ⟨_, fun W eW => OpX.q (OpOk.r (R.move rfl) rfl), ?_⟩
            refine ⟨_, fun W eW => OpX.q (OpOk.r (R.move rfl) rfl), ?_⟩
            refine ⟨_, fun W eW => OpX.q (OpOk.r (R.indexS i Tryz.underlying106 Tryz.sizeOf46 rfl rfl rfl (by omega)) rfl), ?_⟩
            refine ⟨_, fun W eW => OpX.q (OpOk.r (R.fieldA Tryz.underlying46 rfl Tryz.sizeOf9 rfl rfl rfl) rfl), ?_⟩
            refine ⟨_, fun W eW => OpX.q (OpOk.r (R.load1 Tryz.isAgg9 rfl ((((r5.ext (REnc.firm _) eW).get hs).cut 0 1 rfl).at 0 rfl)) rfl), ?_⟩
            refine ⟨_, fun W eW => OpX.q (OpOk.r (Runs.lit (c := true) (R.neS rfl rfl) (decide_eq_true h46)) rfl), ?_⟩
            refine ⟨_, fun W eW => OpX.q (OpOk.r (R.move rfl) rfl), ?_⟩
            refine ⟨_, fun W eW => OpX.q (OpOk.take (dg := 47) (R.move rfl) rfl rfl rfl rfl), ?_⟩
            refine ⟨_, fun W eW => OpX.q (OpOk.take (dg := 47) (R.move rfl) rfl rfl rfl rfl), ?_⟩
            refine ⟨_, fun W eW => OpX.q (OpOk.take (dg := 47) (R.indexS k Tryz.underlying106 Tryz.sizeOf46 rfl rfl rfl (by omega)) rfl rfl rfl rfl), ?_⟩
            refine ⟨_, fun W eW => OpX.q (OpOk.take (dg := 47) (R.fieldA Tryz.underlying46 rfl Tryz.sizeOf9 rfl rfl rfl) rfl rfl rfl rfl), ?_⟩
            refine ⟨_, fun W eW => OpX.q (OpOk.take (dg := 47) (R.load1 Tryz.isAgg9 rfl ((((r5.ext (REnc.firm _) eW).get hu).cut 0 1 rfl).at 0 rfl)) rfl rfl rfl rfl), ?_⟩
            refine ⟨_, fun W eW => OpX.q (OpOk.take (dg := 47) (R.move rfl) rfl rfl rfl rfl), ?_⟩
            refine ⟨_, fun W eW => OpX.q (OpOk.take (dg := 47) (R.move rfl) rfl rfl rfl rfl), ?_⟩
            refine ⟨_, fun W eW => OpX.q (OpOk.take (dg := 47) (R.indexS i Tryz.underlying106 Tryz.sizeOf46 rfl rfl rfl (by omega)) rfl rfl rfl rfl), ?_⟩
            refine ⟨_, fun W eW => OpX.q (OpOk.take (dg := 47) (R.fieldA Tryz.underlying46 rfl Tryz.sizeOf9 rfl rfl rfl) rfl rfl rfl rfl), ?_⟩
            refine ⟨_, fun W eW => OpX.q (OpOk.take (dg := 47) (R.load1 Tryz.isAgg9 rfl ((((r5.ext (REnc.firm _) eW).get hs).cut 0 1 rfl).at 0 rfl)) rfl rfl rfl rfl), ?_⟩
            refine ⟨_, fun W eW => OpX.q (OpOk.take (dg := 47) (Runs.lit (c := false) (R.eqS rfl rfl) (decide_eq_false h58)) rfl rfl rfl rfl), ?_⟩
            refine ⟨_, fun W eW => OpX.q (OpOk.r (R.pickT rfl rfl) rfl), ?_⟩
            refine ⟨_, fun W eW => OpX.q (OpOk.r (R.move rfl) rfl), ?_⟩
            refine ⟨_, fun W eW => OpX.q (OpOk.pass (dg := 60) rfl rfl rfl rfl rfl), ?_⟩
            refine ⟨_, fun W eW => OpX.q (OpOk.pass (dg := 60) rfl rfl rfl rfl rfl), ?_⟩
            refine ⟨_, fun W eW => OpX.q (OpOk.pass (dg := 60) rfl rfl rfl rfl rfl), ?_⟩
            refine ⟨_, fun W eW => OpX.q (OpOk.pass (dg := 60) rfl rfl rfl rfl rfl), ?_⟩
            refine ⟨_, fun W eW => OpX.q (OpOk.pass (dg := 60) rfl rfl rfl rfl rfl), ?_⟩
            refine ⟨_, fun W eW => OpX.q (OpOk.pass (dg := 60) rfl rfl rfl rfl rfl), ?_⟩
            refine ⟨_, fun W eW => OpX.q (OpOk.pass (dg := 60) rfl rfl rfl rfl rfl), ?_⟩
            refine ⟨_, fun W eW => OpX.q (OpOk.pass (dg := 60) rfl rfl rfl rfl rfl), ?_⟩
            refine ⟨_, fun W eW => OpX.q (OpOk.pass (dg := 60) rfl rfl rfl rfl rfl), ?_⟩
            refine ⟨_, fun W eW => OpX.q (OpOk.pass (dg := 60) rfl rfl rfl rfl rfl), ?_⟩
            refine ⟨_, fun W eW => OpX.q (OpOk.r (R.pickF rfl rfl) rfl), ?_⟩
            show ∀ w', Ext _ w' → St _ _ _ _ w'
            intro wd11 ed11
            replace E := Ext.trans E ed11
            replace r5 := r5.ext (REnc.firm _) ed11
            replace r6 := r6.ext (REnc.firm _) ed11
            refine St.weak [(5, _), (6, _), (7, _), (8, _), (71, _)] ⟨rfl, rfl, rfl, rfl, rfl, trivial⟩ ?_
            refine St.then_n ?_
            refine St.go hK13 ?_
            clear hK13
            refine St.condF rfl ?_
            refine St.skip ?_
            refine St.in_n ?_
            refine St.then_n ?_
            refine St.go hK12 ?_
            clear hK12
            refine St.region ?_
            refine St.r (R.move rfl) rfl rfl ?_
            refine St.r (R.add rfl rfl (by omega) (by omega)) rfl rfl ?_
            refine St.r (R.assign rfl) rfl rfl ?_
            refine St.nil ?_
            refine St.weak [(5, _), (6, _), (7, _), (8, _)] ⟨rfl, rfl, rfl, rfl, trivial⟩ ?_
            refine St.then_n ?_
            refine St.round (k + 1) ⟨rfl, rfl, rfl, rfl, trivial⟩ ?_ ?_
            · refine ⟨by omega, E, r5, r6, fun j hj => ?_⟩
              rcases Nat.lt_or_ge j k with h | h
              · exact hin j h
              · obtain rfl : j = k := by omega
                rw [badPair_at hs hx hu hy, decide_eq_true h46, decide_eq_false h58]; rfl --]
            · omega
        ·
          refine St.weak [(5, _), (6, _), (7, _), (8, _)] ⟨rfl, rfl, rfl, rfl, trivial⟩ ?_
          refine St.drawX mixed rfl rfl rfl rfl ?_
          replace E := Ext.trans E (Ext.drew _)
          replace r5 := r5.ext (REnc.firm _) (Ext.drew _)
          replace r6 := r6.ext (REnc.firm _) (Ext.drew _)
          refine ⟨_, fun W eW => OpX.q (OpOk.r (R.move rfl) rfl), ?_⟩
          refine ⟨_, fun W eW => OpX.q (OpOk.r (R.move rfl) rfl), ?_⟩
          refine ⟨_, fun W eW => OpX.q (OpOk.r (R.indexS i Tryz.underlying106 Tryz.sizeOf46 rfl rfl rfl (by omega)) rfl), ?_⟩
          refine ⟨_, fun W eW => OpX.q (OpOk.r (R.fieldA Tryz.underlying46 rfl Tryz.sizeOf9 rfl rfl rfl) rfl), ?_⟩
          refine ⟨_, fun W eW => OpX.q (OpOk.r (R.load1 Tryz.isAgg9 rfl ((((r5.ext (REnc.firm _) eW).get hs).cut 0 1 rfl).at 0 rfl)) rfl), ?_⟩
          refine ⟨_, fun W eW => OpX.q (OpOk.r (Runs.lit (c := false) (R.neS rfl rfl) (decide_eq_false h46)) rfl), ?_⟩
          refine ⟨_, fun W eW => OpX.q (OpOk.r (R.move rfl) rfl), ?_⟩
          refine ⟨_, fun W eW => OpX.q (OpOk.pass (dg := 47) rfl rfl rfl rfl rfl), ?_⟩
          refine ⟨_, fun W eW => OpX.q (OpOk.pass (dg := 47) rfl rfl rfl rfl rfl), ?_⟩
          refine ⟨_, fun W eW => OpX.q (OpOk.pass (dg := 47) rfl rfl rfl rfl rfl), ?_⟩
          refine ⟨_, fun W eW => OpX.q (OpOk.pass (dg := 47) rfl rfl rfl rfl rfl), ?_⟩
          refine ⟨_, fun W eW => OpX.q (OpOk.pass (dg := 47) rfl rfl rfl rfl rfl), ?_⟩
          refine ⟨_, fun W eW => OpX.q (OpOk.pass (dg := 47) rfl rfl rfl rfl rfl), ?_⟩
          refine ⟨_, fun W eW => OpX.q (OpOk.pass (dg := 47) rfl rfl rfl rfl rfl), ?_⟩
          refine ⟨_, fun W eW => OpX.q (OpOk.pass (dg := 47) rfl rfl rfl rfl rfl), ?_⟩
          refine ⟨_, fun W eW => OpX.q (OpOk.pass (dg := 47) rfl rfl rfl rfl rfl), ?_⟩
          refine ⟨_, fun W eW => OpX.q (OpOk.pass (dg := 47) rfl rfl rfl rfl rfl), ?_⟩
          refine ⟨_, fun W eW => OpX.q (OpOk.pass (dg := 47) rfl rfl rfl rfl rfl), ?_⟩
          refine ⟨_, fun W eW => OpX.q (OpOk.r (R.pickF rfl rfl) rfl), ?_⟩
          refine ⟨_, fun W eW => OpX.q (OpOk.r (R.move rfl) rfl), ?_⟩
          refine ⟨_, fun W eW => OpX.q (OpOk.pass (dg := 60) rfl rfl rfl rfl rfl), ?_⟩
          refine ⟨_, fun W eW => OpX.q (OpOk.pass (dg := 60) rfl rfl rfl rfl rfl), ?_⟩
          refine ⟨_, fun W eW => OpX.q (OpOk.pass (dg := 60) rfl rfl rfl rfl rfl), ?_⟩
          refine ⟨_, fun W eW => OpX.q (OpOk.pass (dg := 60) rfl rfl rfl rfl rfl), ?_⟩
          refine ⟨_, fun W eW => OpX.q (OpOk.pass (dg := 60) rfl rfl rfl rfl rfl), ?_⟩
          refine ⟨_, fun W eW => OpX.q (OpOk.pass (dg := 60) rfl rfl rfl rfl rfl), ?_⟩
          refine ⟨_, fun W eW => OpX.q (OpOk.pass (dg := 60) rfl rfl rfl rfl rfl), ?_⟩
          refine ⟨_, fun W eW => OpX.q (OpOk.pass (dg := 60) rfl rfl rfl rfl rfl), ?_⟩
          refine ⟨_, fun W eW => OpX.q (OpOk.pass (dg := 60) rfl rfl rfl rfl rfl), ?_⟩
          refine ⟨_, fun W eW => OpX.q (OpOk.pass (dg := 60) rfl rfl rfl rfl rfl), ?_⟩
          refine ⟨_, fun W eW => OpX.q (OpOk.r (R.pickF rfl rfl) rfl), ?_⟩
          show ∀ w', Ext _ w' → St _ _ _ _ w'
          intro wd11 ed11
          replace E := Ext.trans E ed11
          replace r5 := r5.ext (REnc.firm _) ed11
          replace r6 := r6.ext (REnc.firm _) ed11
          refine St.weak [(5, _), (6, _), (7, _), (8, _), (71, _)] ⟨rfl, rfl, rfl, rfl, rfl, trivial⟩ ?_
          refine St.then_n ?_
          refine St.go hK13 ?_
          clear hK13
          refine St.condF rfl ?_
          refine St.skip ?_
          refine St.in_n ?_
          refine St.then_n ?_
          refine St.go hK12 ?_
          clear hK12
          refine St.region ?_
          refine St.r (R.move rfl) rfl rfl ?_
          refine St.r (R.add rfl rfl (by omega) (by omega)) rfl rfl ?_
          refine St.r (R.assign rfl) rfl rfl ?_
          refine St.nil ?_
          refine St.weak [(5, _), (6, _), (7, _), (8, _)] ⟨rfl, rfl, rfl, rfl, trivial⟩ ?_
          refine St.then_n ?_
          refine St.round (k + 1) ⟨rfl, rfl, rfl, rfl, trivial⟩ ?_ ?_
          · refine ⟨by omega, E, r5, r6, fun j hj => ?_⟩
            rcases Nat.lt_or_ge j k with h | h
            · exact hin j h
            · obtain rfl : j = k := by omega
              rw [badPair_at hs hx hu hy, decide_eq_false h46]; rfl --]
          · omega
      ·
        refine St.exit ?_
        refine St.then_x ?_
        refine St.then_x ?_
        refine St.in_x ?_
        refine St.in_n ?_
        refine St.then_n ?_
        refine St.go hK7 ?_
        clear hK7
        refine St.region ?_
        refine St.r (R.move rfl) rfl rfl ?_
        refine St.r (R.add rfl rfl (by omega) (by omega)) rfl rfl ?_
        refine St.r (R.assign rfl) rfl rfl ?_
        refine St.nil ?_
        refine St.weak [(5, _), (6, _), (7, _)] ⟨rfl, rfl, rfl, trivial⟩ ?_
        refine St.then_n ?_
        refine St.round (i + 1) ⟨rfl, rfl, rfl, trivial⟩ ?_ ?_
        · refine ⟨by omega, E, r5, r6, fun j hj => ?_⟩
          rcases Nat.lt_or_ge j i with h | h
          · exact hall j h
          · obtain rfl : j = i := by omega
            exact ⟨hbs, fun k hk => hin k (by omega)⟩
        · omega
    intro K8 hK8
    refine St.seq fun K15 hK15 => ?_
    by_cases h22 : s.var = ⟨#[]⟩
    ·
      refine St.weak [(5, _), (6, _), (7, _)] ⟨rfl, rfl, rfl, trivial⟩ ?_
      refine St.drawX mixed rfl rfl rfl rfl ?_
      replace E := Ext.trans E (Ext.drew _)
      replace r5 := r5.ext (REnc.firm _) (Ext.drew _)
      replace r6 := r6.ext (REnc.firm _) (Ext.drew _)
      refine ⟨_, fun W eW => OpX.q (OpOk.r (R.move rfl) rfl), ?_⟩
      refine ⟨_, fun W eW => OpX.q (OpOk.r (R.move rfl) rfl), ?_⟩
      refine ⟨_, fun W eW => OpX.q (OpOk.r (R.indexS i Tryz.underlying106 Tryz.sizeOf46 rfl rfl rfl (by omega)) rfl), ?_⟩
      refine ⟨_, fun W eW => OpX.q (OpOk.r (R.fieldA Tryz.underlying46 rfl Tryz.sizeOf9 rfl rfl rfl) rfl), ?_⟩
      refine ⟨_, fun W eW => OpX.q (OpOk.r (R.load1 Tryz.isAgg9 rfl ((((r5.ext (REnc.firm _) eW).get hs).cut 0 1 rfl).at 0 rfl)) rfl), ?_⟩
      refine ⟨_, fun W eW => OpX.q (OpOk.r (Runs.lit (c := true) (R.eqS rfl rfl) (decide_eq_true h22)) rfl), ?_⟩
      refine ⟨_, fun W eW => OpX.q (OpOk.r (R.move rfl) rfl), ?_⟩
      refine ⟨_, fun W eW => OpX.q (OpOk.take (dg := 23) (R.move rfl) rfl rfl rfl rfl), ?_⟩
      refine ⟨_, fun W eW => OpX.q (OpOk.take (dg := 23) (R.move rfl) rfl rfl rfl rfl), ?_⟩
      refine ⟨_, fun W eW => OpX.q (OpOk.take (dg := 23) (R.indexS i Tryz.underlying106 Tryz.sizeOf46 rfl rfl rfl (by omega)) rfl rfl rfl rfl), ?_⟩
      refine ⟨_, fun W eW => OpX.q (OpOk.take (dg := 23) (R.fieldA Tryz.underlying46 rfl Tryz.sizeOf44 rfl rfl rfl) rfl rfl rfl rfl), ?_⟩
      refine ⟨_, fun W eW => OpX.q (OpOk.take (dg := 23) (R.loadA Tryz.isAgg44 Tryz.sizeOf44 rfl (((r5.ext (REnc.firm _) eW).get hs).cut 1 3 rfl) rfl) rfl rfl rfl rfl), ?_⟩
      refine ⟨_, fun W eW => OpX.q (OpOk.take (dg := 23) (R.move rfl) rfl rfl rfl rfl), ?_⟩
      refine ⟨_, fun W eW => OpX.q (OpOk.take (dg := 23) (R.move rfl) rfl rfl rfl rfl), ?_⟩
      refine ⟨_, fun W eW => OpX.q (OpOk.take (dg := 23) (R.indexS i Tryz.underlying85 Tryz.sizeOf44 rfl rfl rfl (by omega)) rfl rfl rfl rfl), ?_⟩
      refine ⟨_, fun W eW => OpX.q (OpOk.take (dg := 23) (R.loadA Tryz.isAgg44 Tryz.sizeOf44 rfl ((r6.ext (REnc.firm _) eW).get hx) rfl) rfl rfl rfl rfl), ?_⟩
      refine ⟨_, fun W eW => OpX.callG (dg := 23) rfl rfl ent110 (rCompare_ret (a := s.term) (b := x) _) rfl rfl rfl, ?_⟩
      refine ⟨_, fun W eW => OpX.q (OpOk.take (dg := 23) (R.neq rfl rfl) rfl rfl rfl rfl), ?_⟩
      refine ⟨_, fun W eW => OpX.q (OpOk.r (R.pickT rfl rfl) rfl), ?_⟩
      show ∀ w', Ext _ w' → St _ _ _ _ w'
      intro wd6 ed6
      replace E := Ext.trans E ed6
      replace r5 := r5.ext (REnc.firm _) ed6
      replace r6 := r6.ext (REnc.firm _) ed6
      refine St.weak [(5, _), (6, _), (7, _), (35, _)] ⟨rfl, rfl, rfl, rfl, trivial⟩ ?_
      refine St.then_n ?_
      refine St.go hK15 ?_
      clear hK15
      refine St.condD rfl (fun h35 => ?_) (fun h35 => ?_)
      ·
        refine St.seq fun K16 hK16 => ?_
        refine St.region ?_
        refine St.r (R.assign rfl) rfl rfl ?_
        refine St.nil ?_
        refine St.weak [(4, _)] ⟨rfl, trivial⟩ ?_
        refine St.then_n ?_
        refine St.go hK16 ?_
        clear hK16
        refine St.ret ?_
        refine St.then_r ?_
        refine St.in_r ?_
        refine St.then_r ?_
        refine St.then_r ?_
        refine St.in_r ?_
        refine St.then_r ?_
        refine St.ret1 Tryz.results125 rfl ?_
        exact ⟨_, rfl, by rw [fitsB_slot (i := i) (by omega) (by rw [badSlot_at hs hx, decide_eq_true h22, decide_eq_true (show s.term ≠ x from fun e => h35 ((termCmp_is.eq _ _).2 e))]; rfl)], E⟩
      ·
        refine St.skip ?_
        refine St.then_n ?_
        refine St.meet hK8 () ⟨rfl, rfl, rfl, trivial⟩ ?_
        · exact ⟨E, r5, r6, by rw [badSlot_at hs hx, decide_eq_true h22, (termCmp_is.eq _ _).1 (Decidable.not_not.1 h35)]; simp⟩
    ·
      refine St.weak [(5, _), (6, _), (7, _)] ⟨rfl, rfl, rfl, trivial⟩ ?_
      refine St.drawX mixed rfl rfl rfl rfl ?_
      replace E := Ext.trans E (Ext.drew _)
      replace r5 := r5.ext (REnc.firm _) (Ext.drew _)
      replace r6 := r6.ext (REnc.firm _) (Ext.drew _)
      refine ⟨_, fun W eW => OpX.q (OpOk.r (R.move rfl) rfl), ?_⟩
      refine ⟨_, fun W eW => OpX.q (OpOk.r (R.move rfl) rfl), ?_⟩
      refine ⟨_, fun W eW => OpX.q (OpOk.r (R.indexS i Tryz.underlying106 Tryz.sizeOf46 rfl rfl rfl (by omega)) rfl), ?_⟩
      refine ⟨_, fun W eW => OpX.q (OpOk.r (R.fieldA Tryz.underlying46 rfl Tryz.sizeOf9 rfl rfl rfl) rfl), ?_⟩
      refine ⟨_, fun W eW => OpX.q (OpOk.r (R.load1 Tryz.isAgg9 rfl ((((r5.ext (REnc.firm _) eW).get hs).cut 0 1 rfl).at 0 rfl)) rfl), ?_⟩
      refine ⟨_, fun W eW => OpX.q (OpOk.r (Runs.lit (c := false) (R.eqS rfl rfl) (decide_eq_false h22)) rfl), ?_⟩
      refine ⟨_, fun W eW => OpX.q (OpOk.r (R.move rfl) rfl), ?_⟩
      refine ⟨_, fun W eW => OpX.q (OpOk.pass (dg := 23) rfl rfl rfl rfl rfl), ?_⟩
      refine ⟨_, fun W eW => OpX.q (OpOk.pass (dg := 23) rfl rfl rfl rfl rfl), ?_⟩
      refine ⟨_, fun W eW => OpX.q (OpOk.pass (dg := 23) rfl rfl rfl rfl rfl), ?_⟩
      refine ⟨_, fun W eW => OpX.q (OpOk.pass (dg := 23) rfl rfl rfl rfl rfl), ?_⟩
      refine ⟨_, fun W eW => OpX.q (OpOk.pass (dg := 23) rfl rfl rfl rfl rfl), ?_⟩
      refine ⟨_, fun W eW => OpX.q (OpOk.pass (dg := 23) rfl rfl rfl rfl rfl), ?_⟩
      refine ⟨_, fun W eW => OpX.q (OpOk.pass (dg := 23) rfl rfl rfl rfl rfl), ?_⟩
      refine ⟨_, fun W eW => OpX.q (OpOk.pass (dg := 23) rfl rfl rfl rfl rfl), ?_⟩
      refine ⟨_, fun W eW => OpX.q (OpOk.pass (dg := 23) rfl rfl rfl rfl rfl), ?_⟩
      refine ⟨_, fun W eW => OpX.q (OpOk.pass (dg := 23) rfl rfl rfl rfl rfl), ?_⟩
      refine ⟨_, fun W eW => OpX.q (OpOk.pass (dg := 23) rfl rfl rfl rfl rfl), ?_⟩
      refine ⟨_, fun W eW => OpX.q (OpOk.r (R.pickF rfl rfl) rfl), ?_⟩
      show ∀ w', Ext _ w' → St _ _ _ _ w'
      intro wd6 ed6
      replace E := Ext.trans E ed6
      replace r5 := r5.ext (REnc.firm _) ed6
      replace r6 := r6.ext (REnc.firm _) ed6
      refine St.weak [(5, _), (6, _), (7, _), (35, _)] ⟨rfl, rfl, rfl, rfl, trivial⟩ ?_
      refine St.then_n ?_
      refine St.go hK15 ?_
      clear hK15
      refine St.condF rfl ?_
      refine St.skip ?_
      refine St.then_n ?_
      refine St.meet hK8 () ⟨rfl, rfl, rfl, trivial⟩ ?_
      · exact ⟨E, r5, r6, by rw [badSlot_at hs hx, decide_eq_false h22]; rfl⟩
  ·
    refine St.exit ?_
    refine St.then_x ?_
    refine St.then_x ?_
    refine St.in_x ?_
    refine St.then_n ?_
    refine St.go hK3 ?_
    clear hK3
    refine St.seq fun K17 hK17 => ?_
    refine St.region ?_
    refine St.r (R.assign rfl) rfl rfl ?_
    refine St.nil ?_
    refine St.weak [(4, _)] ⟨rfl, trivial⟩ ?_
    refine St.then_n ?_
    refine St.go hK17 ?_
    clear hK17
    refine St.ret ?_
    refine St.ret1 Tryz.results125 rfl ?_
    exact ⟨_, rfl, by rw [fitsB_true fun j hj => hall j (by omega)], E⟩

theorem rMatch_ret {l : List Triple} {p : Pat} {v : Value} (w0 : World) (hv : RTriples w0 v l) (hl : l.length ≤ 100000) : Ret Tryz.prog 53 [v, .agg (encPat p).toArray] w0 fun r w' => Own encTriple 9 w0.heap.size 100 w' r (ofL l p) ∧ Ext w0 w' := by
  obtain ⟨A, c, rfl, hc1, hc2⟩ := hv.form
  have E : Ext w0 w0 := Ext.refl w0
  refine St.enter (N := 29) Tryz.func53 rfl Tryz.ntmps53 rfl ?_
  refine St.seq fun K0 hK0 => ?_
  refine St.region ?_
  refine St.box rfl rfl ?_
  intro w3 b3 hb3 hs3 e3 k3
  have qE3 := E.size
  replace E := Ext.trans E e3
  refine St.r (R.assign rfl) rfl rfl ?_
  refine St.nil ?_
  refine St.weak [(0, _), (3, _)] ⟨rfl, rfl, trivial⟩ ?_
  refine St.then_n ?_
  refine St.go hK0 ?_
  clear hK0
  refine St.seq fun K1 hK1 => ?_
  refine St.region ?_
  refine St.r (R.assign rfl) rfl rfl ?_
  refine St.nil ?_
  refine St.weak [(0, _), (3, _), (5, _)] ⟨rfl, rfl, rfl, trivial⟩ ?_
  refine St.then_n ?_
  refine St.go hK1 ?_
  clear hK1
  refine St.seq fun K2 hK2 => ?_
  refine St.seq fun K3 hK3 => ?_
  refine St.region ?_
  refine St.r (R.assign rfl) rfl rfl ?_
  refine St.nil ?_
  refine St.weak [(0, _), (3, _), (5, _), (6, _)] ⟨rfl, rfl, rfl, rfl, trivial⟩ ?_
  refine St.then_n ?_
  refine St.go hK3 ?_
  clear hK3
  refine St.block ?_
  refine St.loop (fun (x : Nat × Value) => match x with | (k, ov) => [(0, .slice A l.length c), (3, .pointer (some ⟨b3, 0, none⟩)), (5, ov), (6, .int .i64 (k : Int))])
      (fun (x : Nat × Value) w => match x with | (k, ov) => k ≤ l.length ∧ Ext w0 w ∧ Blk w b3 48 (encPat p) ∧ Own encTriple 9 (w0.heap.size + 1) 100 w ov (ofL (l.take k) p))
      (fun (x : Nat × Value) => match x with | (k, ov) => l.length - k) (0, .slice none 0 0) ⟨rfl, rfl, rfl, rfl, trivial⟩ ?_ ?_
  · exact ⟨Nat.zero_le _, E, k3, Own.nil _ _ _ _ _⟩
  rintro ⟨k, ov⟩ w ⟨hk, E, k3, o5⟩
  show St _ _ [(0, .slice A l.length c), (3, .pointer (some ⟨b3, 0, none⟩)), (5, ov), (6, .int .i64 (k : Int))] _ _
  refine St.seq fun K4 hK4 => ?_
  refine St.seq fun K5 hK5 => ?_
  refine St.region ?_
  refine St.r (R.move rfl) rfl rfl ?_
  refine St.r (R.move rfl) rfl rfl ?_
  refine St.r (R.lenSl Tryz.underlying22 rfl) rfl rfl ?_
  refine St.r (R.lss rfl rfl) rfl rfl ?_
  refine St.nil ?_
  refine St.weak [(0, _), (3, _), (5, _), (6, _), (11, _)] ⟨rfl, rfl, rfl, rfl, rfl, trivial⟩ ?_
  refine St.then_n ?_
  refine St.go hK5 ?_
  clear hK5
  refine St.condD rfl (fun h11 => ?_) (fun h11 => ?_)
  ·
    obtain ⟨x, hx⟩ := get_of_lt (xs := l) (k := k) (by omega)
    obtain ⟨xb, xo, rfl, hxc⟩ := hv.get' hx
    have hol : (ofL (l.take k) p).length ≤ l.length := Nat.le_trans (List.length_filter_le _ _) (by rw [List.length_take]; omega)
    refine St.skip ?_
    refine St.then_n ?_
    refine St.go hK4 ?_
    clear hK4
    refine St.seq fun K6 hK6 => ?_
    refine St.block ?_
    refine St.seq fun K7 hK7 => ?_
    refine St.weak [(0, _), (3, _), (5, _), (6, _)] ⟨rfl, rfl, rfl, rfl, trivial⟩ ?_
    refine St.drawX mixed rfl rfl rfl rfl ?_
    replace E := Ext.trans E (Ext.drew _)
    replace k3 := k3.ext (Ext.drew _)
    replace o5 := o5.ext (Ext.drew _)
    refine ⟨_, fun W eW => OpX.q (OpOk.r (R.move rfl) rfl), ?_⟩
    refine ⟨_, fun W eW => OpX.q (OpOk.r (R.move rfl) rfl), ?_⟩
    refine ⟨_, fun W eW => OpX.q (OpOk.r (R.indexS k Tryz.underlying22 Tryz.sizeOf100 rfl rfl rfl (by omega)) rfl), ?_⟩
    refine ⟨_, fun W eW => OpX.q (OpOk.r (R.loadA Tryz.isAgg100 Tryz.sizeOf100 rfl ((Ext.trans E eW).cells hxc) rfl) rfl), ?_⟩
    refine ⟨_, fun W eW => OpX.q (OpOk.r (R.loadA Tryz.isAgg48 Tryz.sizeOf48 rfl (k3.ext eW).cells rfl) rfl), ?_⟩
    refine ⟨_, fun W eW => OpX.call rfl rfl ent125 (rFits_ret _), ?_⟩
    refine ⟨_, fun W eW => OpX.q (OpOk.r (R.assign rfl) rfl), ?_⟩
    show ∀ w', Ext _ w' → St _ _ _ _ w'
    intro wd5 ed5
    replace E := Ext.trans E ed5
    replace k3 := k3.ext ed5
    replace o5 := o5.ext ed5
    refine St.weak [(0, _), (3, _), (5, _), (6, _), (7, _)] ⟨rfl, rfl, rfl, rfl, rfl, trivial⟩ ?_
    refine St.then_n ?_
    refine St.go hK7 ?_
    clear hK7
    refine St.seq fun K8 hK8 => ?_
    refine St.region ?_
    refine St.r (R.move rfl) rfl rfl ?_
    refine St.nil ?_
    refine St.weak [(0, _), (3, _), (5, _), (6, _), (20, _)] ⟨rfl, rfl, rfl, rfl, rfl, trivial⟩ ?_
    refine St.then_n ?_
    refine St.go hK8 ?_
    clear hK8
    refine St.cond rfl (fun h20 => ?_) (fun h20 => ?_)
    ·
      refine St.region ?_
      refine St.r (R.move rfl) rfl rfl ?_
      refine St.r (R.move rfl) rfl rfl ?_
      refine St.r (R.move rfl) rfl rfl ?_
      refine St.r (R.indexS k Tryz.underlying22 Tryz.sizeOf100 rfl rfl rfl (by omega)) rfl rfl ?_
      refine St.r (R.loadA Tryz.isAgg100 Tryz.sizeOf100 rfl (E.cells hxc) rfl) rfl rfl ?_
      refine St.buildSl Tryz.underlying22 Tryz.sizeOf100 Tryz.zeroValue100 rfl rfl rfl rfl (by intro u hu; simp only [List.mem_cons, List.not_mem_nil, or_false] at hu; first | (subst hu; rfl) | (rcases hu with rfl | rfl <;> rfl) | (rcases hu with rfl | rfl | rfl <;> rfl) | (rcases hu with rfl | rfl | rfl | rfl <;> rfl)) rfl ?_
      intro w26 b26 hb26 hs26 e26 k26
      have qE26 := E.size
      replace E := Ext.trans E e26
      replace k3 := k3.ext e26
      replace o5 := o5.ext e26
      refine St.append (enc := encTriple) (fun _ => rfl) one_triple Tryz.underlying22 info100 rfl rfl rfl rfl o5 (RSl.mk (enc := encTriple) (xs := [x]) encTriple_len k26.cells (fun i u hu => hu) (by simp) (by simp)) (by simp; omega) (by simp; omega) (by have := E.size; have := k3.lt; omega) rfl ?_
      intro v27 w27 a27 g27 at27
      replace E := Ext.then E g27 (by intro j hj hk; have := (o5.base hk).1; omega)
      replace k3 := k3.chg g27 (by intro hk; have := (o5.base hk).1; omega)
      clear o5; have o5 := a27; clear a27
      refine St.r (R.assign rfl) rfl rfl ?_
      refine St.nil ?_
      refine St.weak [(0, _), (3, _), (5, _), (6, _)] ⟨rfl, rfl, rfl, rfl, trivial⟩ ?_
      refine St.in_n ?_
      refine St.then_n ?_
      refine St.go hK6 ?_
      clear hK6
      refine St.region ?_
      refine St.r (R.move rfl) rfl rfl ?_
      refine St.r (R.add rfl rfl (by omega) (by omega)) rfl rfl ?_
      refine St.r (R.assign rfl) rfl rfl ?_
      refine St.nil ?_
      refine St.weak [(0, _), (3, _), (5, _), (6, _)] ⟨rfl, rfl, rfl, rfl, trivial⟩ ?_
      refine St.then_n ?_
      refine St.round (k + 1, v27) ⟨rfl, rfl, rfl, rfl, trivial⟩ ?_ ?_
      · try dsimp only
        exact ⟨by omega, E, k3, by rw [take_snoc hx, ofL, List.filter_append]; simpa [ofL, h20] using o5⟩
      · try dsimp only
        omega
    ·
      refine St.skip ?_
      refine St.in_n ?_
      refine St.then_n ?_
      refine St.go hK6 ?_
      clear hK6
      refine St.region ?_
      refine St.r (R.move rfl) rfl rfl ?_
      refine St.r (R.add rfl rfl (by omega) (by omega)) rfl rfl ?_
      refine St.r (R.assign rfl) rfl rfl ?_
      refine St.nil ?_
      refine St.weak [(0, _), (3, _), (5, _), (6, _)] ⟨rfl, rfl, rfl, rfl, trivial⟩ ?_
      refine St.then_n ?_
      refine St.round (k + 1, ov) ⟨rfl, rfl, rfl, rfl, trivial⟩ ?_ ?_
      · try dsimp only
        exact ⟨by omega, E, k3, by rw [take_snoc hx, ofL, List.filter_append]; simpa [ofL, h20] using o5⟩
      · try dsimp only
        omega
  ·
    refine St.exit ?_
    refine St.then_x ?_
    refine St.then_x ?_
    refine St.in_x ?_
    refine St.then_n ?_
    refine St.go hK2 ?_
    clear hK2
    refine St.seq fun K9 hK9 => ?_
    refine St.region ?_
    refine St.r (R.move rfl) rfl rfl ?_
    refine St.r (R.assign rfl) rfl rfl ?_
    refine St.nil ?_
    refine St.weak [(4, _)] ⟨rfl, trivial⟩ ?_
    refine St.then_n ?_
    refine St.go hK9 ?_
    clear hK9
    refine St.ret ?_
    refine St.ret1 Tryz.results53 rfl ?_
    rw [List.take_of_length_le (by omega)] at o5
    exact ⟨_, rfl, o5.lower (by omega), E⟩

set_option maxHeartbeats 4000000 in
set_option maxRecDepth 100000 in
theorem tVars_ret {q : Query} {cs : List Value} (w0 : World) (hq : RQuery w0 cs q) (h6 : q.parts.length ≤ 6) : Ret Tryz.prog 50 [.agg cs.toArray] w0 fun r w' => ∃ y, r = .tuple #[y, .int .i64 (wrongI (partsErr q.parts))] ∧ RStrs w' y (if (partsErr q.parts).isSome then [] else partsVars q.parts) ∧ Ext w0 w' := by
  have hq0 := hq
  obtain ⟨vv, pv, rfl, hvv, hpv⟩ := hq
  obtain ⟨VA, VC, rfl, hvc1, hvc2⟩ := hvv.form
  obtain ⟨PA, PC, rfl, -, -⟩ := hpv.form
  have E : Ext w0 w0 := Ext.refl w0
  refine St.enter (N := 51) Tryz.func50 rfl Tryz.ntmps50 rfl ?_
  refine St.seq fun K0 hK0 => ?_
  refine St.region ?_
  refine St.box rfl rfl ?_
  intro w1 b1 hb1 hs1 e1 k1
  have qE1 := E.size
  replace E := Ext.trans E e1
  refine St.r (R.assign rfl) rfl rfl ?_
  refine St.r (R.assign rfl) rfl rfl ?_
  refine St.nil ?_
  refine St.weak [(1, _)] ⟨rfl, trivial⟩ ?_
  refine St.then_n ?_
  refine St.go hK0 ?_
  clear hK0
  refine St.seq fun K1 hK1 => ?_
  refine St.region ?_
  refine St.r (R.assign rfl) rfl rfl ?_
  refine St.nil ?_
  refine St.weak [(1, _), (4, _)] ⟨rfl, rfl, trivial⟩ ?_
  refine St.then_n ?_
  refine St.go hK1 ?_
  clear hK1
  refine St.seq fun K2 hK2 => ?_
  refine St.seq fun K3 hK3 => ?_
  refine St.region ?_
  refine St.r (R.assign rfl) rfl rfl ?_
  refine St.nil ?_
  refine St.weak [(1, _), (4, _), (5, _)] ⟨rfl, rfl, rfl, trivial⟩ ?_
  refine St.then_n ?_
  refine St.go hK3 ?_
  clear hK3
  refine St.block ?_
  refine St.loop (fun (x : Nat × Value) => match x with | (k, ov) => [(1, .pointer (some ⟨b1, 0, none⟩)), (4, ov), (5, .int .i64 (k : Int))])
      (fun (x : Nat × Value) w => match x with | (k, ov) => k ≤ q.parts.length ∧ Ext w0 w ∧ Blk w b1 26 [.slice VA q.vars.length VC, .slice PA q.parts.length PC, .string q.order, .bool q.down, .bool q.distinct, .int .i64 q.limit] ∧ Own encStr 1 (w0.heap.size + 1) 9 w ov (partsVars (q.parts.take k)) ∧ partsErr q.parts = firstE ((q.parts.drop k).map patErr))
      (fun (x : Nat × Value) => match x with | (k, ov) => q.parts.length - k) (0, .slice none 0 0) ⟨rfl, rfl, rfl, trivial⟩ ?_ ?_
  · exact ⟨Nat.zero_le _, E, k1, Own.nil _ _ _ _ _, rfl⟩
  rintro ⟨k, ov⟩ w ⟨hk, E, k1, o4, he⟩
  show St _ _ [(1, .pointer (some ⟨b1, 0, none⟩)), (4, ov), (5, .int .i64 (k : Int))] _ _
  refine St.seq fun K4 hK4 => ?_
  refine St.seq fun K5 hK5 => ?_
  refine St.region ?_
  refine St.r (R.move rfl) rfl rfl ?_
  refine St.r (R.fieldA Tryz.underlying26 rfl Tryz.sizeOf24 rfl rfl rfl) rfl rfl ?_
  refine St.r (R.load1 Tryz.isAgg24 rfl (k1.cells.at 1 rfl)) rfl rfl ?_
  refine St.r (R.lenSl Tryz.underlying24 rfl) rfl rfl ?_
  refine St.r (R.lss rfl rfl) rfl rfl ?_
  refine St.nil ?_
  refine St.weak [(1, _), (4, _), (5, _), (14, _)] ⟨rfl, rfl, rfl, rfl, trivial⟩ ?_
  refine St.then_n ?_
  refine St.go hK5 ?_
  clear hK5
  refine St.condD rfl (fun h14 => ?_) (fun h14 => ?_)
  ·
    obtain ⟨p, hp⟩ := get_of_lt (xs := q.parts) (k := k) (by omega)
    obtain ⟨pb, po, rfl, hpc⟩ := hpv.get' hp
    have hoL := fun k hk => (o4.base (k := k) hk).2
    have hpl := partsVars_len (q.parts.take k)
    rw [List.length_take] at hpl
    have hp3 := patVars_len p
    refine St.skip ?_
    refine St.then_n ?_
    refine St.go hK4 ?_
    clear hK4
    refine St.seq fun K6 hK6 => ?_
    refine St.block ?_
    refine St.seq fun K7 hK7 => ?_
    refine St.region ?_
    refine St.r (R.fieldA Tryz.underlying26 rfl Tryz.sizeOf24 rfl rfl rfl) rfl rfl ?_
    refine St.r (R.load1 Tryz.isAgg24 rfl (k1.cells.at 1 rfl)) rfl rfl ?_
    refine St.r (R.move rfl) rfl rfl ?_
    refine St.r (R.indexS k Tryz.underlying24 Tryz.sizeOf48 rfl rfl rfl (by omega)) rfl rfl ?_
    refine St.r (R.loadA Tryz.isAgg48 Tryz.sizeOf48 rfl (E.cells hpc) rfl) rfl rfl ?_
    refine St.call rfl rfl ent45 (rVars_ret _) rfl ?_
    rintro r23 w23 ⟨y, rfl, ry, hyb, e23⟩
    replace E := Ext.trans E e23
    replace k1 := k1.ext e23
    replace o4 := o4.ext e23
    refine St.r (R.move rfl) rfl rfl ?_
    refine St.r (R.extract rfl rfl) rfl rfl ?_
    refine St.r (R.extract rfl rfl) rfl rfl ?_
    refine St.r (R.assign rfl) rfl rfl ?_
    refine St.r (R.assign rfl) rfl rfl ?_
    refine St.nil ?_
    refine St.weak [(1, _), (4, _), (5, _), (6, _), (7, _)] ⟨rfl, rfl, rfl, rfl, rfl, trivial⟩ ?_
    refine St.then_n ?_
    refine St.go hK7 ?_
    clear hK7
    refine St.seq fun K8 hK8 => ?_
    refine St.seq fun K9 hK9 => ?_
    refine St.region ?_
    refine St.r (R.move rfl) rfl rfl ?_
    refine St.r (R.neq rfl rfl) rfl rfl ?_
    refine St.nil ?_
    refine St.weak [(1, _), (4, _), (5, _), (6, _), (7, _), (27, _)] ⟨rfl, rfl, rfl, rfl, rfl, rfl, trivial⟩ ?_
    refine St.then_n ?_
    refine St.go hK9 ?_
    clear hK9
    refine St.condD rfl (fun h27 => ?_) (fun h27 => ?_)
    ·
      obtain ⟨er, her⟩ : ∃ e, patErr p = some e := by
        cases hc : patErr p with
        | none => rw [hc] at h27; exact absurd rfl h27
        | some e => exact ⟨e, rfl⟩
      refine St.seq fun K10 hK10 => ?_
      refine St.region ?_
      refine St.r (R.move rfl) rfl rfl ?_
      refine St.r (R.assign rfl) rfl rfl ?_
      refine St.r (R.assign rfl) rfl rfl ?_
      refine St.nil ?_
      refine St.weak [(2, _), (3, _)] ⟨rfl, rfl, trivial⟩ ?_
      refine St.then_n ?_
      refine St.go hK10 ?_
      clear hK10
      refine St.ret ?_
      refine St.then_r ?_
      refine St.in_r ?_
      refine St.then_r ?_
      refine St.then_r ?_
      refine St.in_r ?_
      refine St.then_r ?_
      refine St.ret2 Tryz.results50 rfl rfl ?_
      have hpe : partsErr q.parts = some er := by rw [he, drop_at hp, List.map_cons, her, firstE_some (by rfl)]
      exact ⟨_, rfl, _, by rw [hpe, her], by rw [hpe, if_pos (by rfl)]; exact RSl.nil _ _ _, E⟩
    ·
      have hpn : patErr p = none := (wrong0 (fun e he => by have := patErr_pos he; omega)).1 (Decidable.not_not.1 h27)
      rw [hpn, if_neg (by simp)] at ry
      obtain ⟨YA, YC, rfl, -, -⟩ := ry.form
      have hap0 : ∀ x, ov.ownBlock = some x → (Value.slice YA (patVars p).length YC).ownBlock ≠ some x := fun x hx hy => by have := hoL x hx; have := hyb x hy; omega
      refine St.skip ?_
      refine St.then_n ?_
      refine St.go hK8 ?_
      clear hK8
      refine St.seq fun K11 hK11 => ?_
      refine St.region ?_
      refine St.r (R.assign rfl) rfl rfl ?_
      refine St.nil ?_
      refine St.weak [(1, _), (4, _), (5, _), (6, _), (8, _)] ⟨rfl, rfl, rfl, rfl, rfl, trivial⟩ ?_
      refine St.then_n ?_
      refine St.go hK11 ?_
      clear hK11
      refine St.block ?_
      refine St.loop (fun (x : Nat × Value) => match x with | (j, ov2) => [(1, .pointer (some ⟨b1, 0, none⟩)), (4, ov2), (5, .int .i64 (k : Int)), (6, .slice YA (patVars p).length YC), (8, .int .i64 (j : Int))])
          (fun (x : Nat × Value) w => match x with | (j, ov2) => j ≤ (patVars p).length ∧ Ext w0 w ∧ Blk w b1 26 [.slice VA q.vars.length VC, .slice (some ⟨pb, po, none⟩) q.parts.length PC, .string q.order, .bool q.down, .bool q.distinct, .int .i64 q.limit] ∧ Own encStr 1 (w0.heap.size + 1) 9 w ov2 (((patVars p).take j).foldl addV (partsVars (q.parts.take k))) ∧ RStrs w (.slice YA (patVars p).length YC) (patVars p) ∧ ∀ x, ov2.ownBlock = some x → (Value.slice YA (patVars p).length YC).ownBlock ≠ some x)
          (fun (x : Nat × Value) => match x with | (j, ov2) => (patVars p).length - j) (0, ov) ⟨rfl, rfl, rfl, rfl, rfl, trivial⟩ ?_ ?_
      · exact ⟨Nat.zero_le _, E, k1, o4, ry, hap0⟩
      rintro ⟨j, ov2⟩ w ⟨hj, E, k1, o4, ry, hap⟩
      show St _ _ [(1, .pointer (some ⟨b1, 0, none⟩)), (4, ov2), (5, .int .i64 (k : Int)), (6, .slice YA (patVars p).length YC), (8, .int .i64 (j : Int))] _ _
      refine St.seq fun K12 hK12 => ?_
      refine St.seq fun K13 hK13 => ?_
      refine St.region ?_
      refine St.r (R.move rfl) rfl rfl ?_
      refine St.r (R.move rfl) rfl rfl ?_
      refine St.r (R.lenSl Tryz.underlying23 rfl) rfl rfl ?_
      refine St.r (R.lss rfl rfl) rfl rfl ?_
      refine St.nil ?_
      refine St.weak [(1, _), (4, _), (5, _), (6, _), (8, _), (32, _)] ⟨rfl, rfl, rfl, rfl, rfl, rfl, trivial⟩ ?_
      refine St.then_n ?_
      refine St.go hK13 ?_
      clear hK13
      refine St.condD rfl (fun h32 => ?_) (fun h32 => ?_)
      ·
        obtain ⟨v, hv⟩ := get_of_lt (xs := patVars p) (k := j) (by omega)
        obtain ⟨vb, vo, rfl, hvc⟩ := ry.get' hv
        have hol := addVs_len ((patVars p).take j) (partsVars (q.parts.take k))
        rw [List.length_take] at hol
        have hvl := ry.lt (fun x => by rw [encStr_len]; omega) (by omega) (k := vb) rfl
        refine St.skip ?_
        refine St.then_n ?_
        refine St.go hK12 ?_
        clear hK12
        refine St.seq fun K14 hK14 => ?_
        refine St.block ?_
        refine St.seq fun K15 hK15 => ?_
        refine St.region ?_
        refine St.r (R.move rfl) rfl rfl ?_
        refine St.r (R.move rfl) rfl rfl ?_
        refine St.r (R.move rfl) rfl rfl ?_
        refine St.r (R.indexS j Tryz.underlying23 Tryz.sizeOf9 rfl rfl rfl (by omega)) rfl rfl ?_
        refine St.r (R.load1 Tryz.isAgg9 rfl ((ry.get hv).at 0 rfl)) rfl rfl ?_
        refine St.call rfl rfl ent51 (rHas_ret _ (o4.reads encStr_len)) rfl ?_
        rintro r40 w40 ⟨rfl, e40⟩
        replace E := Ext.trans E e40
        replace k1 := k1.ext e40
        replace o4 := o4.ext e40
        replace ry := ry.ext (REnc.firm _) e40
        refine St.r (R.assign rfl) rfl rfl ?_
        refine St.nil ?_
        refine St.weak [(1, _), (4, _), (5, _), (6, _), (8, _), (9, _)] ⟨rfl, rfl, rfl, rfl, rfl, rfl, trivial⟩ ?_
        refine St.then_n ?_
        refine St.go hK15 ?_
        clear hK15
        refine St.seq fun K16 hK16 => ?_
        refine St.region ?_
        refine St.r (R.move rfl) rfl rfl ?_
        refine St.r (R.not rfl) rfl rfl ?_
        refine St.nil ?_
        refine St.weak [(1, _), (4, _), (5, _), (6, _), (8, _), (42, _)] ⟨rfl, rfl, rfl, rfl, rfl, rfl, trivial⟩ ?_
        refine St.then_n ?_
        refine St.go hK16 ?_
        clear hK16
        refine St.cond rfl (fun h42 => ?_) (fun h42 => ?_)
        ·
          refine St.region ?_
          refine St.r (R.move rfl) rfl rfl ?_
          refine St.r (R.move rfl) rfl rfl ?_
          refine St.r (R.move rfl) rfl rfl ?_
          refine St.r (R.indexS j Tryz.underlying23 Tryz.sizeOf9 rfl rfl rfl (by omega)) rfl rfl ?_
          refine St.r (R.load1 Tryz.isAgg9 rfl ((ry.get hv).at 0 rfl)) rfl rfl ?_
          refine St.buildSl Tryz.underlying23 Tryz.sizeOf9 Tryz.zeroValue9 rfl rfl rfl rfl (by intro u hu; simp only [List.mem_cons, List.not_mem_nil, or_false] at hu; first | (subst hu; rfl) | (rcases hu with rfl | rfl <;> rfl) | (rcases hu with rfl | rfl | rfl <;> rfl) | (rcases hu with rfl | rfl | rfl | rfl <;> rfl)) rfl ?_
          intro w48 b48 hb48 hs48 e48 k48
          have qE48 := E.size
          replace E := Ext.trans E e48
          replace k1 := k1.ext e48
          replace o4 := o4.ext e48
          replace ry := ry.ext (REnc.firm _) e48
          have hz49 := e48.size
          have hz40 := e40.size
          have y1k := k1.lt
          refine St.append (enc := encStr) (fun _ => rfl) one_str Tryz.underlying23 info9 rfl rfl rfl rfl o4 (RSl.mk (enc := encStr) (xs := [v]) encStr_len k48.cells (fun i u hu => hu) (by simp) (by simp)) (by simp; omega) (by simp; omega) (by omega) rfl ?_
          intro v49 w49 a49 g49 at49
          replace E := Ext.then E g49 (by intro j hj hk; have := (o4.base hk).1; omega)
          replace k1 := k1.chg g49 (fun hk => by have := (o4.base hk).1; omega)
          replace ry := ry.chg g49 (fun _ k hk e => hap k e hk)
          clear o4; have o4 := a49; clear a49
          have hap2 : ∀ x, v49.ownBlock = some x → (Value.slice (some ⟨vb, vo, none⟩) (patVars p).length YC).ownBlock ≠ some x := fun x hx hy => by
            rcases at49 with e | e
            · exact hap x (e ▸ hx) hy
            · have h3 := e.symm.trans hx
              injection h3 with h3
              injection hy with hy
              dsimp only at hy
              omega
          refine St.r (R.assign rfl) rfl rfl ?_
          refine St.nil ?_
          refine St.weak [(1, _), (4, _), (5, _), (6, _), (8, _)] ⟨rfl, rfl, rfl, rfl, rfl, trivial⟩ ?_
          refine St.in_n ?_
          refine St.then_n ?_
          refine St.go hK14 ?_
          clear hK14
          refine St.region ?_
          refine St.r (R.move rfl) rfl rfl ?_
          refine St.r (R.add rfl rfl (by omega) (by omega)) rfl rfl ?_
          refine St.r (R.assign rfl) rfl rfl ?_
          refine St.nil ?_
          refine St.weak [(1, _), (4, _), (5, _), (6, _), (8, _)] ⟨rfl, rfl, rfl, rfl, rfl, trivial⟩ ?_
          refine St.then_n ?_
          refine St.round (j + 1, v49) ⟨rfl, rfl, rfl, rfl, rfl, trivial⟩ ?_ ?_
          · try dsimp only
            exact ⟨by omega, E, k1, by rw [take_snoc hv, List.foldl_append]; show Own _ _ _ _ _ _ (addV _ v); rw [addV, if_neg (by simpa using h42)]; exact o4, ry, hap2⟩
          · try dsimp only
            omega
        ·
          refine St.skip ?_
          refine St.in_n ?_
          refine St.then_n ?_
          refine St.go hK14 ?_
          clear hK14
          refine St.region ?_
          refine St.r (R.move rfl) rfl rfl ?_
          refine St.r (R.add rfl rfl (by omega) (by omega)) rfl rfl ?_
          refine St.r (R.assign rfl) rfl rfl ?_
          refine St.nil ?_
          refine St.weak [(1, _), (4, _), (5, _), (6, _), (8, _)] ⟨rfl, rfl, rfl, rfl, rfl, trivial⟩ ?_
          refine St.then_n ?_
          refine St.round (j + 1, ov2) ⟨rfl, rfl, rfl, rfl, rfl, trivial⟩ ?_ ?_
          · try dsimp only
            exact ⟨by omega, E, k1, by rw [take_snoc hv, List.foldl_append]; show Own _ _ _ _ _ _ (addV _ v); rw [addV, if_pos (by simpa using h42)]; exact o4, ry, hap⟩
          · try dsimp only
            omega
      ·
        refine St.exit ?_
        refine St.then_x ?_
        refine St.then_x ?_
        refine St.in_x ?_
        refine St.in_n ?_
        refine St.then_n ?_
        refine St.go hK6 ?_
        clear hK6
        refine St.region ?_
        refine St.r (R.move rfl) rfl rfl ?_
        refine St.r (R.add rfl rfl (by omega) (by omega)) rfl rfl ?_
        refine St.r (R.assign rfl) rfl rfl ?_
        refine St.nil ?_
        refine St.weak [(1, _), (4, _), (5, _)] ⟨rfl, rfl, rfl, trivial⟩ ?_
        refine St.then_n ?_
        refine St.round (k + 1, ov2) ⟨rfl, rfl, rfl, trivial⟩ ?_ ?_
        · try dsimp only
          refine ⟨by omega, E, k1, ?_, by rw [he, drop_at hp, List.map_cons, firstE_none (by rw [hpn]; rfl)]⟩
          rw [take_snoc hp, partsVars_snoc]; rw [List.take_of_length_le (l := patVars p) (by omega)] at o4; exact o4
        · try dsimp only
          omega
  ·
    refine St.exit ?_
    refine St.then_x ?_
    refine St.then_x ?_
    refine St.in_x ?_
    refine St.then_n ?_
    refine St.go hK2 ?_
    clear hK2
    refine St.seq fun K17 hK17 => ?_
    refine St.region ?_
    refine St.r (R.move rfl) rfl rfl ?_
    refine St.r (R.assign rfl) rfl rfl ?_
    refine St.r (R.assign rfl) rfl rfl ?_
    refine St.nil ?_
    refine St.weak [(2, _), (3, _)] ⟨rfl, rfl, trivial⟩ ?_
    refine St.then_n ?_
    refine St.go hK17 ?_
    clear hK17
    refine St.ret ?_
    refine St.ret2 Tryz.results50 rfl rfl ?_
    have hpe : partsErr q.parts = none := by rw [he, List.drop_of_length_le (by omega)]; rfl
    rw [List.take_of_length_le (by omega)] at o4
    exact ⟨_, rfl, _, by rw [hpe]; rfl, by rw [hpe, if_neg (by simp)]; exact o4.reads encStr_len, E⟩

set_option maxHeartbeats 4000000 in
set_option maxRecDepth 100000 in
theorem tCheckQ_ret {q : Query} {cs : List Value} (w0 : World) (hq : RQuery w0 cs q) : Ret Tryz.prog 8 [.agg cs.toArray] w0 fun r w' => r = .int .i64 (wrongI (queryErr q)) ∧ Ext w0 w' := by
  have hq0 := hq
  obtain ⟨vv, pv, rfl, hvv, hpv⟩ := hq
  obtain ⟨VA, VC, rfl, hvc1, hvc2⟩ := hvv.form
  obtain ⟨PA, PC, rfl, -, -⟩ := hpv.form
  have E : Ext w0 w0 := Ext.refl w0
  refine St.enter (N := 94) Tryz.func8 rfl Tryz.ntmps8 rfl ?_
  refine St.seq fun K0 hK0 => ?_
  refine St.region ?_
  refine St.box rfl rfl ?_
  intro w1 b1 hb1 hs1 e1 k1
  have qE1 := E.size
  replace E := Ext.trans E e1
  refine St.r (R.assign rfl) rfl rfl ?_
  refine St.nil ?_
  refine St.weak [(1, _)] ⟨rfl, trivial⟩ ?_
  refine St.then_n ?_
  refine St.go hK0 ?_
  clear hK0
  refine St.seq fun K1 hK1 => ?_
  refine St.seq fun K2 hK2 => ?_
  refine St.region ?_
  refine St.r (R.fieldA Tryz.underlying26 rfl Tryz.sizeOf24 rfl rfl rfl) rfl rfl ?_
  refine St.r (R.load1 Tryz.isAgg24 rfl (k1.cells.at 1 rfl)) rfl rfl ?_
  refine St.r (R.lenSl Tryz.underlying24 rfl) rfl rfl ?_
  refine St.r (R.gtr rfl rfl) rfl rfl ?_
  refine St.nil ?_
  refine St.weak [(1, _), (13, _)] ⟨rfl, rfl, trivial⟩ ?_
  refine St.then_n ?_
  refine St.go hK2 ?_
  clear hK2
  refine St.condD rfl (fun h13 => ?_) (fun h13 => ?_)
  ·
    refine St.seq fun K3 hK3 => ?_
    refine St.region ?_
    refine St.r (R.assign rfl) rfl rfl ?_
    refine St.nil ?_
    refine St.weak [(2, _)] ⟨rfl, trivial⟩ ?_
    refine St.then_n ?_
    refine St.go hK3 ?_
    clear hK3
    refine St.ret ?_
    refine St.then_r ?_
    refine St.ret1 Tryz.results8 rfl ?_
    exact ⟨_, rfl, by rw [queryErr, if_pos h13]; rfl, E⟩
  ·
    refine St.skip ?_
    refine St.then_n ?_
    refine St.go hK1 ?_
    clear hK1
    refine St.seq fun K4 hK4 => ?_
    refine St.seq fun K5 hK5 => ?_
    refine St.region ?_
    refine St.r (R.fieldA Tryz.underlying26 rfl Tryz.sizeOf24 rfl rfl rfl) rfl rfl ?_
    refine St.r (R.load1 Tryz.isAgg24 rfl (k1.cells.at 1 rfl)) rfl rfl ?_
    refine St.r (R.lenSl Tryz.underlying24 rfl) rfl rfl ?_
    refine St.r (R.eql rfl rfl) rfl rfl ?_
    refine St.nil ?_
    refine St.weak [(1, _), (17, _)] ⟨rfl, rfl, trivial⟩ ?_
    refine St.then_n ?_
    refine St.go hK5 ?_
    clear hK5
    refine St.condD rfl (fun h17 => ?_) (fun h17 => ?_)
    ·
      refine St.seq fun K6 hK6 => ?_
      refine St.region ?_
      refine St.r (R.assign rfl) rfl rfl ?_
      refine St.nil ?_
      refine St.weak [(2, _)] ⟨rfl, trivial⟩ ?_
      refine St.then_n ?_
      refine St.go hK6 ?_
      clear hK6
      refine St.ret ?_
      refine St.then_r ?_
      refine St.ret1 Tryz.results8 rfl ?_
      exact ⟨_, rfl, by rw [queryErr, if_neg h13, if_pos h17]; rfl, E⟩
    ·
      refine St.skip ?_
      refine St.then_n ?_
      refine St.go hK4 ?_
      clear hK4
      refine St.seq fun K7 hK7 => ?_
      refine St.region ?_
      refine St.r (R.loadA Tryz.isAgg26 Tryz.sizeOf26 rfl k1.cells rfl) rfl rfl ?_
      refine St.call rfl rfl ent50 (tVars_ret _ (RQuery.firm _ _ _ _ E hq0) (by omega)) rfl ?_
      rintro r20 w20 ⟨y, rfl, ry, e20⟩
      replace E := Ext.trans E e20
      replace k1 := k1.ext e20
      refine St.r (R.move rfl) rfl rfl ?_
      refine St.r (R.extract rfl rfl) rfl rfl ?_
      refine St.r (R.extract rfl rfl) rfl rfl ?_
      refine St.r (R.assign rfl) rfl rfl ?_
      refine St.r (R.assign rfl) rfl rfl ?_
      refine St.nil ?_
      refine St.weak [(1, _), (3, _), (4, _)] ⟨rfl, rfl, rfl, trivial⟩ ?_
      refine St.then_n ?_
      refine St.go hK7 ?_
      clear hK7
      refine St.seq fun K8 hK8 => ?_
      refine St.seq fun K9 hK9 => ?_
      refine St.region ?_
      refine St.r (R.move rfl) rfl rfl ?_
      refine St.r (R.neq rfl rfl) rfl rfl ?_
      refine St.nil ?_
      refine St.weak [(1, _), (3, _), (4, _), (24, _)] ⟨rfl, rfl, rfl, rfl, trivial⟩ ?_
      refine St.then_n ?_
      refine St.go hK9 ?_
      clear hK9
      refine St.condD rfl (fun h24 => ?_) (fun h24 => ?_)
      ·
        obtain ⟨er, her⟩ : ∃ e, partsErr q.parts = some e := by
          cases hc : partsErr q.parts with
          | none => rw [hc] at h24; exact absurd rfl h24
          | some e => exact ⟨e, rfl⟩
        refine St.seq fun K10 hK10 => ?_
        refine St.region ?_
        refine St.r (R.move rfl) rfl rfl ?_
        refine St.r (R.assign rfl) rfl rfl ?_
        refine St.nil ?_
        refine St.weak [(2, _)] ⟨rfl, trivial⟩ ?_
        refine St.then_n ?_
        refine St.go hK10 ?_
        clear hK10
        refine St.ret ?_
        refine St.then_r ?_
        refine St.ret1 Tryz.results8 rfl ?_
        exact ⟨_, rfl, by rw [queryErr, if_neg h13, if_neg h17, her], E⟩
      ·
        have hpe : partsErr q.parts = none := (wrong0 (fun e he => by have := partsErr_pos he; omega)).1 (Decidable.not_not.1 h24)
        rw [hpe, if_neg (by simp)] at ry
        obtain ⟨YA, YC, rfl, -, -⟩ := ry.form
        refine St.skip ?_
        refine St.then_n ?_
        refine St.go hK8 ?_
        clear hK8
        refine St.seq fun K11 hK11 => ?_
        refine St.seq fun K12 hK12 => ?_
        refine St.region ?_
        refine St.r (R.move rfl) rfl rfl ?_
        refine St.r (R.lenSl Tryz.underlying23 rfl) rfl rfl ?_
        refine St.r (R.gtr rfl rfl) rfl rfl ?_
        refine St.nil ?_
        refine St.weak [(1, _), (3, _), (28, _)] ⟨rfl, rfl, rfl, trivial⟩ ?_
        refine St.then_n ?_
        refine St.go hK12 ?_
        clear hK12
        refine St.condD rfl (fun h28 => ?_) (fun h28 => ?_)
        ·
          refine St.seq fun K13 hK13 => ?_
          refine St.region ?_
          refine St.r (R.assign rfl) rfl rfl ?_
          refine St.nil ?_
          refine St.weak [(2, _)] ⟨rfl, trivial⟩ ?_
          refine St.then_n ?_
          refine St.go hK13 ?_
          clear hK13
          refine St.ret ?_
          refine St.then_r ?_
          refine St.ret1 Tryz.results8 rfl ?_
          exact ⟨_, rfl, by rw [queryErr, if_neg h13, if_neg h17, hpe]; simp only; rw [if_pos h28]; rfl, E⟩
        ·
          refine St.skip ?_
          refine St.then_n ?_
          refine St.go hK11 ?_
          clear hK11
          refine St.seq fun K14 hK14 => ?_
          refine St.seq fun K15 hK15 => ?_
          refine St.region ?_
          refine St.r (R.fieldA Tryz.underlying26 rfl Tryz.sizeOf23 rfl rfl rfl) rfl rfl ?_
          refine St.r (R.load1 Tryz.isAgg23 rfl (k1.cells.at 0 rfl)) rfl rfl ?_
          refine St.r (R.lenSl Tryz.underlying23 rfl) rfl rfl ?_
          refine St.r (R.eql rfl rfl) rfl rfl ?_
          refine St.nil ?_
          refine St.weak [(1, _), (3, _), (32, _)] ⟨rfl, rfl, rfl, trivial⟩ ?_
          refine St.then_n ?_
          refine St.go hK15 ?_
          clear hK15
          refine St.condD rfl (fun h32 => ?_) (fun h32 => ?_)
          ·
            refine St.seq fun K16 hK16 => ?_
            refine St.region ?_
            refine St.r (R.assign rfl) rfl rfl ?_
            refine St.nil ?_
            refine St.weak [(2, _)] ⟨rfl, trivial⟩ ?_
            refine St.then_n ?_
            refine St.go hK16 ?_
            clear hK16
            refine St.ret ?_
            refine St.then_r ?_
            refine St.ret1 Tryz.results8 rfl ?_
            exact ⟨_, rfl, by rw [queryErr, if_neg h13, if_neg h17, hpe]; simp only; rw [if_neg h28, if_pos (.inl h32)]; rfl, E⟩
          ·
            refine St.skip ?_
            refine St.then_n ?_
            refine St.go hK14 ?_
            clear hK14
            refine St.seq fun K17 hK17 => ?_
            refine St.seq fun K18 hK18 => ?_
            refine St.region ?_
            refine St.r (R.assign rfl) rfl rfl ?_
            refine St.nil ?_
            refine St.weak [(1, _), (3, _), (5, _)] ⟨rfl, rfl, rfl, trivial⟩ ?_
            refine St.then_n ?_
            refine St.go hK18 ?_
            clear hK18
            refine St.block ?_
            refine St.loop (fun (k : Nat) => [(1, .pointer (some ⟨b1, 0, none⟩)), (3, .slice YA (partsVars q.parts).length YC), (5, .int .i64 (k : Int))])
                (fun (k : Nat) w => k ≤ q.vars.length ∧ Ext w0 w ∧ Blk w b1 26 [.slice VA q.vars.length VC, .slice PA q.parts.length PC, .string q.order, .bool q.down, .bool q.distinct, .int .i64 q.limit] ∧ RStrs w (.slice YA (partsVars q.parts).length YC) (partsVars q.parts) ∧ ∀ v ∈ q.vars.take k, v ∈ partsVars q.parts)
                (fun (k : Nat) => q.vars.length - k) 0 ⟨rfl, rfl, rfl, trivial⟩ ?_ ?_
            · exact ⟨Nat.zero_le _, E, k1, ry, by simp⟩
            rintro k w ⟨hk, E, k1, ry, hin⟩
            show St _ _ [(1, .pointer (some ⟨b1, 0, none⟩)), (3, .slice YA (partsVars q.parts).length YC), (5, .int .i64 (k : Int))] _ _
            refine St.seq fun K19 hK19 => ?_
            refine St.seq fun K20 hK20 => ?_
            refine St.region ?_
            refine St.r (R.move rfl) rfl rfl ?_
            refine St.r (R.fieldA Tryz.underlying26 rfl Tryz.sizeOf23 rfl rfl rfl) rfl rfl ?_
            refine St.r (R.load1 Tryz.isAgg23 rfl (k1.cells.at 0 rfl)) rfl rfl ?_
            refine St.r (R.lenSl Tryz.underlying23 rfl) rfl rfl ?_
            refine St.r (R.lss rfl rfl) rfl rfl ?_
            refine St.nil ?_
            refine St.weak [(1, _), (3, _), (5, _), (37, _)] ⟨rfl, rfl, rfl, rfl, trivial⟩ ?_
            refine St.then_n ?_
            refine St.go hK20 ?_
            clear hK20
            refine St.condD rfl (fun h37 => ?_) (fun h37 => ?_)
            ·
              obtain ⟨v, hv⟩ := get_of_lt (xs := q.vars) (k := k) (by omega)
              obtain ⟨vb, vo, rfl, hvc⟩ := hvv.get' hv
              refine St.skip ?_
              refine St.then_n ?_
              refine St.go hK19 ?_
              clear hK19
              refine St.seq fun K21 hK21 => ?_
              refine St.block ?_
              refine St.seq fun K22 hK22 => ?_
              refine St.region ?_
              refine St.r (R.move rfl) rfl rfl ?_
              refine St.r (R.fieldA Tryz.underlying26 rfl Tryz.sizeOf23 rfl rfl rfl) rfl rfl ?_
              refine St.r (R.load1 Tryz.isAgg23 rfl (k1.cells.at 0 rfl)) rfl rfl ?_
              refine St.r (R.move rfl) rfl rfl ?_
              refine St.r (R.indexS k Tryz.underlying23 Tryz.sizeOf9 rfl rfl rfl (by omega)) rfl rfl ?_
              refine St.r (R.load1 Tryz.isAgg9 rfl ((E.cells hvc).at 0 rfl)) rfl rfl ?_
              refine St.call rfl rfl ent51 (rHas_ret _ ry) rfl ?_
              rintro r46 w46 ⟨rfl, e46⟩
              replace E := Ext.trans E e46
              replace k1 := k1.ext e46
              replace ry := ry.ext (REnc.firm _) e46
              refine St.r (R.assign rfl) rfl rfl ?_
              refine St.nil ?_
              refine St.weak [(1, _), (3, _), (5, _), (6, _)] ⟨rfl, rfl, rfl, rfl, trivial⟩ ?_
              refine St.then_n ?_
              refine St.go hK22 ?_
              clear hK22
              refine St.seq fun K23 hK23 => ?_
              refine St.region ?_
              refine St.r (R.move rfl) rfl rfl ?_
              refine St.r (R.not rfl) rfl rfl ?_
              refine St.nil ?_
              refine St.weak [(1, _), (3, _), (5, _), (48, _)] ⟨rfl, rfl, rfl, rfl, trivial⟩ ?_
              refine St.then_n ?_
              refine St.go hK23 ?_
              clear hK23
              refine St.cond rfl (fun h48 => ?_) (fun h48 => ?_)
              ·
                refine St.seq fun K24 hK24 => ?_
                refine St.region ?_
                refine St.r (R.assign rfl) rfl rfl ?_
                refine St.nil ?_
                refine St.weak [(2, _)] ⟨rfl, trivial⟩ ?_
                refine St.then_n ?_
                refine St.go hK24 ?_
                clear hK24
                refine St.ret ?_
                refine St.in_r ?_
                refine St.then_r ?_
                refine St.then_r ?_
                refine St.in_r ?_
                refine St.then_r ?_
                refine St.ret1 Tryz.results8 rfl ?_
                exact ⟨_, rfl, by rw [queryErr, if_neg h13, if_neg h17, hpe]; simp only; rw [if_neg h28, if_pos (.inr (List.any_eq_true.2 ⟨v, List.mem_of_getElem? hv, by simpa using h48⟩))]; rfl, E⟩
              ·
                refine St.skip ?_
                refine St.in_n ?_
                refine St.then_n ?_
                refine St.go hK21 ?_
                clear hK21
                refine St.region ?_
                refine St.r (R.move rfl) rfl rfl ?_
                refine St.r (R.add rfl rfl (by omega) (by omega)) rfl rfl ?_
                refine St.r (R.assign rfl) rfl rfl ?_
                refine St.nil ?_
                refine St.weak [(1, _), (3, _), (5, _)] ⟨rfl, rfl, rfl, trivial⟩ ?_
                refine St.then_n ?_
                refine St.round (k + 1) ⟨rfl, rfl, rfl, trivial⟩ ?_ ?_
                · refine ⟨by omega, E, k1, ry, ?_⟩
                  rw [take_snoc hv]
                  intro u hu
                  rcases List.mem_append.1 hu with hu | hu
                  · exact hin u hu
                  · rw [List.mem_singleton] at hu; subst hu; simpa using h48
                · omega
            ·
              have hany : (q.vars.any fun v => !decide (v ∈ partsVars q.parts)) = false := by
                rw [List.any_eq_false]
                intro u hu
                have := hin u (by rw [List.take_of_length_le (by omega)]; exact hu)
                simpa using this
              refine St.exit ?_
              refine St.then_x ?_
              refine St.then_x ?_
              refine St.in_x ?_
              refine St.then_n ?_
              refine St.go hK17 ?_
              clear hK17
              refine St.seq fun K25 hK25 => ?_
              refine St.seq fun K26 hK26 => ?_
              refine St.region ?_
              refine St.r (R.assign rfl) rfl rfl ?_
              refine St.nil ?_
              refine St.weak [(1, _), (7, _)] ⟨rfl, rfl, trivial⟩ ?_
              refine St.then_n ?_
              refine St.go hK26 ?_
              clear hK26
              refine St.block ?_
              refine St.loop (fun (k : Nat) => [(1, .pointer (some ⟨b1, 0, none⟩)), (7, .int .i64 (k : Int))])
                  (fun (k : Nat) w => k ≤ q.vars.length ∧ Ext w0 w ∧ Blk w b1 26 [.slice VA q.vars.length VC, .slice PA q.parts.length PC, .string q.order, .bool q.down, .bool q.distinct, .int .i64 q.limit] ∧ ∀ i v, i < k → q.vars[i]? = some v → ¬ v ∈ q.vars.take i)
                  (fun (k : Nat) => q.vars.length - k) 0 ⟨rfl, rfl, trivial⟩ ?_ ?_
              · exact ⟨Nat.zero_le _, E, k1, fun i v h => by omega⟩
              rintro k w ⟨hk, E, k1, hd⟩
              show St _ _ [(1, .pointer (some ⟨b1, 0, none⟩)), (7, .int .i64 (k : Int))] _ _
              refine St.seq fun K27 hK27 => ?_
              refine St.seq fun K28 hK28 => ?_
              refine St.region ?_
              refine St.r (R.move rfl) rfl rfl ?_
              refine St.r (R.fieldA Tryz.underlying26 rfl Tryz.sizeOf23 rfl rfl rfl) rfl rfl ?_
              refine St.r (R.load1 Tryz.isAgg23 rfl (k1.cells.at 0 rfl)) rfl rfl ?_
              refine St.r (R.lenSl Tryz.underlying23 rfl) rfl rfl ?_
              refine St.r (R.lss rfl rfl) rfl rfl ?_
              refine St.nil ?_
              refine St.weak [(1, _), (7, _), (53, _)] ⟨rfl, rfl, rfl, trivial⟩ ?_
              refine St.then_n ?_
              refine St.go hK28 ?_
              clear hK28
              refine St.condD rfl (fun h53 => ?_) (fun h53 => ?_)
              ·
                obtain ⟨v, hv⟩ := get_of_lt (xs := q.vars) (k := k) (by omega)
                obtain ⟨vb, vo, rfl, hvc⟩ := hvv.get' hv
                refine St.skip ?_
                refine St.then_n ?_
                refine St.go hK27 ?_
                clear hK27
                refine St.seq fun K29 hK29 => ?_
                refine St.block ?_
                refine St.seq fun K30 hK30 => ?_
                refine St.weak [(1, _), (7, _)] ⟨rfl, rfl, trivial⟩ ?_
                refine St.drawX mixed rfl rfl rfl rfl ?_
                replace E := Ext.trans E (Ext.drew _)
                replace k1 := k1.ext (Ext.drew _)
                refine ⟨_, fun W eW => OpX.q (OpOk.r (R.fieldA Tryz.underlying26 rfl Tryz.sizeOf23 rfl rfl rfl) rfl), ?_⟩
                refine ⟨_, fun W eW => OpX.q (OpOk.r (R.load1 Tryz.isAgg23 rfl ((k1.ext eW).cells.at 0 rfl)) rfl), ?_⟩
                refine ⟨_, fun W eW => OpX.q (OpOk.r (R.move rfl) rfl), ?_⟩
                refine ⟨_, fun W eW => OpX.q (OpOk.r (R.cutHi k Tryz.underlying23 Tryz.sizeOf9 rfl rfl rfl (by omega)) rfl), ?_⟩
                refine ⟨_, fun W eW => OpX.q (OpOk.r (R.fieldA Tryz.underlying26 rfl Tryz.sizeOf23 rfl rfl rfl) rfl), ?_⟩
                refine ⟨_, fun W eW => OpX.q (OpOk.r (R.load1 Tryz.isAgg23 rfl ((k1.ext eW).cells.at 0 rfl)) rfl), ?_⟩
                refine ⟨_, fun W eW => OpX.q (OpOk.r (R.move rfl) rfl), ?_⟩
                refine ⟨_, fun W eW => OpX.q (OpOk.r (R.indexS k Tryz.underlying23 Tryz.sizeOf9 rfl rfl rfl (by omega)) rfl), ?_⟩
                refine ⟨_, fun W eW => OpX.q (OpOk.r (R.load1 Tryz.isAgg9 rfl (((Ext.trans E eW).cells hvc).at 0 rfl)) rfl), ?_⟩
                refine ⟨_, fun W eW => OpX.call rfl rfl ent51 (rHas_ret _ ((hvv.ext (REnc.firm _) (Ext.trans E eW)).take hk)), ?_⟩
                refine ⟨_, fun W eW => OpX.q (OpOk.r (R.assign rfl) rfl), ?_⟩
                show ∀ w', Ext _ w' → St _ _ _ _ w'
                intro wd21 ed21
                replace E := Ext.trans E ed21
                replace k1 := k1.ext ed21
                refine St.weak [(1, _), (7, _), (8, _)] ⟨rfl, rfl, rfl, trivial⟩ ?_
                refine St.then_n ?_
                refine St.go hK30 ?_
                clear hK30
                refine St.seq fun K31 hK31 => ?_
                refine St.region ?_
                refine St.r (R.move rfl) rfl rfl ?_
                refine St.nil ?_
                refine St.weak [(1, _), (7, _), (66, _)] ⟨rfl, rfl, rfl, trivial⟩ ?_
                refine St.then_n ?_
                refine St.go hK31 ?_
                clear hK31
                refine St.cond rfl (fun h66 => ?_) (fun h66 => ?_)
                ·
                  refine St.seq fun K32 hK32 => ?_
                  refine St.region ?_
                  refine St.r (R.assign rfl) rfl rfl ?_
                  refine St.nil ?_
                  refine St.weak [(2, _)] ⟨rfl, trivial⟩ ?_
                  refine St.then_n ?_
                  refine St.go hK32 ?_
                  clear hK32
                  refine St.ret ?_
                  refine St.in_r ?_
                  refine St.then_r ?_
                  refine St.then_r ?_
                  refine St.in_r ?_
                  refine St.then_r ?_
                  refine St.ret1 Tryz.results8 rfl ?_
                  exact ⟨_, rfl, by rw [queryErr, if_neg h13, if_neg h17, hpe]; simp only; rw [if_neg h28, if_neg (by rintro (h | h); exact h32 h; rw [hany] at h; cases h), if_pos (dupB_true hv (by simpa using h66))]; rfl, E⟩
                ·
                  refine St.skip ?_
                  refine St.in_n ?_
                  refine St.then_n ?_
                  refine St.go hK29 ?_
                  clear hK29
                  refine St.region ?_
                  refine St.r (R.move rfl) rfl rfl ?_
                  refine St.r (R.add rfl rfl (by omega) (by omega)) rfl rfl ?_
                  refine St.r (R.assign rfl) rfl rfl ?_
                  refine St.nil ?_
                  refine St.weak [(1, _), (7, _)] ⟨rfl, rfl, trivial⟩ ?_
                  refine St.then_n ?_
                  refine St.round (k + 1) ⟨rfl, rfl, trivial⟩ ?_ ?_
                  · refine ⟨by omega, E, k1, fun i u hi hu => ?_⟩
                    rcases Nat.lt_or_ge i k with h | h
                    · exact hd i u h hu
                    · obtain rfl : i = k := by omega
                      rw [hv] at hu; injection hu with hu; subst hu; simpa using h66
                  · omega
              ·
                have hdup : dupB q.vars = false := dupB_false fun i v hi => hd i v (by have := lt_of_get hi; omega) hi
                refine St.exit ?_
                refine St.then_x ?_
                refine St.then_x ?_
                refine St.in_x ?_
                refine St.then_n ?_
                refine St.go hK25 ?_
                clear hK25
                refine St.seq fun K33 hK33 => ?_
                refine St.region ?_
                refine St.r (R.fieldA Tryz.underlying26 rfl Tryz.sizeOf23 rfl rfl rfl) rfl rfl ?_
                refine St.r (R.load1 Tryz.isAgg23 rfl (k1.cells.at 0 rfl)) rfl rfl ?_
                refine St.r (R.fieldA Tryz.underlying26 rfl Tryz.sizeOf9 rfl rfl rfl) rfl rfl ?_
                refine St.r (R.load1 Tryz.isAgg9 rfl (k1.cells.at 2 rfl)) rfl rfl ?_
                refine St.call rfl rfl ent51 (rHas_ret _ (hvv.ext (REnc.firm _) E)) rfl ?_
                rintro r71 w71 ⟨rfl, e71⟩
                replace E := Ext.trans E e71
                replace k1 := k1.ext e71
                refine St.r (R.assign rfl) rfl rfl ?_
                refine St.nil ?_
                refine St.weak [(1, _), (9, _)] ⟨rfl, rfl, trivial⟩ ?_
                refine St.then_n ?_
                refine St.go hK33 ?_
                clear hK33
                refine St.seq fun K34 hK34 => ?_
                refine St.seqJ (fun (b61 : Bool) => [(1, .pointer (some ⟨b1, 0, none⟩)), (78, .bool b61)])
                    (fun (b61 : Bool) w => Ext w0 w ∧ Blk w b1 26 [.slice VA q.vars.length VC, .slice PA q.parts.length PC, .string q.order, .bool q.down, .bool q.distinct, .int .i64 q.limit] ∧ (b61 = true ↔ (q.order ≠ ⟨#[]⟩ ∧ ¬ q.order ∈ q.vars))) ?_ ?_
                · rintro b61 w ⟨E, k1, hb61⟩
                  show St _ _ [(1, .pointer (some ⟨b1, 0, none⟩)), (78, .bool b61)] _ _
                  refine St.cond rfl (fun h61 => ?_) (fun h61 => ?_)
                  ·
                    replace h61 := hb61.1 h61
                    refine St.seq fun K36 hK36 => ?_
                    refine St.region ?_
                    refine St.r (R.assign rfl) rfl rfl ?_
                    refine St.nil ?_
                    refine St.weak [(2, _)] ⟨rfl, trivial⟩ ?_
                    refine St.then_n ?_
                    refine St.go hK36 ?_
                    clear hK36
                    refine St.ret ?_
                    refine St.then_r ?_
                    refine St.ret1 Tryz.results8 rfl ?_
                    exact ⟨_, rfl, by rw [queryErr, if_neg h13, if_neg h17, hpe]; simp only; rw [if_neg h28, if_neg (by rintro (h | h); exact h32 h; rw [hany] at h; cases h), if_neg (by rw [hdup]; simp), if_pos h61]; rfl, E⟩
                  ·
                    replace h61 : ¬ (q.order ≠ ⟨#[]⟩ ∧ ¬ q.order ∈ q.vars) := fun h => by rw [hb61.2 h] at h61; cases h61
                    refine St.skip ?_
                    refine St.then_n ?_
                    refine St.go hK34 ?_
                    clear hK34
                    refine St.seq fun K37 hK37 => ?_
                    refine St.seqJ (fun (b74 : Bool) => [(1, .pointer (some ⟨b1, 0, none⟩)), (85, .bool b74)])
                        (fun (b74 : Bool) w => Ext w0 w ∧ Blk w b1 26 [.slice VA q.vars.length VC, .slice PA q.parts.length PC, .string q.order, .bool q.down, .bool q.distinct, .int .i64 q.limit] ∧ (b74 = true ↔ (q.down = true ∧ q.order = ⟨#[]⟩))) ?_ ?_
                    · rintro b74 w ⟨E, k1, hb74⟩
                      show St _ _ [(1, .pointer (some ⟨b1, 0, none⟩)), (85, .bool b74)] _ _
                      refine St.cond rfl (fun h74 => ?_) (fun h74 => ?_)
                      ·
                        replace h74 := hb74.1 h74
                        refine St.seq fun K39 hK39 => ?_
                        refine St.region ?_
                        refine St.r (R.assign rfl) rfl rfl ?_
                        refine St.nil ?_
                        refine St.weak [(2, _)] ⟨rfl, trivial⟩ ?_
                        refine St.then_n ?_
                        refine St.go hK39 ?_
                        clear hK39
                        refine St.ret ?_
                        refine St.then_r ?_
                        refine St.ret1 Tryz.results8 rfl ?_
                        exact ⟨_, rfl, by rw [queryErr, if_neg h13, if_neg h17, hpe]; simp only; rw [if_neg h28, if_neg (by rintro (h | h); exact h32 h; rw [hany] at h; cases h), if_neg (by rw [hdup]; simp), if_neg h61, if_pos h74]; rfl, E⟩
                      ·
                        replace h74 : ¬ (q.down = true ∧ q.order = ⟨#[]⟩) := fun h => by rw [hb74.2 h] at h74; cases h74
                        refine St.skip ?_
                        refine St.then_n ?_
                        refine St.go hK37 ?_
                        clear hK37
                        refine St.seq fun K40 hK40 => ?_
                        refine St.seq fun K41 hK41 => ?_
                        by_cases h88 : q.limit < -1
                        ·
                          refine St.region ?_
                          refine St.r (R.fieldA Tryz.underlying26 rfl Tryz.sizeOf3 rfl rfl rfl) rfl rfl ?_
                          refine St.r (R.load1 Tryz.isAgg3 rfl (k1.cells.at 5 rfl)) rfl rfl ?_
                          refine St.r (Runs.lit (c := true) (R.lss rfl rfl) (decide_eq_true h88)) rfl rfl ?_
                          refine St.r (R.move rfl) rfl rfl ?_
                          refine St.pass (dg := 89) rfl rfl rfl rfl rfl ?_
                          refine St.pass (dg := 89) rfl rfl rfl rfl rfl ?_
                          refine St.pass (dg := 89) rfl rfl rfl rfl rfl ?_
                          refine St.r (R.pickT rfl rfl) rfl rfl ?_
                          refine St.nil ?_
                          refine St.weak [(93, _)] ⟨rfl, trivial⟩ ?_
                          refine St.then_n ?_
                          refine St.go hK41 ?_
                          clear hK41
                          refine St.condT rfl ?_
                          refine St.seq fun K42 hK42 => ?_
                          refine St.region ?_
                          refine St.r (R.assign rfl) rfl rfl ?_
                          refine St.nil ?_
                          refine St.weak [(2, _)] ⟨rfl, trivial⟩ ?_
                          refine St.then_n ?_
                          refine St.go hK42 ?_
                          clear hK42
                          refine St.ret ?_
                          refine St.then_r ?_
                          refine St.ret1 Tryz.results8 rfl ?_
                          exact ⟨_, rfl, by rw [queryErr, if_neg h13, if_neg h17, hpe]; simp only; rw [if_neg h28, if_neg (by rintro (h | h); exact h32 h; rw [hany] at h; cases h), if_neg (by rw [hdup]; simp), if_neg h61, if_neg h74, if_pos (.inl h88)]; rfl, E⟩
                        ·
                          refine St.region ?_
                          refine St.r (R.fieldA Tryz.underlying26 rfl Tryz.sizeOf3 rfl rfl rfl) rfl rfl ?_
                          refine St.r (R.load1 Tryz.isAgg3 rfl (k1.cells.at 5 rfl)) rfl rfl ?_
                          refine St.r (Runs.lit (c := false) (R.lss rfl rfl) (decide_eq_false h88)) rfl rfl ?_
                          refine St.r (R.move rfl) rfl rfl ?_
                          refine St.take (dg := 89) rfl rfl ?_ rfl
                          refine St.r (R.fieldA Tryz.underlying26 rfl Tryz.sizeOf3 rfl rfl rfl) rfl rfl ?_
                          refine St.take (dg := 89) rfl rfl ?_ rfl
                          refine St.r (R.load1 Tryz.isAgg3 rfl (k1.cells.at 5 rfl)) rfl rfl ?_
                          refine St.take (dg := 89) rfl rfl ?_ rfl
                          refine St.r (R.gtr rfl rfl) rfl rfl ?_
                          refine St.r (R.pickF rfl rfl) rfl rfl ?_
                          refine St.nil ?_
                          refine St.weak [(93, _)] ⟨rfl, trivial⟩ ?_
                          refine St.then_n ?_
                          refine St.go hK41 ?_
                          clear hK41
                          refine St.condD rfl (fun h93 => ?_) (fun h93 => ?_)
                          ·
                            refine St.seq fun K43 hK43 => ?_
                            refine St.region ?_
                            refine St.r (R.assign rfl) rfl rfl ?_
                            refine St.nil ?_
                            refine St.weak [(2, _)] ⟨rfl, trivial⟩ ?_
                            refine St.then_n ?_
                            refine St.go hK43 ?_
                            clear hK43
                            refine St.ret ?_
                            refine St.then_r ?_
                            refine St.ret1 Tryz.results8 rfl ?_
                            exact ⟨_, rfl, by rw [queryErr, if_neg h13, if_neg h17, hpe]; simp only; rw [if_neg h28, if_neg (by rintro (h | h); exact h32 h; rw [hany] at h; cases h), if_neg (by rw [hdup]; simp), if_neg h61, if_neg h74, if_pos (.inr h93)]; rfl, E⟩
                          ·
                            refine St.skip ?_
                            refine St.then_n ?_
                            refine St.go hK40 ?_
                            clear hK40
                            refine St.seq fun K44 hK44 => ?_
                            refine St.region ?_
                            refine St.r (R.assign rfl) rfl rfl ?_
                            refine St.nil ?_
                            refine St.weak [(2, _)] ⟨rfl, trivial⟩ ?_
                            refine St.then_n ?_
                            refine St.go hK44 ?_
                            clear hK44
                            refine St.ret ?_
                            refine St.ret1 Tryz.results8 rfl ?_
                            exact ⟨_, rfl, by rw [queryErr, if_neg h13, if_neg h17, hpe]; simp only; rw [if_neg h28, if_neg (by rintro (h | h); exact h32 h; rw [hany] at h; cases h), if_neg (by rw [hdup]; simp), if_neg h61, if_neg h74, if_neg (by rintro (h | h) <;> omega)]; rfl, E⟩
                    intro K38 hK38
                    rcases Bool.eq_false_or_eq_true q.down with h80 | h80
                    ·
                      refine St.region ?_
                      refine St.r (R.fieldA Tryz.underlying26 rfl Tryz.sizeOf4 rfl rfl rfl) rfl rfl ?_
                      refine St.r (Runs.lit (c := true) (R.load1 Tryz.isAgg4 rfl (k1.cells.at 3 rfl)) (h80)) rfl rfl ?_
                      refine St.r (R.move rfl) rfl rfl ?_
                      refine St.take (dg := 81) rfl rfl ?_ rfl
                      refine St.r (R.fieldA Tryz.underlying26 rfl Tryz.sizeOf9 rfl rfl rfl) rfl rfl ?_
                      refine St.take (dg := 81) rfl rfl ?_ rfl
                      refine St.r (R.load1 Tryz.isAgg9 rfl (k1.cells.at 2 rfl)) rfl rfl ?_
                      refine St.take (dg := 81) rfl rfl ?_ rfl
                      refine St.r (R.eqS rfl rfl) rfl rfl ?_
                      refine St.r (R.pickT rfl rfl) rfl rfl ?_
                      refine St.nil ?_
                      refine St.weak [(1, _), (85, _)] ⟨rfl, rfl, trivial⟩ ?_
                      refine St.then_n ?_
                      refine St.meet hK38 _ ⟨rfl, rfl, trivial⟩ ?_
                      · exact ⟨E, k1, by simp [h80]⟩
                    ·
                      refine St.region ?_
                      refine St.r (R.fieldA Tryz.underlying26 rfl Tryz.sizeOf4 rfl rfl rfl) rfl rfl ?_
                      refine St.r (Runs.lit (c := false) (R.load1 Tryz.isAgg4 rfl (k1.cells.at 3 rfl)) (h80)) rfl rfl ?_
                      refine St.r (R.move rfl) rfl rfl ?_
                      refine St.pass (dg := 81) rfl rfl rfl rfl rfl ?_
                      refine St.pass (dg := 81) rfl rfl rfl rfl rfl ?_
                      refine St.pass (dg := 81) rfl rfl rfl rfl rfl ?_
                      refine St.r (R.pickF rfl rfl) rfl rfl ?_
                      refine St.nil ?_
                      refine St.weak [(1, _), (85, _)] ⟨rfl, rfl, trivial⟩ ?_
                      refine St.then_n ?_
                      refine St.meet hK38 false ⟨rfl, rfl, trivial⟩ ?_
                      · exact ⟨E, k1, by simp [h80]⟩
                intro K35 hK35
                by_cases h74 : q.order ≠ ⟨#[]⟩
                ·
                  refine St.region ?_
                  refine St.r (R.fieldA Tryz.underlying26 rfl Tryz.sizeOf9 rfl rfl rfl) rfl rfl ?_
                  refine St.r (R.load1 Tryz.isAgg9 rfl (k1.cells.at 2 rfl)) rfl rfl ?_
                  refine St.r (Runs.lit (c := true) (R.neS rfl rfl) (decide_eq_true h74)) rfl rfl ?_
                  refine St.r (R.move rfl) rfl rfl ?_
                  refine St.take (dg := 75) rfl rfl ?_ rfl
                  refine St.r (R.move rfl) rfl rfl ?_
                  refine St.take (dg := 75) rfl rfl ?_ rfl
                  refine St.r (R.not rfl) rfl rfl ?_
                  refine St.r (R.pickT rfl rfl) rfl rfl ?_
                  refine St.nil ?_
                  refine St.weak [(1, _), (78, _)] ⟨rfl, rfl, trivial⟩ ?_
                  refine St.then_n ?_
                  refine St.meet hK35 _ ⟨rfl, rfl, trivial⟩ ?_
                  · exact ⟨E, k1, by simp [h74]⟩
                ·
                  refine St.region ?_
                  refine St.r (R.fieldA Tryz.underlying26 rfl Tryz.sizeOf9 rfl rfl rfl) rfl rfl ?_
                  refine St.r (R.load1 Tryz.isAgg9 rfl (k1.cells.at 2 rfl)) rfl rfl ?_
                  refine St.r (Runs.lit (c := false) (R.neS rfl rfl) (decide_eq_false h74)) rfl rfl ?_
                  refine St.r (R.move rfl) rfl rfl ?_
                  refine St.pass (dg := 75) rfl rfl rfl rfl rfl ?_
                  refine St.pass (dg := 75) rfl rfl rfl rfl rfl ?_
                  refine St.r (R.pickF rfl rfl) rfl rfl ?_
                  refine St.nil ?_
                  refine St.weak [(1, _), (78, _)] ⟨rfl, rfl, trivial⟩ ?_
                  refine St.then_n ?_
                  refine St.meet hK35 false ⟨rfl, rfl, trivial⟩ ?_
                  · exact ⟨E, k1, by simp [h74]⟩

end Go.Proofs.YtjgcmpondbocfaaGreatDoor

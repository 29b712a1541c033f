/- What the law StorePlays comes to: walked against plain Lean. Under the reading of its arguments; the variable errors.errorType holds the handle of the type error. -/
import Derived.Test.YtjgcmpondbocfaaDoorProg
import Derived.Test.YtjgcmpondbocfaaDoorRstoW
import Derived.Test.YtjgcmpondbocfaaDoorErrs
import Derived.Test.YtjgcmpondbocfaaDoorSortI
namespace Go.Proofs.YtjgcmpondbocfaaDoor
open Go.RowKit 
theorem ent8 : Ent Tryd.prog 8 := Ent.of Tryd.func8 (by kernel_rfl) rfl
theorem ent12 : Ent Tryd.prog 12 := Ent.of Tryd.func12 (by kernel_rfl) rfl
theorem ent17 : Ent Tryd.prog 17 := Ent.of Tryd.func17 (by kernel_rfl) rfl
theorem ent18 : Ent Tryd.prog 18 := Ent.of Tryd.func18 (by kernel_rfl) rfl
theorem ent19 : Ent Tryd.prog 19 := Ent.of Tryd.func19 (by kernel_rfl) rfl
theorem ent20 : Ent Tryd.prog 20 := Ent.of Tryd.func20 (by kernel_rfl) rfl
theorem ent21 : Ent Tryd.prog 21 := Ent.of Tryd.func21 (by kernel_rfl) rfl
theorem ent23 : Ent Tryd.prog 23 := Ent.of Tryd.func23 (by kernel_rfl) rfl
theorem ent25 : Ent Tryd.prog 25 := Ent.of Tryd.func25 (by kernel_rfl) rfl
theorem ent26 : Ent Tryd.prog 26 := Ent.of Tryd.func26 (by kernel_rfl) rfl
theorem ent27 : Ent Tryd.prog 27 := Ent.of Tryd.func27 (by kernel_rfl) rfl
theorem places48 : ∀ fs, Tryd.prog.underlying 48 = some (.struct fs) → Places Tryd.prog fs [(0, 1), (1, 1)] := by
  intro fs h
  rw [Tryd.underlying48] at h
  cases h
  intro w
  simp [go_sem, Tryd.sizeOf3, Tryd.sizeOf46]

theorem keepS_last (s : Sto) (xs : List Int) : (keepS s xs).2.2.last = s.last := by unfold keepS; split <;> rfl

set_option maxRecDepth 100000 in
theorem StorePlays_ret {steps lists : List (List Int)} {objs : List ByteArray} {v u x : Value} (w0 : World) (hg : ErrType w0) (hsteps : RSl RIL 1 w0 v steps) (hobj : RStrs w0 u objs) (hsz : ∀ b ∈ objs, b.size ≤ 140737488351232) (hlists : RSl RIL 1 w0 x lists) :
    Ret Tryd.prog 4 [v, u, x] w0 fun r w' => r = .bool true ∧ Ext w0 w' := by
  obtain ⟨A, c, rfl, hc1, hc2⟩ := hsteps.form
  obtain ⟨A1, c1, rfl, hc11, hc12⟩ := hobj.form
  obtain ⟨A2, c2, rfl, hc21, hc22⟩ := hlists.form
  have E : Ext w0 w0 := Ext.refl w0
  refine St.enter (N := 239) Tryd.func4 rfl Tryd.ntmps4 rfl ?_
  refine St.seq fun K0 hK0 => ?_
  refine St.region ?_
  refine St.r (R.assign rfl) rfl rfl ?_
  refine St.nil ?_
  refine St.weak [(0, _), (1, _), (2, _)] ⟨rfl, rfl, rfl, trivial⟩ ?_
  refine St.then_n ?_
  refine St.go hK0 ?_
  clear hK0
  refine St.seq fun K1 hK1 => ?_
  refine St.region ?_
  refine St.call rfl rfl ent17 (New_ret _) rfl ?_
  rintro r34 w34 ⟨g, bi, ba, rfl, hS, hg1, hbi, hba, e34⟩
  replace E := Ext.trans E e34
  have z34 := E.size
  have zg := hS.blk.lt
  have zbi := hS.ids.lt
  have zba := hS.all.lt
  refine St.r (R.assign rfl) rfl rfl ?_
  refine St.nil ?_
  refine St.weak [(0, _), (1, _), (2, _), (7, _)] ⟨rfl, rfl, rfl, rfl, trivial⟩ ?_
  refine St.then_n ?_
  refine St.go hK1 ?_
  clear hK1
  refine St.seq fun K2 hK2 => ?_
  refine St.region ?_
  refine St.r (R.build Tryd.underlying48 (places48 _ Tryd.underlying48) Tryd.zeroValue48 rfl rfl rfl) rfl rfl ?_
  refine St.box rfl rfl ?_
  intro w36 b36 hb36 hs36 e36 k36
  have qE36 := E.size
  replace E := Ext.trans E e36
  replace hS := hS.ext e36
  have kR : RefB 48 60 w36 b36 w36.heap.size Sto.empty.last (.slice none 0 0) Sto.empty.all := ⟨k36, Own.nil _ _ _ _ _, by omega⟩
  clear k36
  obtain ⟨base, hbase⟩ : ∃ n, n = w36.heap.size := ⟨_, rfl⟩
  rw [← hbase] at kR
  obtain ⟨m, hm⟩ : ∃ n, n = b36 := ⟨_, rfl⟩
  rw [← hm] at kR ⊢
  have hl : g < base ∧ bi < base ∧ ba < base ∧ m < base ∧ m ≠ g ∧ m ≠ bi ∧ m ≠ ba ∧ w0.heap.size ≤ g ∧ w0.heap.size ≤ bi ∧ w0.heap.size ≤ ba ∧ w0.heap.size ≤ m := by omega
  refine St.r (R.assign rfl) rfl rfl ?_
  refine St.nil ?_
  refine St.weak [(0, _), (1, _), (2, _), (7, _), (8, _)] ⟨rfl, rfl, rfl, rfl, rfl, trivial⟩ ?_
  refine St.then_n ?_
  refine St.go hK2 ?_
  clear hK2
  refine St.seq fun K3 hK3 => ?_
  refine St.seq fun K4 hK4 => ?_
  refine St.region ?_
  refine St.r (R.assign rfl) rfl rfl ?_
  refine St.nil ?_
  refine St.weak [(0, _), (1, _), (2, _), (7, _), (8, _), (9, _)] ⟨rfl, rfl, rfl, rfl, rfl, rfl, trivial⟩ ?_
  refine St.then_n ?_
  refine St.go hK4 ?_
  clear hK4
  refine St.block ?_
  refine St.loop (fun (x : Nat × Sto × Value) => match x with | (i, s, rv) => [(0, .slice A steps.length c), (1, .slice A1 objs.length c1), (2, .slice A2 lists.length c2), (7, .pointer (some ⟨g, 0, none⟩)), (8, .pointer (some ⟨m, 0, none⟩)), (9, .int .i64 (i : Int))])
      (fun (x : Nat × Sto × Value) w => match x with | (i, s, rv) => i ≤ steps.length ∧ i ≤ 60 ∧ s.Ok ∧ Asc s ∧ s.last ≤ (i : Int) ∧ Ext w0 w ∧ StoB 92 w g bi ba s ∧ RefB 48 60 w m base s.last rv s.all ∧ base ≤ w.heap.size)
      (fun (x : Nat × Sto × Value) => match x with | (i, s, rv) => steps.length - i) (0, Sto.empty, .slice none 0 0) ⟨rfl, rfl, rfl, rfl, rfl, rfl, trivial⟩ ?_ ?_
  · exact ⟨Nat.zero_le _, by omega, Sto.Ok.empty, Asc.empty, Int.le_refl _, E, hS, kR, by omega⟩
  rintro ⟨i, s, rv⟩ w ⟨hi, hi1, hok, hasc, hlast, E, hS, kR, zz⟩
  show St _ _ [(0, .slice A steps.length c), (1, .slice A1 objs.length c1), (2, .slice A2 lists.length c2), (7, .pointer (some ⟨g, 0, none⟩)), (8, .pointer (some ⟨m, 0, none⟩)), (9, .int .i64 (i : Int))] _ _
  refine St.seq fun K5 hK5 => ?_
  refine St.seq fun K6 hK6 => ?_
  by_cases h40 : (i : Int) < (steps.length : Int)
  ·
    refine St.region ?_
    refine St.r (R.move rfl) rfl rfl ?_
    refine St.r (R.move rfl) rfl rfl ?_
    refine St.r (R.lenSl Tryd.underlying41 rfl) rfl rfl ?_
    refine St.r (Runs.lit (c := true) (R.lss rfl rfl) (decide_eq_true h40)) rfl rfl ?_
    refine St.r (R.move rfl) rfl rfl ?_
    refine St.take (dg := 41) rfl rfl ?_ rfl
    refine St.r (R.move rfl) rfl rfl ?_
    refine St.take (dg := 41) rfl rfl ?_ rfl
    refine St.r (R.lss rfl rfl) rfl rfl ?_
    refine St.r (R.pickT rfl rfl) rfl rfl ?_
    refine St.nil ?_
    refine St.weak [(0, _), (1, _), (2, _), (7, _), (8, _), (9, _), (44, _)] ⟨rfl, rfl, rfl, rfl, rfl, rfl, rfl, trivial⟩ ?_
    refine St.then_n ?_
    refine St.go hK6 ?_
    clear hK6
    refine St.condD rfl (fun h44 => ?_) (fun h44 => ?_)
    ·
      obtain ⟨st, hst⟩ := get_of_lt (xs := steps) (k := i) (by omega)
      obtain ⟨sb, so, sv, rfl, hsc, hsv⟩ := hsteps.getL hst
      obtain ⟨SA, sd, rfl, hs1, hs2⟩ := hsv.form
      have hrb := fun k hk => (kR.own.base (k := k) hk).2
      have zz0 := zz
      obtain ⟨wA, hwA⟩ : ∃ x, x = w := ⟨_, rfl⟩
      subst hwA
      have hS0 := hS
      have kR0 := kR
      have F := Ext.refl wA
      refine St.skip ?_
      refine St.then_n ?_
      refine St.go hK5 ?_
      clear hK5
      refine St.seq fun K7 hK7 => ?_
      refine St.block ?_
      refine St.seq fun K8 hK8 => ?_
      refine St.region ?_
      refine St.alloc Tryd.zeroValue49 rfl ?_
      intro w10 b10 hb10 hs10 e10 k10
      have qE10 := E.size
      have qF10 := F.size
      replace E := Ext.trans E e10
      replace F := Ext.trans F e10
      replace hS := hS.ext e10
      replace kR := kR.ext e10
      replace zz := Nat.le_trans zz (Chg.size e10)
      have hne : ∀ k, rv.ownBlock = some k → k ≠ b10 := fun k hk => by have := hrb k hk; omega
      have zb10 : base ≤ b10 := by omega
      refine St.nil ?_
      refine St.weak [(0, _), (1, _), (2, _), (7, _), (8, _), (9, _), (10, _)] ⟨rfl, rfl, rfl, rfl, rfl, rfl, rfl, trivial⟩ ?_
      refine St.then_n ?_
      refine St.go hK8 ?_
      clear hK8
      refine St.seqJ (fun (x : Int × Int) => match x with | (a0, a1) => [(0, .slice (some ⟨sb, so, none⟩) steps.length c), (1, .slice A1 objs.length c1), (2, .slice A2 lists.length c2), (7, .pointer (some ⟨g, 0, none⟩)), (8, .pointer (some ⟨m, 0, none⟩)), (9, .int .i64 (i : Int)), (10, .pointer (some ⟨b10, 0, none⟩))])
          (fun (x : Int × Int) w => match x with | (a0, a1) => Ext w0 w ∧ Ext wA w ∧ Blk w b10 49 [.int .i64 a0, .int .i64 a1]) ?_ ?_
      · rintro ⟨a0, a1⟩ w ⟨E, F, k10⟩
        show St _ _ [(0, .slice (some ⟨sb, so, none⟩) steps.length c), (1, .slice A1 objs.length c1), (2, .slice A2 lists.length c2), (7, .pointer (some ⟨g, 0, none⟩)), (8, .pointer (some ⟨m, 0, none⟩)), (9, .int .i64 (i : Int)), (10, .pointer (some ⟨b10, 0, none⟩))] _ _
        clear hS kR
        have hS := hS0.ext F
        have kR := kR0.ext F
        have zF := F.size
        have zz : base ≤ w.heap.size := by omega
        clear F
        refine St.seq fun K10 hK10 => ?_
        refine St.region ?_
        refine St.r (R.assign rfl) rfl rfl ?_
        refine St.nil ?_
        refine St.weak [(0, _), (1, _), (2, _), (7, _), (8, _), (9, _), (10, _), (12, _)] ⟨rfl, rfl, rfl, rfl, rfl, rfl, rfl, rfl, trivial⟩ ?_
        refine St.then_n ?_
        refine St.go hK10 ?_
        clear hK10
        refine St.seqJ (fun (b : ByteArray) => [(0, .slice (some ⟨sb, so, none⟩) steps.length c), (1, .slice A1 objs.length c1), (2, .slice A2 lists.length c2), (7, .pointer (some ⟨g, 0, none⟩)), (8, .pointer (some ⟨m, 0, none⟩)), (9, .int .i64 (i : Int)), (10, .pointer (some ⟨b10, 0, none⟩)), (12, .string b)])
            (fun (b : ByteArray) w => b.size ≤ 140737488351232 ∧ Ext w0 w ∧ StoB 92 w g bi ba s ∧ RefB 48 60 w m base s.last rv s.all ∧ base ≤ w.heap.size ∧ Blk w b10 49 [.int .i64 a0, .int .i64 a1] ∧ (∀ k, rv.ownBlock = some k → k ≠ b10)) ?_ ?_
        · rintro b w ⟨hb, E, hS, kR, zz, k10, hne⟩
          show St _ _ [(0, .slice (some ⟨sb, so, none⟩) steps.length c), (1, .slice A1 objs.length c1), (2, .slice A2 lists.length c2), (7, .pointer (some ⟨g, 0, none⟩)), (8, .pointer (some ⟨m, 0, none⟩)), (9, .int .i64 (i : Int)), (10, .pointer (some ⟨b10, 0, none⟩)), (12, .string b)] _ _
          refine St.seq fun K12 hK12 => ?_
          refine St.region ?_
          refine St.r (R.assign rfl) rfl rfl ?_
          refine St.nil ?_
          refine St.weak [(0, _), (1, _), (2, _), (7, _), (8, _), (9, _), (10, _), (12, _), (13, _)] ⟨rfl, rfl, rfl, rfl, rfl, rfl, rfl, rfl, rfl, trivial⟩ ?_
          refine St.then_n ?_
          refine St.go hK12 ?_
          clear hK12
          refine St.seqJ (fun (x : Sto × Value) => match x with | (s1, rv1) => [(0, .slice (some ⟨sb, so, none⟩) steps.length c), (1, .slice A1 objs.length c1), (2, .slice A2 lists.length c2), (7, .pointer (some ⟨g, 0, none⟩)), (8, .pointer (some ⟨m, 0, none⟩)), (9, .int .i64 (i : Int)), (10, .pointer (some ⟨b10, 0, none⟩)), (12, .string b), (13, .bool true)])
              (fun (x : Sto × Value) w => match x with | (s1, rv1) => s1.Ok ∧ Asc s1 ∧ s1.last ≤ (i : Int) + 1 ∧ Ext w0 w ∧ StoB 92 w g bi ba s1 ∧ RefB 48 60 w m base s1.last rv1 s1.all ∧ base ≤ w.heap.size ∧ Blk w b10 49 [.int .i64 a0, .int .i64 a1] ∧ (∀ k, rv1.ownBlock = some k → k ≠ b10)) ?_ ?_
          · rintro ⟨s1, rv1⟩ w ⟨hok1, hasc1, hlast1, E, hS, kR, zz, k10, hne⟩
            show St _ _ [(0, .slice (some ⟨sb, so, none⟩) steps.length c), (1, .slice A1 objs.length c1), (2, .slice A2 lists.length c2), (7, .pointer (some ⟨g, 0, none⟩)), (8, .pointer (some ⟨m, 0, none⟩)), (9, .int .i64 (i : Int)), (10, .pointer (some ⟨b10, 0, none⟩)), (12, .string b), (13, .bool true)] _ _
            refine St.seq fun K14 hK14 => ?_
            refine St.region ?_
            refine St.r (R.move rfl) rfl rfl ?_
            refine St.r (R.indexA 1 Tryd.underlying49 Tryd.sizeOf3 rfl rfl rfl (by omega)) rfl rfl ?_
            refine St.r (R.load1 Tryd.isAgg3 rfl (k10.cells.at 1 rfl)) rfl rfl ?_
            refine St.call rfl rfl ent22 (rGet_ret hok1 _ kR) rfl ?_
            rintro r154 w154 ⟨rfl, rfl⟩
            refine St.r (R.move rfl) rfl rfl ?_
            refine St.r (R.extract rfl rfl) rfl rfl ?_
            refine St.r (R.extract rfl rfl) rfl rfl ?_
            refine St.r (R.assign rfl) rfl rfl ?_
            refine St.r (R.assign rfl) rfl rfl ?_
            refine St.nil ?_
            refine St.weak [(0, _), (1, _), (2, _), (7, _), (8, _), (9, _), (10, _), (12, _), (13, _), (23, _), (24, _)] ⟨rfl, rfl, rfl, rfl, rfl, rfl, rfl, rfl, rfl, rfl, rfl, trivial⟩ ?_
            refine St.then_n ?_
            refine St.go hK14 ?_
            clear hK14
            refine St.seq fun K15 hK15 => ?_
            refine St.region ?_
            refine St.r (R.move rfl) rfl rfl ?_
            refine St.r (R.indexA 1 Tryd.underlying49 Tryd.sizeOf3 rfl rfl rfl (by omega)) rfl rfl ?_
            refine St.r (R.load1 Tryd.isAgg3 rfl (k10.cells.at 1 rfl)) rfl rfl ?_
            refine St.call rfl rfl ent23 (Get_ret _ hS) rfl ?_
            rintro r161 w161 ⟨rfl, rfl⟩
            refine St.r (R.move rfl) rfl rfl ?_
            refine St.r (R.extract rfl rfl) rfl rfl ?_
            refine St.r (R.extract rfl rfl) rfl rfl ?_
            refine St.r (R.assign rfl) rfl rfl ?_
            refine St.r (R.assign rfl) rfl rfl ?_
            refine St.nil ?_
            refine St.weak [(0, _), (1, _), (2, _), (7, _), (8, _), (9, _), (12, _), (13, _), (23, _), (24, _), (25, _), (26, _)] ⟨rfl, rfl, rfl, rfl, rfl, rfl, rfl, rfl, rfl, rfl, rfl, rfl, trivial⟩ ?_
            refine St.then_n ?_
            refine St.go hK15 ?_
            clear hK15
            refine St.seq fun K16 hK16 => ?_
            refine St.region ?_
            refine St.r (R.move rfl) rfl rfl ?_
            refine St.r (R.move rfl) rfl rfl ?_
            refine St.call rfl rfl ent8 (Error_ret _ (hg.ext E)) rfl ?_
            rintro r166 w166 ⟨rfl, e166⟩
            replace E := Ext.trans E e166
            replace hS := hS.ext e166
            replace kR := kR.ext e166
            replace k10 := k10.ext e166
            replace zz := Nat.le_trans zz (Chg.size e166)
            refine St.r (R.assign rfl) rfl rfl ?_
            refine St.nil ?_
            refine St.weak [(0, _), (1, _), (2, _), (7, _), (8, _), (9, _), (12, _), (13, _), (23, _), (25, _), (27, _)] ⟨rfl, rfl, rfl, rfl, rfl, rfl, rfl, rfl, rfl, rfl, rfl, trivial⟩ ?_
            refine St.then_n ?_
            refine St.go hK16 ?_
            clear hK16
            refine St.seq fun K17 hK17 => ?_
            refine St.region ?_
            refine St.r (R.assign rfl) rfl rfl ?_
            refine St.nil ?_
            refine St.weak [(0, _), (1, _), (2, _), (7, _), (8, _), (9, _), (12, _), (13, _), (23, _), (24, _), (25, _), (27, _)] ⟨rfl, rfl, rfl, rfl, rfl, rfl, rfl, rfl, rfl, rfl, rfl, rfl, trivial⟩ ?_
            refine St.then_n ?_
            refine St.go hK17 ?_
            clear hK17
            refine St.seq fun K18 hK18 => ?_
            refine St.region ?_
            refine St.r (R.move rfl) rfl rfl ?_
            refine St.r (R.move rfl) rfl rfl ?_
            refine St.call rfl rfl ent24 (rFind_ret hok1 _ kR) rfl ?_
            rintro r169 w169 ⟨rfl, rfl⟩
            refine St.r (R.assign rfl) rfl rfl ?_
            refine St.nil ?_
            refine St.weak [(0, _), (1, _), (2, _), (7, _), (8, _), (9, _), (12, _), (13, _), (23, _), (24, _), (25, _), (27, _), (28, _)] ⟨rfl, rfl, rfl, rfl, rfl, rfl, rfl, rfl, rfl, rfl, rfl, rfl, rfl, trivial⟩ ?_
            refine St.then_n ?_
            refine St.go hK18 ?_
            clear hK18
            refine St.seqJ (fun (x : Unit) => match x with | () => [(0, .slice (some ⟨sb, so, none⟩) steps.length c), (1, .slice A1 objs.length c1), (2, .slice A2 lists.length c2), (7, .pointer (some ⟨g, 0, none⟩)), (8, .pointer (some ⟨m, 0, none⟩)), (9, .int .i64 (i : Int)), (12, .string b), (13, .bool true), (23, .string ((getM s1.all a1).getD ⟨#[]⟩)), (25, .string ((getM s1.all a1).getD ⟨#[]⟩)), (27, .bool true), (28, .int .i64 ((getM s1.ids b).getD 0)), (24, .int .i64 (if (getM s1.ids b).getD 0 = 0 then 5 else 0))])
                (fun (x : Unit) w => match x with | () => Ext w0 w ∧ StoB 92 w g bi ba s1 ∧ RefB 48 60 w m base s1.last rv1 s1.all ∧ base ≤ w.heap.size) ?_ ?_
            · rintro _ w ⟨E, hS, kR, zz⟩
              show St _ _ [(0, .slice (some ⟨sb, so, none⟩) steps.length c), (1, .slice A1 objs.length c1), (2, .slice A2 lists.length c2), (7, .pointer (some ⟨g, 0, none⟩)), (8, .pointer (some ⟨m, 0, none⟩)), (9, .int .i64 (i : Int)), (12, .string b), (13, .bool true), (23, .string ((getM s1.all a1).getD ⟨#[]⟩)), (25, .string ((getM s1.all a1).getD ⟨#[]⟩)), (27, .bool true), (28, .int .i64 ((getM s1.ids b).getD 0)), (24, .int .i64 (if (getM s1.ids b).getD 0 = 0 then 5 else 0))] _ _
              refine St.seq fun K20 hK20 => ?_
              refine St.region ?_
              refine St.r (R.move rfl) rfl rfl ?_
              refine St.r (R.move rfl) rfl rfl ?_
              refine St.call rfl rfl ent25 (Find_ret _ hS) rfl ?_
              rintro r175 w175 ⟨rfl, rfl⟩
              refine St.r (R.move rfl) rfl rfl ?_
              refine St.r (R.extract rfl rfl) rfl rfl ?_
              refine St.r (R.extract rfl rfl) rfl rfl ?_
              refine St.r (R.assign rfl) rfl rfl ?_
              refine St.r (R.assign rfl) rfl rfl ?_
              refine St.nil ?_
              refine St.weak [(0, _), (1, _), (2, _), (7, _), (8, _), (9, _), (13, _), (23, _), (24, _), (25, _), (26, _), (27, _), (28, _), (29, _)] ⟨rfl, rfl, rfl, rfl, rfl, rfl, rfl, rfl, rfl, rfl, rfl, rfl, rfl, rfl, trivial⟩ ?_
              refine St.then_n ?_
              refine St.go hK20 ?_
              clear hK20
              refine St.seq fun K21 hK21 => ?_
              refine St.region ?_
              refine St.r (R.move rfl) rfl rfl ?_
              refine St.r (R.move rfl) rfl rfl ?_
              refine St.call rfl rfl ent8 (Error_ret _ (hg.ext E)) rfl ?_
              rintro r180 w180 ⟨rfl, e180⟩
              replace E := Ext.trans E e180
              replace hS := hS.ext e180
              replace kR := kR.ext e180
              replace zz := Nat.le_trans zz (Chg.size e180)
              obtain ⟨AR, cR, rfl, hcR1, hcR2⟩ := kR.own.form
              have zE := E.size
              have hrb := fun k hk => (kR.own.base (k := k) hk).2
              have h60 := hok1.few
              refine St.r (R.assign rfl) rfl rfl ?_
              refine St.nil ?_
              refine St.weak [(0, _), (1, _), (2, _), (7, _), (8, _), (9, _), (13, _), (23, _), (25, _), (27, _), (28, _), (29, _), (30, _)] ⟨rfl, rfl, rfl, rfl, rfl, rfl, rfl, rfl, rfl, rfl, rfl, rfl, rfl, trivial⟩ ?_
              refine St.then_n ?_
              refine St.go hK21 ?_
              clear hK21
              refine St.seq fun K22 hK22 => ?_
              refine St.region ?_
              refine St.r (R.assign rfl) rfl rfl ?_
              refine St.nil ?_
              refine St.weak [(0, _), (1, _), (2, _), (7, _), (8, _), (9, _), (13, _), (23, _), (25, _), (27, _), (28, _), (29, _), (30, _), (31, _)] ⟨rfl, rfl, rfl, rfl, rfl, rfl, rfl, rfl, rfl, rfl, rfl, rfl, rfl, rfl, trivial⟩ ?_
              refine St.then_n ?_
              refine St.go hK22 ?_
              clear hK22
              refine St.seq fun K23 hK23 => ?_
              refine St.seq fun K24 hK24 => ?_
              refine St.region ?_
              refine St.r (R.assign rfl) rfl rfl ?_
              refine St.nil ?_
              refine St.weak [(0, _), (1, _), (2, _), (7, _), (8, _), (9, _), (13, _), (23, _), (25, _), (27, _), (28, _), (29, _), (30, _), (31, _), (32, _)] ⟨rfl, rfl, rfl, rfl, rfl, rfl, rfl, rfl, rfl, rfl, rfl, rfl, rfl, rfl, rfl, trivial⟩ ?_
              refine St.then_n ?_
              refine St.go hK24 ?_
              clear hK24
              refine St.block ?_
              obtain ⟨wB, hwB⟩ : ∃ x, x = w180 := ⟨_, rfl⟩
              subst hwB
              have F := Ext.refl wB
              refine St.loop (fun (x : Nat × Value) => match x with | (k, v31) => [(0, .slice (some ⟨sb, so, none⟩) steps.length c), (1, .slice A1 objs.length c1), (2, .slice A2 lists.length c2), (7, .pointer (some ⟨g, 0, none⟩)), (8, .pointer (some ⟨m, 0, none⟩)), (9, .int .i64 (i : Int)), (13, .bool true), (23, .string ((getM s1.all a1).getD ⟨#[]⟩)), (25, .string ((getM s1.all a1).getD ⟨#[]⟩)), (27, .bool true), (28, .int .i64 ((getM s1.ids b).getD 0)), (29, .int .i64 ((getM s1.ids b).getD 0)), (30, .bool true), (31, v31), (32, .int .i64 (k : Int))])
                  (fun (x : Nat × Value) w => match x with | (k, v31) => k ≤ s1.all.length ∧ Ext w0 w ∧ Ext wB w ∧ Own encInt 1 wB.heap.size 3 w v31 ((s1.all.take k).map (·.1)))
                  (fun (x : Nat × Value) => match x with | (k, v31) => s1.all.length - k) (0, .slice none 0 0) ⟨rfl, rfl, rfl, rfl, rfl, rfl, rfl, rfl, rfl, rfl, rfl, rfl, (look_eq rfl (congrArg Value.bool (decide_eq_true (by split <;> rfl)))), rfl, rfl, trivial⟩ ?_ ?_
              · exact ⟨Nat.zero_le _, E, F, Own.nil _ _ _ _ _⟩
              rintro ⟨k, v31⟩ w ⟨hk, E, F, o31⟩
              show St _ _ [(0, .slice (some ⟨sb, so, none⟩) steps.length c), (1, .slice A1 objs.length c1), (2, .slice A2 lists.length c2), (7, .pointer (some ⟨g, 0, none⟩)), (8, .pointer (some ⟨m, 0, none⟩)), (9, .int .i64 (i : Int)), (13, .bool true), (23, .string ((getM s1.all a1).getD ⟨#[]⟩)), (25, .string ((getM s1.all a1).getD ⟨#[]⟩)), (27, .bool true), (28, .int .i64 ((getM s1.ids b).getD 0)), (29, .int .i64 ((getM s1.ids b).getD 0)), (30, .bool true), (31, v31), (32, .int .i64 (k : Int))] _ _
              refine St.seq fun K25 hK25 => ?_
              refine St.seq fun K26 hK26 => ?_
              refine St.region ?_
              refine St.r (R.move rfl) rfl rfl ?_
              refine St.r (R.move rfl) rfl rfl ?_
              refine St.r (R.nilOk rfl) rfl rfl ?_
              refine St.r (R.fieldA Tryd.underlying48 rfl Tryd.sizeOf46 rfl rfl rfl) rfl rfl ?_
              refine St.r (R.load1 Tryd.isAgg46 rfl ((kR.ext F).blk.cells.at 1 rfl)) rfl rfl ?_
              refine St.r (R.lenSl Tryd.underlying46 rfl) rfl rfl ?_
              refine St.r (R.lss rfl rfl) rfl rfl ?_
              refine St.nil ?_
              refine St.weak [(0, _), (1, _), (2, _), (7, _), (8, _), (9, _), (13, _), (23, _), (25, _), (27, _), (28, _), (29, _), (30, _), (31, _), (32, _), (187, _)] ⟨rfl, rfl, rfl, rfl, rfl, rfl, rfl, rfl, rfl, rfl, rfl, rfl, rfl, rfl, rfl, rfl, trivial⟩ ?_
              refine St.then_n ?_
              refine St.go hK26 ?_
              clear hK26
              refine St.condD rfl (fun h187 => ?_) (fun h187 => ?_)
              ·
                obtain ⟨x2, hx2⟩ := get_of_lt (xs := s1.all) (k := k) (by omega)
                obtain ⟨x2b, x2o, rfl, hx2c⟩ := (kR.own.reads encObj_len).get' hx2
                have zF := F.size
                refine St.skip ?_
                refine St.then_n ?_
                refine St.go hK25 ?_
                clear hK25
                refine St.seq fun K27 hK27 => ?_
                refine St.block ?_
                refine St.region ?_
                refine St.r (R.move rfl) rfl rfl ?_
                refine St.r (R.move rfl) rfl rfl ?_
                refine St.r (R.nilOk rfl) rfl rfl ?_
                refine St.r (R.fieldA Tryd.underlying48 rfl Tryd.sizeOf46 rfl rfl rfl) rfl rfl ?_
                refine St.r (R.load1 Tryd.isAgg46 rfl ((kR.ext F).blk.cells.at 1 rfl)) rfl rfl ?_
                refine St.r (R.move rfl) rfl rfl ?_
                refine St.r (R.indexS k Tryd.underlying46 Tryd.sizeOf60 rfl rfl rfl (by omega)) rfl rfl ?_
                refine St.r (R.fieldA Tryd.underlying60 rfl Tryd.sizeOf3 rfl rfl rfl) rfl rfl ?_
                refine St.r (R.load1 Tryd.isAgg3 rfl ((F.cells hx2c).at 0 rfl)) rfl rfl ?_
                refine St.buildSl Tryd.underlying30 Tryd.sizeOf3 Tryd.zeroValue3 rfl rfl rfl rfl (by intro u hu; simp only [List.mem_cons, List.not_mem_nil, or_false] at hu; first | (subst hu; rfl) | (rcases hu with rfl | rfl <;> rfl) | (rcases hu with rfl | rfl | rfl <;> rfl) | (rcases hu with rfl | rfl | rfl | rfl <;> rfl)) rfl ?_
                intro w199 b199 hb199 hs199 e199 k199
                have qE199 := E.size
                have qF199 := F.size
                replace E := Ext.trans E e199
                replace F := Ext.trans F e199
                replace o31 := o31.ext e199
                refine St.append (enc := encInt) (fun _ => rfl) one_int Tryd.underlying30 info3 rfl rfl rfl rfl o31 (RSl.mk (enc := encInt) (xs := [x2.1]) encInt_len k199.cells (fun i u hu => hu) (by simp) (by simp)) (by simp; omega) (by simp; omega) F.size rfl ?_
                intro v200 w200 a200 g200 at200
                replace E := Ext.then E g200 (by intro j hj hk; have := (o31.base hk).1; omega)
                replace F := Ext.then F g200 (by intro j hj hk; have := (o31.base hk).1; omega)
                clear o31; have o31 := a200; clear a200
                refine St.r (R.assign rfl) rfl rfl ?_
                refine St.nil ?_
                refine St.weak [(0, _), (1, _), (2, _), (7, _), (8, _), (9, _), (13, _), (23, _), (25, _), (27, _), (28, _), (29, _), (30, _), (31, _), (32, _)] ⟨rfl, rfl, rfl, rfl, rfl, rfl, rfl, rfl, rfl, rfl, rfl, rfl, rfl, rfl, rfl, trivial⟩ ?_
                refine St.in_n ?_
                refine St.then_n ?_
                refine St.go hK27 ?_
                clear hK27
                refine St.region ?_
                refine St.r (R.move rfl) rfl rfl ?_
                refine St.r (R.add rfl rfl (by omega) (by omega)) rfl rfl ?_
                refine St.r (R.assign rfl) rfl rfl ?_
                refine St.nil ?_
                refine St.weak [(0, _), (1, _), (2, _), (7, _), (8, _), (9, _), (13, _), (23, _), (25, _), (27, _), (28, _), (29, _), (30, _), (31, _), (32, _)] ⟨rfl, rfl, rfl, rfl, rfl, rfl, rfl, rfl, rfl, rfl, rfl, rfl, rfl, rfl, rfl, trivial⟩ ?_
                refine St.then_n ?_
                refine St.round (k + 1, v200) ⟨rfl, rfl, rfl, rfl, rfl, rfl, rfl, rfl, rfl, rfl, rfl, rfl, rfl, rfl, rfl, trivial⟩ ?_ ?_
                · try dsimp only
                  exact ⟨by omega, E, F, by rw [take_snoc hx2, List.map_append]; exact o31⟩
                · try dsimp only
                  omega
              ·
                rw [List.take_of_length_le (by omega)] at o31
                replace hS := hS.ext F
                replace kR := kR.ext F
                have zF := F.size
                replace zz := Nat.le_trans zz zF
                refine St.exit ?_
                refine St.then_x ?_
                refine St.then_x ?_
                refine St.in_x ?_
                refine St.then_n ?_
                refine St.go hK23 ?_
                clear hK23
                refine St.seq fun K28 hK28 => ?_
                refine St.region ?_
                refine St.r (R.move rfl) rfl rfl ?_
                refine St.call rfl rfl ent26 (Ids_ret sortInts hok1 _ hS) rfl ?_
                rintro r202 w202 ⟨ks, hks, o202, e202⟩
                replace E := Ext.trans E e202
                replace o31 := o31.ext e202
                replace hS := hS.ext e202
                replace kR := kR.ext e202
                replace zz := Nat.le_trans zz (Chg.size e202)
                rw [ids_sorted hasc1 hks] at o202
                refine St.r (R.move rfl) rfl rfl ?_
                refine St.call rfl rfl ent12 (Ints_ret _ (o202.reads encInt_len) (o31.reads encInt_len)) rfl ?_
                rintro r204 w204 ⟨rfl, e204⟩
                replace E := Ext.trans E e204
                replace o31 := o31.ext e204
                replace hS := hS.ext e204
                replace kR := kR.ext e204
                replace zz := Nat.le_trans zz (Chg.size e204)
                replace o202 := o202.ext e204
                refine St.r (R.assign rfl) rfl rfl ?_
                refine St.nil ?_
                refine St.weak [(0, _), (1, _), (2, _), (7, _), (8, _), (9, _), (13, _), (23, _), (25, _), (27, _), (28, _), (29, _), (30, _), (33, _)] ⟨rfl, rfl, rfl, rfl, rfl, rfl, rfl, rfl, rfl, rfl, rfl, rfl, rfl, rfl, trivial⟩ ?_
                refine St.then_n ?_
                refine St.go hK28 ?_
                clear hK28
                refine St.seq fun K29 hK29 => ?_
                refine St.weak [(0, _), (1, _), (2, _), (7, _), (8, _), (9, _), (13, _), (23, _), (25, _), (27, _), (28, _), (29, _), (30, _), (33, _)] ⟨rfl, rfl, rfl, rfl, rfl, rfl, rfl, rfl, rfl, rfl, rfl, rfl, rfl, rfl, trivial⟩ ?_
                refine St.drawX mixed rfl rfl rfl rfl ?_
                replace E := Ext.trans E (Ext.drew _)
                replace o31 := o31.ext (Ext.drew _)
                replace hS := hS.ext (Ext.drew _)
                replace kR := kR.ext (Ext.drew _)
                replace zz := Nat.le_trans zz (Chg.size (Ext.drew _))
                replace o202 := o202.ext (Ext.drew _)
                refine ⟨_, fun W eW => OpX.q (OpOk.r (Runs.lit (c := true) (R.move rfl) (rfl)) rfl), ?_⟩
                refine ⟨_, fun W eW => OpX.q (OpOk.r (Runs.lit (c := false) (R.not rfl) (rfl)) rfl), ?_⟩
                refine ⟨_, fun W eW => OpX.q (OpOk.r (R.move rfl) rfl), ?_⟩
                refine ⟨_, fun W eW => OpX.q (OpOk.take (dg := 207) (Runs.lit (c := true) (R.move rfl) (rfl)) rfl rfl rfl rfl), ?_⟩
                refine ⟨_, fun W eW => OpX.q (OpOk.take (dg := 207) (Runs.lit (c := false) (R.not rfl) (rfl)) rfl rfl rfl rfl), ?_⟩
                refine ⟨_, fun W eW => OpX.q (OpOk.r (R.pickF rfl rfl) rfl), ?_⟩
                refine ⟨_, fun W eW => OpX.q (OpOk.r (R.move rfl) rfl), ?_⟩
                refine ⟨_, fun W eW => OpX.q (OpOk.take (dg := 211) (Runs.lit (c := true) (R.move rfl) (rfl)) rfl rfl rfl rfl), ?_⟩
                refine ⟨_, fun W eW => OpX.q (OpOk.take (dg := 211) (Runs.lit (c := false) (R.not rfl) (rfl)) rfl rfl rfl rfl), ?_⟩
                refine ⟨_, fun W eW => OpX.q (OpOk.r (R.pickF rfl rfl) rfl), ?_⟩
                refine ⟨_, fun W eW => OpX.q (OpOk.r (R.move rfl) rfl), ?_⟩
                refine ⟨_, fun W eW => OpX.q (OpOk.take (dg := 215) (Runs.lit (c := true) (R.move rfl) (decide_eq_true rfl)) rfl rfl rfl rfl), ?_⟩
                refine ⟨_, fun W eW => OpX.q (OpOk.take (dg := 215) (Runs.lit (c := false) (R.not rfl) (rfl)) rfl rfl rfl rfl), ?_⟩
                refine ⟨_, fun W eW => OpX.q (OpOk.r (R.pickF rfl rfl) rfl), ?_⟩
                refine ⟨_, fun W eW => OpX.q (OpOk.r (R.move rfl) rfl), ?_⟩
                refine ⟨_, fun W eW => OpX.q (OpOk.take (dg := 219) (R.move rfl) rfl rfl rfl rfl), ?_⟩
                refine ⟨_, fun W eW => OpX.q (OpOk.take (dg := 219) (R.move rfl) rfl rfl rfl rfl), ?_⟩
                refine ⟨_, fun W eW => OpX.q (OpOk.take (dg := 219) (Runs.lit (c := false) (R.neS rfl rfl) (decide_eq_false (fun h => h rfl))) rfl rfl rfl rfl), ?_⟩
                refine ⟨_, fun W eW => OpX.q (OpOk.r (R.pickF rfl rfl) rfl), ?_⟩
                refine ⟨_, fun W eW => OpX.q (OpOk.r (R.move rfl) rfl), ?_⟩
                refine ⟨_, fun W eW => OpX.q (OpOk.take (dg := 224) (R.move rfl) rfl rfl rfl rfl), ?_⟩
                refine ⟨_, fun W eW => OpX.q (OpOk.take (dg := 224) (R.move rfl) rfl rfl rfl rfl), ?_⟩
                refine ⟨_, fun W eW => OpX.q (OpOk.take (dg := 224) (Runs.lit (c := false) (R.neq rfl rfl) (decide_eq_false (fun h => h rfl))) rfl rfl rfl rfl), ?_⟩
                refine ⟨_, fun W eW => OpX.q (OpOk.r (R.pickF rfl rfl) rfl), ?_⟩
                refine ⟨_, fun W eW => OpX.q (OpOk.r (R.move rfl) rfl), ?_⟩
                refine ⟨_, fun W eW => OpX.q (OpOk.take (dg := 229) (R.move rfl) rfl rfl rfl rfl), ?_⟩
                refine ⟨_, fun W eW => OpX.callG (dg := 229) rfl rfl ent27 (Ret.mono (Len_ret _ (hS.ext eW)) (fun r W h => ⟨h.1, h.2 ▸ Ext.refl _⟩)) rfl rfl rfl, ?_⟩
                refine ⟨_, fun W eW => OpX.q (OpOk.take (dg := 229) (R.move rfl) rfl rfl rfl rfl), ?_⟩
                refine ⟨_, fun W eW => OpX.q (OpOk.take (dg := 229) (R.nilOk rfl) rfl rfl rfl rfl), ?_⟩
                refine ⟨_, fun W eW => OpX.q (OpOk.take (dg := 229) (R.fieldA Tryd.underlying48 rfl Tryd.sizeOf46 rfl rfl rfl) rfl rfl rfl rfl), ?_⟩
                refine ⟨_, fun W eW => OpX.q (OpOk.take (dg := 229) (R.load1 Tryd.isAgg46 rfl ((kR.ext eW).blk.cells.at 1 rfl)) rfl rfl rfl rfl), ?_⟩
                refine ⟨_, fun W eW => OpX.q (OpOk.take (dg := 229) (R.lenSl Tryd.underlying46 rfl) rfl rfl rfl rfl), ?_⟩
                refine ⟨_, fun W eW => OpX.q (OpOk.take (dg := 229) (Runs.lit (c := false) (R.neq rfl rfl) (decide_eq_false (fun h => h rfl))) rfl rfl rfl rfl), ?_⟩
                refine ⟨_, fun W eW => OpX.q (OpOk.r (R.pickF rfl rfl) rfl), ?_⟩
                show ∀ w', Ext _ w' → St _ _ _ _ w'
                intro wd47 ed47
                replace E := Ext.trans E ed47
                replace o31 := o31.ext ed47
                replace hS := hS.ext ed47
                replace kR := kR.ext ed47
                replace zz := Nat.le_trans zz (Chg.size ed47)
                replace o202 := o202.ext ed47
                refine St.weak [(0, _), (1, _), (2, _), (7, _), (8, _), (9, _), (238, _)] ⟨rfl, rfl, rfl, rfl, rfl, rfl, rfl, trivial⟩ ?_
                refine St.then_n ?_
                refine St.go hK29 ?_
                clear hK29
                refine St.condF rfl ?_
                refine St.skip ?_
                refine St.in_n ?_
                refine St.then_n ?_
                refine St.go hK7 ?_
                clear hK7
                refine St.region ?_
                refine St.r (R.move rfl) rfl rfl ?_
                refine St.r (R.add rfl rfl (by omega) (by omega)) rfl rfl ?_
                refine St.r (R.assign rfl) rfl rfl ?_
                refine St.nil ?_
                refine St.weak [(0, _), (1, _), (2, _), (7, _), (8, _), (9, _)] ⟨rfl, rfl, rfl, rfl, rfl, rfl, trivial⟩ ?_
                refine St.then_n ?_
                refine St.round (i + 1, s1, .slice AR s1.all.length cR) ⟨rfl, rfl, rfl, rfl, rfl, rfl, trivial⟩ ?_ ?_
                · try dsimp only
                  exact ⟨by omega, by omega, hok1, hasc1, by omega, E, hS, kR, zz⟩
                · try dsimp only
                  omega
            intro K19 hK19
            refine St.seq fun K30 hK30 => ?_
            refine St.region ?_
            refine St.r (R.move rfl) rfl rfl ?_
            refine St.r (R.eql rfl rfl) rfl rfl ?_
            refine St.nil ?_
            refine St.weak [(0, _), (1, _), (2, _), (7, _), (8, _), (9, _), (12, _), (13, _), (23, _), (24, _), (25, _), (27, _), (28, _), (171, _)] ⟨rfl, rfl, rfl, rfl, rfl, rfl, rfl, rfl, rfl, rfl, rfl, rfl, rfl, rfl, trivial⟩ ?_
            refine St.then_n ?_
            refine St.go hK30 ?_
            clear hK30
            refine St.condD rfl (fun h171 => ?_) (fun h171 => ?_)
            ·
              refine St.region ?_
              refine St.r (R.assign rfl) rfl rfl ?_
              refine St.nil ?_
              refine St.weak [(0, _), (1, _), (2, _), (7, _), (8, _), (9, _), (12, _), (13, _), (23, _), (24, _), (25, _), (27, _), (28, _)] ⟨rfl, rfl, rfl, rfl, rfl, rfl, rfl, rfl, rfl, rfl, rfl, rfl, rfl, trivial⟩ ?_
              refine St.then_n ?_
              refine St.meet hK19 () ⟨rfl, rfl, rfl, rfl, rfl, rfl, rfl, rfl, rfl, rfl, (look_eq rfl (congrArg Value.bool (decide_eq_true (by cases (getM s1.all a1) <;> rfl)))), rfl, (look_int rfl (by rw [if_pos h171])), trivial⟩ ?_
              · exact ⟨E, hS, kR, zz⟩
            ·
              refine St.skip ?_
              refine St.then_n ?_
              refine St.meet hK19 () ⟨rfl, rfl, rfl, rfl, rfl, rfl, rfl, rfl, rfl, rfl, (look_eq rfl (congrArg Value.bool (decide_eq_true (by cases (getM s1.all a1) <;> rfl)))), rfl, (look_int rfl (by rw [if_neg h171])), trivial⟩ ?_
              · exact ⟨E, hS, kR, zz⟩
          intro K13 hK13
          refine St.seq fun K31 hK31 => ?_
          refine St.region ?_
          refine St.r (R.indexA 0 Tryd.underlying49 Tryd.sizeOf3 rfl rfl rfl (by omega)) rfl rfl ?_
          refine St.r (R.load1 Tryd.isAgg3 rfl (k10.cells.at 0 rfl)) rfl rfl ?_
          refine St.nil ?_
          refine St.weak [(0, _), (1, _), (2, _), (7, _), (8, _), (9, _), (10, _), (12, _), (13, _), (85, _)] ⟨rfl, rfl, rfl, rfl, rfl, rfl, rfl, rfl, rfl, rfl, trivial⟩ ?_
          refine St.then_n ?_
          refine St.go hK31 ?_
          clear hK31
          refine St.block ?_
          refine St.seqJ (fun (q : Bool) => [(0, .slice (some ⟨sb, so, none⟩) steps.length c), (1, .slice A1 objs.length c1), (2, .slice A2 lists.length c2), (7, .pointer (some ⟨g, 0, none⟩)), (8, .pointer (some ⟨m, 0, none⟩)), (9, .int .i64 (i : Int)), (10, .pointer (some ⟨b10, 0, none⟩)), (12, .string b), (13, .bool true), (85, .int .i64 a0), (86, .bool q)])
              (fun (q : Bool) w => Ext w0 w ∧ StoB 92 w g bi ba s ∧ RefB 48 60 w m base s.last rv s.all ∧ base ≤ w.heap.size ∧ Blk w b10 49 [.int .i64 a0, .int .i64 a1] ∧ (∀ k, rv.ownBlock = some k → k ≠ b10)) ?_ ?_
          · rintro q w ⟨E, hS, kR, zz, k10, hne⟩
            show St _ _ [(0, .slice (some ⟨sb, so, none⟩) steps.length c), (1, .slice A1 objs.length c1), (2, .slice A2 lists.length c2), (7, .pointer (some ⟨g, 0, none⟩)), (8, .pointer (some ⟨m, 0, none⟩)), (9, .int .i64 (i : Int)), (10, .pointer (some ⟨b10, 0, none⟩)), (12, .string b), (13, .bool true), (85, .int .i64 a0), (86, .bool q)] _ _
            refine St.cond rfl (fun h86 => ?_) (fun h86 => ?_)
            ·
              refine St.seq fun K33 hK33 => ?_
              refine St.region ?_
              refine St.r (R.move rfl) rfl rfl ?_
              refine St.r (R.move rfl) rfl rfl ?_
              refine St.call rfl rfl ent18 (rPut_ret hok (by omega) (by omega) _ zz kR) rfl ?_
              rintro r94 w94 ⟨rfl, ⟨rv1, hrv1, kR1⟩, C94⟩
              have hrb1 := fun k hk => (kR.own.base (k := k) hk)
              replace zz := Nat.le_trans zz C94.size
              have hzz := E.size
              replace E := Ext.then E C94 (by rintro j hj (h | h); omega; have := (hrb1 j h).1; omega)
              replace hS := hS.chg C94 (by rintro (h | h); omega; have := (hrb1 _ h).1; omega) (by rintro (h | h); omega; have := (hrb1 _ h).1; omega) (by rintro (h | h); omega; have := (hrb1 _ h).1; omega)
              have hne1 : ∀ k, rv1.ownBlock = some k → k ≠ b10 := fun k hk => by
                rcases hrv1 k hk with h | h
                · exact hne k h
                · have := k10.lt; omega
              replace k10 := k10.chg C94 (by rintro (h | h); omega; exact hne _ h rfl)
              have zC := C94.size
              clear kR hrb1 hne
              refine St.r (R.move rfl) rfl rfl ?_
              refine St.r (R.extract rfl rfl) rfl rfl ?_
              refine St.r (R.extract rfl rfl) rfl rfl ?_
              refine St.r (R.assign rfl) rfl rfl ?_
              refine St.r (R.assign rfl) rfl rfl ?_
              refine St.nil ?_
              refine St.weak [(0, _), (1, _), (2, _), (7, _), (8, _), (9, _), (10, _), (12, _), (14, _), (15, _)] ⟨rfl, rfl, rfl, rfl, rfl, rfl, rfl, rfl, rfl, rfl, trivial⟩ ?_
              refine St.then_n ?_
              refine St.go hK33 ?_
              clear hK33
              refine St.seq fun K34 hK34 => ?_
              refine St.region ?_
              refine St.r (R.move rfl) rfl rfl ?_
              refine St.r (R.move rfl) rfl rfl ?_
              refine St.call rfl rfl ent19 (Put_ret hok (by omega) _ hS) rfl ?_
              rintro r100 w100 ⟨rfl, hS1, C100⟩
              replace E := Ext.then E C100 (fun j hj h => by omega)
              replace zz := Nat.le_trans zz C100.size
              replace k10 := k10.chg C100 (by omega)
              replace kR1 := kR1.chg2 C100 (by omega) (fun k hk h => by omega)
              have zC2 := C100.size
              clear hS
              refine St.r (R.move rfl) rfl rfl ?_
              refine St.r (R.extract rfl rfl) rfl rfl ?_
              refine St.r (R.extract rfl rfl) rfl rfl ?_
              refine St.r (R.assign rfl) rfl rfl ?_
              refine St.r (R.assign rfl) rfl rfl ?_
              refine St.nil ?_
              refine St.weak [(0, _), (1, _), (2, _), (7, _), (8, _), (9, _), (10, _), (12, _), (14, _), (15, _), (16, _), (17, _)] ⟨rfl, rfl, rfl, rfl, rfl, rfl, rfl, rfl, rfl, rfl, rfl, rfl, trivial⟩ ?_
              refine St.then_n ?_
              refine St.go hK34 ?_
              clear hK34
              refine St.seq fun K35 hK35 => ?_
              refine St.region ?_
              refine St.r (R.move rfl) rfl rfl ?_
              refine St.r (R.move rfl) rfl rfl ?_
              refine St.call rfl rfl ent8 (Error_ret _ (hg.ext E)) rfl ?_
              rintro r105 w105 ⟨rfl, e105⟩
              replace E := Ext.trans E e105
              replace k10 := k10.ext e105
              replace zz := Nat.le_trans zz (Chg.size e105)
              replace kR1 := kR1.ext e105
              replace hS1 := hS1.ext e105
              refine St.r (R.assign rfl) rfl rfl ?_
              refine St.nil ?_
              refine St.weak [(0, _), (1, _), (2, _), (7, _), (8, _), (9, _), (10, _), (12, _), (13, _), (14, _), (16, _)] ⟨rfl, rfl, rfl, rfl, rfl, rfl, rfl, rfl, rfl, rfl, rfl, trivial⟩ ?_
              refine St.then_n ?_
              refine St.go hK35 ?_
              clear hK35
              refine St.region ?_
              refine St.r (Runs.lit (c := true) (R.move rfl) (decide_eq_true rfl)) rfl rfl ?_
              refine St.r (R.move rfl) rfl rfl ?_
              refine St.take (dg := 107) rfl rfl ?_ rfl
              refine St.r (R.move rfl) rfl rfl ?_
              refine St.take (dg := 107) rfl rfl ?_ rfl
              refine St.r (R.move rfl) rfl rfl ?_
              refine St.take (dg := 107) rfl rfl ?_ rfl
              refine St.r (Runs.lit (c := true) (R.eql rfl rfl) (decide_eq_true rfl)) rfl rfl ?_
              refine St.r (R.pickT rfl rfl) rfl rfl ?_
              refine St.r (R.assign rfl) rfl rfl ?_
              refine St.nil ?_
              refine St.weak [(0, _), (1, _), (2, _), (7, _), (8, _), (9, _), (10, _), (12, _), (13, _)] ⟨rfl, rfl, rfl, rfl, rfl, rfl, rfl, rfl, rfl, trivial⟩ ?_
              refine St.in_n ?_
              refine St.then_n ?_
              refine St.meet hK13 ((putS s b).2.2, rv1) ⟨rfl, rfl, rfl, rfl, rfl, rfl, rfl, rfl, rfl, trivial⟩ ?_
              · try dsimp only
                exact ⟨putS_ok hok (by omega) b, hasc.put hok b, by have := putS_last s b; omega, E, hS1, kR1, zz, k10, hne1⟩
            ·
              refine St.seq fun K36 hK36 => ?_
              refine St.region ?_
              refine St.r (R.eql rfl rfl) rfl rfl ?_
              refine St.r (R.assign rfl) rfl rfl ?_
              refine St.nil ?_
              refine St.weak [(0, _), (1, _), (2, _), (7, _), (8, _), (9, _), (10, _), (12, _), (13, _), (112, _)] ⟨rfl, rfl, rfl, rfl, rfl, rfl, rfl, rfl, rfl, rfl, trivial⟩ ?_
              refine St.then_n ?_
              refine St.go hK36 ?_
              clear hK36
              refine St.condD rfl (fun h112 => ?_) (fun h112 => ?_)
              ·
                refine St.seq fun K37 hK37 => ?_
                refine St.region ?_
                refine St.r (R.assign rfl) rfl rfl ?_
                refine St.nil ?_
                refine St.weak [(0, _), (1, _), (2, _), (7, _), (8, _), (9, _), (10, _), (12, _), (18, _)] ⟨rfl, rfl, rfl, rfl, rfl, rfl, rfl, rfl, rfl, trivial⟩ ?_
                refine St.then_n ?_
                refine St.go hK37 ?_
                clear hK37
                refine St.seqJ (fun (x : Value × List Int) => match x with | (u, xs) => [(0, .slice (some ⟨sb, so, none⟩) steps.length c), (1, .slice A1 objs.length c1), (2, .slice A2 lists.length c2), (7, .pointer (some ⟨g, 0, none⟩)), (8, .pointer (some ⟨m, 0, none⟩)), (9, .int .i64 (i : Int)), (10, .pointer (some ⟨b10, 0, none⟩)), (12, .string b), (18, u)])
                    (fun (x : Value × List Int) w => match x with | (u, xs) => RInts w0 u xs ∧ Ext w0 w ∧ StoB 92 w g bi ba s ∧ RefB 48 60 w m base s.last rv s.all ∧ base ≤ w.heap.size ∧ Blk w b10 49 [.int .i64 a0, .int .i64 a1] ∧ (∀ k, rv.ownBlock = some k → k ≠ b10)) ?_ ?_
                · rintro ⟨u, xs⟩ w ⟨hu, E, hS, kR, zz, k10, hne⟩
                  show St _ _ [(0, .slice (some ⟨sb, so, none⟩) steps.length c), (1, .slice A1 objs.length c1), (2, .slice A2 lists.length c2), (7, .pointer (some ⟨g, 0, none⟩)), (8, .pointer (some ⟨m, 0, none⟩)), (9, .int .i64 (i : Int)), (10, .pointer (some ⟨b10, 0, none⟩)), (12, .string b), (18, u)] _ _
                  refine St.seq fun K39 hK39 => ?_
                  refine St.region ?_
                  refine St.r (R.move rfl) rfl rfl ?_
                  refine St.r (R.move rfl) rfl rfl ?_
                  refine St.call rfl rfl ent20 (rKeep_ret hok _ zz (hu.ext (REnc.firm _) E) kR) rfl ?_
                  rintro r132 w132 ⟨rfl, ⟨rv1, hrv1, kR1⟩, C132⟩
                  have hrb1 := fun k hk => (kR.own.base (k := k) hk)
                  replace zz := Nat.le_trans zz C132.size
                  have hzz := E.size
                  replace E := Ext.then E C132 (by rintro j hj (h | h); omega; have := (hrb1 j h).1; omega)
                  replace hS := hS.chg C132 (by rintro (h | h); omega; have := (hrb1 _ h).1; omega) (by rintro (h | h); omega; have := (hrb1 _ h).1; omega) (by rintro (h | h); omega; have := (hrb1 _ h).1; omega)
                  have hne1 : ∀ k, rv1.ownBlock = some k → k ≠ b10 := fun k hk => by
                    rcases hrv1 k hk with h | h
                    · exact hne k h
                    · have := k10.lt; omega
                  replace k10 := k10.chg C132 (by rintro (h | h); omega; exact hne _ h rfl)
                  have zC := C132.size
                  clear kR hrb1 hne
                  refine St.r (R.move rfl) rfl rfl ?_
                  refine St.r (R.extract rfl rfl) rfl rfl ?_
                  refine St.r (R.extract rfl rfl) rfl rfl ?_
                  refine St.r (R.assign rfl) rfl rfl ?_
                  refine St.r (R.assign rfl) rfl rfl ?_
                  refine St.nil ?_
                  refine St.weak [(0, _), (1, _), (2, _), (7, _), (8, _), (9, _), (10, _), (12, _), (18, _), (19, _), (20, _)] ⟨rfl, rfl, rfl, rfl, rfl, rfl, rfl, rfl, rfl, rfl, rfl, trivial⟩ ?_
                  refine St.then_n ?_
                  refine St.go hK39 ?_
                  clear hK39
                  refine St.seq fun K40 hK40 => ?_
                  refine St.region ?_
                  refine St.r (R.move rfl) rfl rfl ?_
                  refine St.r (R.move rfl) rfl rfl ?_
                  refine St.call rfl rfl ent21 (Keep_ret hok _ hS (hu.ext (REnc.firm _) E) (fun h0 k hk => by have := hu.lt (enc := encInt) (fun _ => Nat.one_pos) h0 hk; omega)) rfl ?_
                  rintro r138 w138 ⟨rfl, hS1, C138⟩
                  replace E := Ext.then E C138 (fun j hj h => by omega)
                  replace zz := Nat.le_trans zz C138.size
                  replace k10 := k10.chg C138 (by omega)
                  replace kR1 := kR1.chg2 C138 (by omega) (fun k hk h => by omega)
                  have zC2 := C138.size
                  clear hS
                  refine St.r (R.move rfl) rfl rfl ?_
                  refine St.r (R.extract rfl rfl) rfl rfl ?_
                  refine St.r (R.extract rfl rfl) rfl rfl ?_
                  refine St.r (R.assign rfl) rfl rfl ?_
                  refine St.r (R.assign rfl) rfl rfl ?_
                  refine St.nil ?_
                  refine St.weak [(0, _), (1, _), (2, _), (7, _), (8, _), (9, _), (10, _), (12, _), (19, _), (20, _), (21, _), (22, _)] ⟨rfl, rfl, rfl, rfl, rfl, rfl, rfl, rfl, rfl, rfl, rfl, rfl, trivial⟩ ?_
                  refine St.then_n ?_
                  refine St.go hK40 ?_
                  clear hK40
                  refine St.seq fun K41 hK41 => ?_
                  refine St.region ?_
                  refine St.r (R.move rfl) rfl rfl ?_
                  refine St.r (R.move rfl) rfl rfl ?_
                  refine St.call rfl rfl ent8 (Error_ret _ (hg.ext E)) rfl ?_
                  rintro r143 w143 ⟨rfl, e143⟩
                  replace E := Ext.trans E e143
                  replace k10 := k10.ext e143
                  replace zz := Nat.le_trans zz (Chg.size e143)
                  replace kR1 := kR1.ext e143
                  replace hS1 := hS1.ext e143
                  refine St.r (R.assign rfl) rfl rfl ?_
                  refine St.nil ?_
                  refine St.weak [(0, _), (1, _), (2, _), (7, _), (8, _), (9, _), (10, _), (12, _), (13, _), (19, _), (21, _)] ⟨rfl, rfl, rfl, rfl, rfl, rfl, rfl, rfl, rfl, rfl, rfl, trivial⟩ ?_
                  refine St.then_n ?_
                  refine St.go hK41 ?_
                  clear hK41
                  refine St.region ?_
                  refine St.r (Runs.lit (c := true) (R.move rfl) (decide_eq_true rfl)) rfl rfl ?_
                  refine St.r (R.move rfl) rfl rfl ?_
                  refine St.take (dg := 145) rfl rfl ?_ rfl
                  refine St.r (R.move rfl) rfl rfl ?_
                  refine St.take (dg := 145) rfl rfl ?_ rfl
                  refine St.r (R.move rfl) rfl rfl ?_
                  refine St.take (dg := 145) rfl rfl ?_ rfl
                  refine St.r (Runs.lit (c := true) (R.eql rfl rfl) (decide_eq_true rfl)) rfl rfl ?_
                  refine St.r (R.pickT rfl rfl) rfl rfl ?_
                  refine St.r (R.assign rfl) rfl rfl ?_
                  refine St.nil ?_
                  refine St.weak [(0, _), (1, _), (2, _), (7, _), (8, _), (9, _), (10, _), (12, _), (13, _)] ⟨rfl, rfl, rfl, rfl, rfl, rfl, rfl, rfl, rfl, trivial⟩ ?_
                  refine St.in_n ?_
                  refine St.then_n ?_
                  refine St.meet hK13 ((keepS s xs).2.2, rv1) ⟨rfl, rfl, rfl, rfl, rfl, rfl, rfl, rfl, rfl, trivial⟩ ?_
                  · try dsimp only
                    exact ⟨keepS_ok hok xs, hasc.keep xs, by rw [keepS_last]; omega, E, hS1, kR1, zz, k10, hne1⟩
                intro K38 hK38
                refine St.seq fun K42 hK42 => ?_
                by_cases h116 : (0 : Int) ≤ a1
                ·
                  refine St.region ?_
                  refine St.r (R.indexA 1 Tryd.underlying49 Tryd.sizeOf3 rfl rfl rfl (by omega)) rfl rfl ?_
                  refine St.r (R.load1 Tryd.isAgg3 rfl (k10.cells.at 1 rfl)) rfl rfl ?_
                  refine St.r (Runs.lit (c := true) (R.geq rfl rfl) (decide_eq_true h116)) rfl rfl ?_
                  refine St.r (R.move rfl) rfl rfl ?_
                  refine St.take (dg := 117) rfl rfl ?_ rfl
                  refine St.r (R.indexA 1 Tryd.underlying49 Tryd.sizeOf3 rfl rfl rfl (by omega)) rfl rfl ?_
                  refine St.take (dg := 117) rfl rfl ?_ rfl
                  refine St.r (R.load1 Tryd.isAgg3 rfl (k10.cells.at 1 rfl)) rfl rfl ?_
                  refine St.take (dg := 117) rfl rfl ?_ rfl
                  refine St.r (R.move rfl) rfl rfl ?_
                  refine St.take (dg := 117) rfl rfl ?_ rfl
                  refine St.r (R.lenSl Tryd.underlying41 rfl) rfl rfl ?_
                  refine St.take (dg := 117) rfl rfl ?_ rfl
                  refine St.r (R.lss rfl rfl) rfl rfl ?_
                  refine St.r (R.pickT rfl rfl) rfl rfl ?_
                  refine St.nil ?_
                  refine St.weak [(0, _), (1, _), (2, _), (7, _), (8, _), (9, _), (10, _), (12, _), (18, _), (123, _)] ⟨rfl, rfl, rfl, rfl, rfl, rfl, rfl, rfl, rfl, rfl, trivial⟩ ?_
                  refine St.then_n ?_
                  refine St.go hK42 ?_
                  clear hK42
                  refine St.condD rfl (fun h123 => ?_) (fun h123 => ?_)
                  ·
                    obtain ⟨n1, rfl⟩ : ∃ n : Nat, a1 = (n : Int) := ⟨a1.toNat, by omega⟩
                    obtain ⟨xs, hxs⟩ := get_of_lt (xs := lists) (k := n1) (by omega)
                    obtain ⟨lb, lo, lv, rfl, hlc, hlv⟩ := hlists.getL hxs
                    refine St.region ?_
                    refine St.r (R.move rfl) rfl rfl ?_
                    refine St.r (R.indexA 1 Tryd.underlying49 Tryd.sizeOf3 rfl rfl rfl (by omega)) rfl rfl ?_
                    refine St.r (R.load1 Tryd.isAgg3 rfl (k10.cells.at 1 rfl)) rfl rfl ?_
                    refine St.r (R.indexS n1 Tryd.underlying41 Tryd.sizeOf30 rfl rfl rfl (by omega)) rfl rfl ?_
                    refine St.r (R.load1 Tryd.isAgg30 rfl (E.cell hlc)) rfl rfl ?_
                    refine St.r (R.assign rfl) rfl rfl ?_
                    refine St.nil ?_
                    refine St.weak [(0, _), (1, _), (2, _), (7, _), (8, _), (9, _), (10, _), (12, _), (18, _)] ⟨rfl, rfl, rfl, rfl, rfl, rfl, rfl, rfl, rfl, trivial⟩ ?_
                    refine St.then_n ?_
                    refine St.meet hK38 (lv, xs) ⟨rfl, rfl, rfl, rfl, rfl, rfl, rfl, rfl, rfl, trivial⟩ ?_
                    · try dsimp only
                      exact ⟨hlv, E, hS, kR, zz, k10, hne⟩
                  ·
                    refine St.skip ?_
                    refine St.then_n ?_
                    refine St.meet hK38 (.slice none 0 0, []) ⟨rfl, rfl, rfl, rfl, rfl, rfl, rfl, rfl, rfl, trivial⟩ ?_
                    · try dsimp only
                      exact ⟨RSl.nil _ _ _, E, hS, kR, zz, k10, hne⟩
                ·
                  refine St.region ?_
                  refine St.r (R.indexA 1 Tryd.underlying49 Tryd.sizeOf3 rfl rfl rfl (by omega)) rfl rfl ?_
                  refine St.r (R.load1 Tryd.isAgg3 rfl (k10.cells.at 1 rfl)) rfl rfl ?_
                  refine St.r (Runs.lit (c := false) (R.geq rfl rfl) (decide_eq_false h116)) rfl rfl ?_
                  refine St.r (R.move rfl) rfl rfl ?_
                  refine St.pass (dg := 117) rfl rfl rfl rfl rfl ?_
                  refine St.pass (dg := 117) rfl rfl rfl rfl rfl ?_
                  refine St.pass (dg := 117) rfl rfl rfl rfl rfl ?_
                  refine St.pass (dg := 117) rfl rfl rfl rfl rfl ?_
                  refine St.pass (dg := 117) rfl rfl rfl rfl rfl ?_
                  refine St.r (R.pickF rfl rfl) rfl rfl ?_
                  refine St.nil ?_
                  refine St.weak [(0, _), (1, _), (2, _), (7, _), (8, _), (9, _), (10, _), (12, _), (18, _), (123, _)] ⟨rfl, rfl, rfl, rfl, rfl, rfl, rfl, rfl, rfl, rfl, trivial⟩ ?_
                  refine St.then_n ?_
                  refine St.go hK42 ?_
                  clear hK42
                  refine St.condF rfl ?_
                  refine St.skip ?_
                  refine St.then_n ?_
                  refine St.meet hK38 (.slice none 0 0, []) ⟨rfl, rfl, rfl, rfl, rfl, rfl, rfl, rfl, rfl, trivial⟩ ?_
                  · try dsimp only
                    exact ⟨RSl.nil _ _ _, E, hS, kR, zz, k10, hne⟩
              ·
                refine St.skip ?_
                refine St.in_n ?_
                refine St.then_n ?_
                refine St.meet hK13 (s, rv) ⟨rfl, rfl, rfl, rfl, rfl, rfl, rfl, rfl, rfl, trivial⟩ ?_
                · try dsimp only
                  exact ⟨hok, hasc, by omega, E, hS, kR, zz, k10, hne⟩
          intro K32 hK32
          refine St.seq fun K43 hK43 => ?_
          refine St.region ?_
          refine St.r (R.eql rfl rfl) rfl rfl ?_
          refine St.r (R.assign rfl) rfl rfl ?_
          refine St.nil ?_
          refine St.weak [(0, _), (1, _), (2, _), (7, _), (8, _), (9, _), (10, _), (12, _), (13, _), (85, _), (86, _)] ⟨rfl, rfl, rfl, rfl, rfl, rfl, rfl, rfl, rfl, rfl, rfl, trivial⟩ ?_
          refine St.then_n ?_
          refine St.go hK43 ?_
          clear hK43
          refine St.condD rfl (fun h86 => ?_) (fun h86 => ?_)
          ·
            refine St.skip ?_
            refine St.then_n ?_
            refine St.meet hK32 _ ⟨rfl, rfl, rfl, rfl, rfl, rfl, rfl, rfl, rfl, rfl, rfl, trivial⟩ ?_
            · exact ⟨E, hS, kR, zz, k10, hne⟩
          ·
            refine St.seq fun K44 hK44 => ?_
            refine St.region ?_
            refine St.r (R.eql rfl rfl) rfl rfl ?_
            refine St.r (R.assign rfl) rfl rfl ?_
            refine St.nil ?_
            refine St.weak [(0, _), (1, _), (2, _), (7, _), (8, _), (9, _), (10, _), (12, _), (13, _), (85, _), (86, _)] ⟨rfl, rfl, rfl, rfl, rfl, rfl, rfl, rfl, rfl, rfl, rfl, trivial⟩ ?_
            refine St.then_n ?_
            refine St.go hK44 ?_
            clear hK44
            refine St.condD rfl (fun h86 => ?_) (fun h86 => ?_)
            ·
              refine St.skip ?_
              refine St.then_n ?_
              refine St.meet hK32 _ ⟨rfl, rfl, rfl, rfl, rfl, rfl, rfl, rfl, rfl, rfl, rfl, trivial⟩ ?_
              · exact ⟨E, hS, kR, zz, k10, hne⟩
            ·
              refine St.seq fun K45 hK45 => ?_
              refine St.region ?_
              refine St.r (R.eql rfl rfl) rfl rfl ?_
              refine St.r (R.assign rfl) rfl rfl ?_
              refine St.nil ?_
              refine St.weak [(0, _), (1, _), (2, _), (7, _), (8, _), (9, _), (10, _), (12, _), (13, _), (85, _), (86, _)] ⟨rfl, rfl, rfl, rfl, rfl, rfl, rfl, rfl, rfl, rfl, rfl, trivial⟩ ?_
              refine St.then_n ?_
              refine St.go hK45 ?_
              clear hK45
              refine St.condD rfl (fun h86 => ?_) (fun h86 => ?_)
              ·
                refine St.skip ?_
                refine St.then_n ?_
                refine St.meet hK32 _ ⟨rfl, rfl, rfl, rfl, rfl, rfl, rfl, rfl, rfl, rfl, rfl, trivial⟩ ?_
                · exact ⟨E, hS, kR, zz, k10, hne⟩
              ·
                refine St.region ?_
                refine St.r (R.eql rfl rfl) rfl rfl ?_
                refine St.r (R.assign rfl) rfl rfl ?_
                refine St.nil ?_
                refine St.weak [(0, _), (1, _), (2, _), (7, _), (8, _), (9, _), (10, _), (12, _), (13, _), (85, _), (86, _)] ⟨rfl, rfl, rfl, rfl, rfl, rfl, rfl, rfl, rfl, rfl, rfl, trivial⟩ ?_
                refine St.then_n ?_
                refine St.meet hK32 _ ⟨rfl, rfl, rfl, rfl, rfl, rfl, rfl, rfl, rfl, rfl, rfl, trivial⟩ ?_
                · exact ⟨E, hS, kR, zz, k10, hne⟩
        intro K11 hK11
        refine St.seq fun K46 hK46 => ?_
        by_cases h71 : (0 : Int) ≤ a1
        ·
          refine St.region ?_
          refine St.r (R.indexA 1 Tryd.underlying49 Tryd.sizeOf3 rfl rfl rfl (by omega)) rfl rfl ?_
          refine St.r (R.load1 Tryd.isAgg3 rfl (k10.cells.at 1 rfl)) rfl rfl ?_
          refine St.r (Runs.lit (c := true) (R.geq rfl rfl) (decide_eq_true h71)) rfl rfl ?_
          refine St.r (R.move rfl) rfl rfl ?_
          refine St.take (dg := 72) rfl rfl ?_ rfl
          refine St.r (R.indexA 1 Tryd.underlying49 Tryd.sizeOf3 rfl rfl rfl (by omega)) rfl rfl ?_
          refine St.take (dg := 72) rfl rfl ?_ rfl
          refine St.r (R.load1 Tryd.isAgg3 rfl (k10.cells.at 1 rfl)) rfl rfl ?_
          refine St.take (dg := 72) rfl rfl ?_ rfl
          refine St.r (R.move rfl) rfl rfl ?_
          refine St.take (dg := 72) rfl rfl ?_ rfl
          refine St.r (R.lenSl Tryd.underlying42 rfl) rfl rfl ?_
          refine St.take (dg := 72) rfl rfl ?_ rfl
          refine St.r (R.lss rfl rfl) rfl rfl ?_
          refine St.r (R.pickT rfl rfl) rfl rfl ?_
          refine St.nil ?_
          refine St.weak [(0, _), (1, _), (2, _), (7, _), (8, _), (9, _), (10, _), (12, _), (78, _)] ⟨rfl, rfl, rfl, rfl, rfl, rfl, rfl, rfl, rfl, trivial⟩ ?_
          refine St.then_n ?_
          refine St.go hK46 ?_
          clear hK46
          refine St.condD rfl (fun h78 => ?_) (fun h78 => ?_)
          ·
            obtain ⟨n1, rfl⟩ : ∃ n : Nat, a1 = (n : Int) := ⟨a1.toNat, by omega⟩
            obtain ⟨x, hx⟩ := get_of_lt (xs := objs) (k := n1) (by omega)
            obtain ⟨xb, xo, rfl, hxc⟩ := hobj.get' hx
            refine St.region ?_
            refine St.r (R.move rfl) rfl rfl ?_
            refine St.r (R.indexA 1 Tryd.underlying49 Tryd.sizeOf3 rfl rfl rfl (by omega)) rfl rfl ?_
            refine St.r (R.load1 Tryd.isAgg3 rfl (k10.cells.at 1 rfl)) rfl rfl ?_
            refine St.r (R.indexS n1 Tryd.underlying42 Tryd.sizeOf9 rfl rfl rfl (by omega)) rfl rfl ?_
            refine St.r (R.load1 Tryd.isAgg9 rfl ((E.cells hxc).at 0 rfl)) rfl rfl ?_
            refine St.r (R.assign rfl) rfl rfl ?_
            refine St.nil ?_
            refine St.weak [(0, _), (1, _), (2, _), (7, _), (8, _), (9, _), (10, _), (12, _)] ⟨rfl, rfl, rfl, rfl, rfl, rfl, rfl, rfl, trivial⟩ ?_
            refine St.then_n ?_
            refine St.meet hK11 x ⟨rfl, rfl, rfl, rfl, rfl, rfl, rfl, rfl, trivial⟩ ?_
            · exact ⟨hsz x (List.mem_of_getElem? hx), E, hS, kR, zz, k10, hne⟩
          ·
            refine St.skip ?_
            refine St.then_n ?_
            refine St.meet hK11 (⟨#[]⟩ : ByteArray) ⟨rfl, rfl, rfl, rfl, rfl, rfl, rfl, rfl, trivial⟩ ?_
            · exact ⟨by decide, E, hS, kR, zz, k10, hne⟩
        ·
          refine St.region ?_
          refine St.r (R.indexA 1 Tryd.underlying49 Tryd.sizeOf3 rfl rfl rfl (by omega)) rfl rfl ?_
          refine St.r (R.load1 Tryd.isAgg3 rfl (k10.cells.at 1 rfl)) rfl rfl ?_
          refine St.r (Runs.lit (c := false) (R.geq rfl rfl) (decide_eq_false h71)) rfl rfl ?_
          refine St.r (R.move rfl) rfl rfl ?_
          refine St.pass (dg := 72) rfl rfl rfl rfl rfl ?_
          refine St.pass (dg := 72) rfl rfl rfl rfl rfl ?_
          refine St.pass (dg := 72) rfl rfl rfl rfl rfl ?_
          refine St.pass (dg := 72) rfl rfl rfl rfl rfl ?_
          refine St.pass (dg := 72) rfl rfl rfl rfl rfl ?_
          refine St.r (R.pickF rfl rfl) rfl rfl ?_
          refine St.nil ?_
          refine St.weak [(0, _), (1, _), (2, _), (7, _), (8, _), (9, _), (10, _), (12, _), (78, _)] ⟨rfl, rfl, rfl, rfl, rfl, rfl, rfl, rfl, rfl, trivial⟩ ?_
          refine St.then_n ?_
          refine St.go hK46 ?_
          clear hK46
          refine St.condF rfl ?_
          refine St.skip ?_
          refine St.then_n ?_
          refine St.meet hK11 (⟨#[]⟩ : ByteArray) ⟨rfl, rfl, rfl, rfl, rfl, rfl, rfl, rfl, trivial⟩ ?_
          · exact ⟨by decide, E, hS, kR, zz, k10, hne⟩
      intro K9 hK9
      refine St.seq fun K47 hK47 => ?_
      refine St.region ?_
      refine St.r (R.assign rfl) rfl rfl ?_
      refine St.nil ?_
      refine St.weak [(0, _), (1, _), (2, _), (7, _), (8, _), (9, _), (10, _), (11, _)] ⟨rfl, rfl, rfl, rfl, rfl, rfl, rfl, rfl, trivial⟩ ?_
      refine St.then_n ?_
      refine St.go hK47 ?_
      clear hK47
      refine St.block ?_
      refine St.loop (fun (x : Nat × Int × Int) => match x with | (j, a0, a1) => [(0, .slice (some ⟨sb, so, none⟩) steps.length c), (1, .slice A1 objs.length c1), (2, .slice A2 lists.length c2), (7, .pointer (some ⟨g, 0, none⟩)), (8, .pointer (some ⟨m, 0, none⟩)), (9, .int .i64 (i : Int)), (10, .pointer (some ⟨b10, 0, none⟩)), (11, .int .i64 (j : Int))])
          (fun (x : Nat × Int × Int) w => match x with | (j, a0, a1) => j ≤ 2 ∧ j ≤ st.length ∧ Ext w0 w ∧ Ext wA w ∧ Blk w b10 49 [.int .i64 a0, .int .i64 a1])
          (fun (x : Nat × Int × Int) => match x with | (j, a0, a1) => 2 - j) (0, 0, 0) ⟨rfl, rfl, rfl, rfl, rfl, rfl, rfl, rfl, trivial⟩ ?_ ?_
      · exact ⟨by omega, Nat.zero_le _, E, F, k10⟩
      rintro ⟨j, a0, a1⟩ w ⟨hj2, hj, E, F, k10⟩
      show St _ _ [(0, .slice (some ⟨sb, so, none⟩) steps.length c), (1, .slice A1 objs.length c1), (2, .slice A2 lists.length c2), (7, .pointer (some ⟨g, 0, none⟩)), (8, .pointer (some ⟨m, 0, none⟩)), (9, .int .i64 (i : Int)), (10, .pointer (some ⟨b10, 0, none⟩)), (11, .int .i64 (j : Int))] _ _
      refine St.seq fun K48 hK48 => ?_
      refine St.seq fun K49 hK49 => ?_
      by_cases h53 : (j : Int) < (st.length : Int)
      ·
        refine St.region ?_
        refine St.r (R.move rfl) rfl rfl ?_
        refine St.r (R.move rfl) rfl rfl ?_
        refine St.r (R.move rfl) rfl rfl ?_
        refine St.r (R.indexS i Tryd.underlying41 Tryd.sizeOf30 rfl rfl rfl (by omega)) rfl rfl ?_
        refine St.r (R.load1 Tryd.isAgg30 rfl (E.cell hsc)) rfl rfl ?_
        refine St.r (R.lenSl Tryd.underlying30 rfl) rfl rfl ?_
        refine St.r (Runs.lit (c := true) (R.lss rfl rfl) (decide_eq_true h53)) rfl rfl ?_
        refine St.r (R.move rfl) rfl rfl ?_
        refine St.take (dg := 54) rfl rfl ?_ rfl
        refine St.r (R.move rfl) rfl rfl ?_
        refine St.take (dg := 54) rfl rfl ?_ rfl
        refine St.r (R.lss rfl rfl) rfl rfl ?_
        refine St.r (R.pickT rfl rfl) rfl rfl ?_
        refine St.nil ?_
        refine St.weak [(0, _), (1, _), (2, _), (7, _), (8, _), (9, _), (10, _), (11, _), (57, _)] ⟨rfl, rfl, rfl, rfl, rfl, rfl, rfl, rfl, rfl, trivial⟩ ?_
        refine St.then_n ?_
        refine St.go hK49 ?_
        clear hK49
        refine St.condD rfl (fun h57 => ?_) (fun h57 => ?_)
        ·
          obtain ⟨y, hy⟩ := get_of_lt (xs := st) (k := j) (by omega)
          obtain ⟨yb, yo, rfl, hyc⟩ := hsv.get' hy
          refine St.skip ?_
          refine St.then_n ?_
          refine St.go hK48 ?_
          clear hK48
          refine St.seq fun K50 hK50 => ?_
          refine St.block ?_
          refine St.region ?_
          refine St.r (R.move rfl) rfl rfl ?_
          refine St.r (R.move rfl) rfl rfl ?_
          refine St.r (R.move rfl) rfl rfl ?_
          refine St.r (R.indexS i Tryd.underlying41 Tryd.sizeOf30 rfl rfl rfl (by omega)) rfl rfl ?_
          refine St.r (R.load1 Tryd.isAgg30 rfl (E.cell hsc)) rfl rfl ?_
          refine St.r (R.move rfl) rfl rfl ?_
          refine St.r (R.indexS j Tryd.underlying30 Tryd.sizeOf3 rfl rfl rfl (by omega)) rfl rfl ?_
          refine St.r (R.load1 Tryd.isAgg3 rfl ((E.cells hyc).at 0 rfl)) rfl rfl ?_
          refine St.r (R.indexA j Tryd.underlying49 Tryd.sizeOf3 rfl rfl rfl (by omega)) rfl rfl ?_
          refine St.store Tryd.sizeOf3 rfl rfl k10 rfl (by simp [Value.cells]; omega) (by simp [Value.cells, Value.oneCell']) ?_
          intro ws0 ks0 gs0 zs0
          replace E := Ext.then E gs0 (by intro j hj; omega)
          replace F := Ext.then F gs0 (by intro j hj; omega)
          clear k10; have k10 := ks0; clear ks0
          refine St.nil ?_
          refine St.weak [(0, _), (1, _), (2, _), (7, _), (8, _), (9, _), (10, _), (11, _)] ⟨rfl, rfl, rfl, rfl, rfl, rfl, rfl, rfl, trivial⟩ ?_
          refine St.in_n ?_
          refine St.then_n ?_
          refine St.go hK50 ?_
          clear hK50
          refine St.region ?_
          refine St.r (R.move rfl) rfl rfl ?_
          refine St.r (R.add rfl rfl (by omega) (by omega)) rfl rfl ?_
          refine St.r (R.assign rfl) rfl rfl ?_
          refine St.nil ?_
          refine St.weak [(0, _), (1, _), (2, _), (7, _), (8, _), (9, _), (10, _), (11, _)] ⟨rfl, rfl, rfl, rfl, rfl, rfl, rfl, rfl, trivial⟩ ?_
          refine St.then_n ?_
          refine St.round (j + 1, if j = 0 then y else a0, if j = 0 then a1 else y) ⟨rfl, rfl, rfl, rfl, rfl, rfl, rfl, rfl, trivial⟩ ?_ ?_
          · try dsimp only
            refine ⟨by omega, by omega, E, F, ?_⟩
            obtain rfl | rfl : j = 0 ∨ j = 1 := by omega
            · exact k10
            · exact k10
          · try dsimp only
            omega
        ·
          refine St.exit ?_
          refine St.then_x ?_
          refine St.then_x ?_
          refine St.in_x ?_
          refine St.then_n ?_
          refine St.meet hK9 (a0, a1) ⟨rfl, rfl, rfl, rfl, rfl, rfl, rfl, trivial⟩ ?_
          · try dsimp only
            exact ⟨E, F, k10⟩
      ·
        refine St.region ?_
        refine St.r (R.move rfl) rfl rfl ?_
        refine St.r (R.move rfl) rfl rfl ?_
        refine St.r (R.move rfl) rfl rfl ?_
        refine St.r (R.indexS i Tryd.underlying41 Tryd.sizeOf30 rfl rfl rfl (by omega)) rfl rfl ?_
        refine St.r (R.load1 Tryd.isAgg30 rfl (E.cell hsc)) rfl rfl ?_
        refine St.r (R.lenSl Tryd.underlying30 rfl) rfl rfl ?_
        refine St.r (Runs.lit (c := false) (R.lss rfl rfl) (decide_eq_false h53)) rfl rfl ?_
        refine St.r (R.move rfl) rfl rfl ?_
        refine St.pass (dg := 54) rfl rfl rfl rfl rfl ?_
        refine St.pass (dg := 54) rfl rfl rfl rfl rfl ?_
        refine St.r (R.pickF rfl rfl) rfl rfl ?_
        refine St.nil ?_
        refine St.weak [(0, _), (1, _), (2, _), (7, _), (8, _), (9, _), (10, _), (11, _), (57, _)] ⟨rfl, rfl, rfl, rfl, rfl, rfl, rfl, rfl, rfl, trivial⟩ ?_
        refine St.then_n ?_
        refine St.go hK49 ?_
        clear hK49
        refine St.condF rfl ?_
        refine St.exit ?_
        refine St.then_x ?_
        refine St.then_x ?_
        refine St.in_x ?_
        refine St.then_n ?_
        refine St.meet hK9 (a0, a1) ⟨rfl, rfl, rfl, rfl, rfl, rfl, rfl, trivial⟩ ?_
        · try dsimp only
          exact ⟨E, F, k10⟩
    ·
      refine St.exit ?_
      refine St.then_x ?_
      refine St.then_x ?_
      refine St.in_x ?_
      refine St.then_n ?_
      refine St.go hK3 ?_
      clear hK3
      refine St.seq fun K51 hK51 => ?_
      refine St.region ?_
      refine St.r (R.assign rfl) rfl rfl ?_
      refine St.nil ?_
      refine St.weak [(6, _)] ⟨rfl, trivial⟩ ?_
      refine St.then_n ?_
      refine St.go hK51 ?_
      clear hK51
      refine St.ret ?_
      refine St.ret1 Tryd.results4 rfl ?_
      exact ⟨_, rfl, rfl, E⟩
  ·
    refine St.region ?_
    refine St.r (R.move rfl) rfl rfl ?_
    refine St.r (R.move rfl) rfl rfl ?_
    refine St.r (R.lenSl Tryd.underlying41 rfl) rfl rfl ?_
    refine St.r (Runs.lit (c := false) (R.lss rfl rfl) (decide_eq_false h40)) rfl rfl ?_
    refine St.r (R.move rfl) rfl rfl ?_
    refine St.pass (dg := 41) rfl rfl rfl rfl rfl ?_
    refine St.pass (dg := 41) rfl rfl rfl rfl rfl ?_
    refine St.r (R.pickF rfl rfl) rfl rfl ?_
    refine St.nil ?_
    refine St.weak [(0, _), (1, _), (2, _), (7, _), (8, _), (9, _), (44, _)] ⟨rfl, rfl, rfl, rfl, rfl, rfl, rfl, trivial⟩ ?_
    refine St.then_n ?_
    refine St.go hK6 ?_
    clear hK6
    refine St.condF rfl ?_
    refine St.exit ?_
    refine St.then_x ?_
    refine St.then_x ?_
    refine St.in_x ?_
    refine St.then_n ?_
    refine St.go hK3 ?_
    clear hK3
    refine St.seq fun K52 hK52 => ?_
    refine St.region ?_
    refine St.r (R.assign rfl) rfl rfl ?_
    refine St.nil ?_
    refine St.weak [(6, _)] ⟨rfl, trivial⟩ ?_
    refine St.then_n ?_
    refine St.go hK52 ?_
    clear hK52
    refine St.ret ?_
    refine St.ret1 Tryd.results4 rfl ?_
    exact ⟨_, rfl, rfl, E⟩

end Go.Proofs.YtjgcmpondbocfaaDoor

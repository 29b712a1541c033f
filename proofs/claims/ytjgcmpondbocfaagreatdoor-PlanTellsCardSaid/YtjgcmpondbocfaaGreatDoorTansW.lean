/- The reference on answers: names, rows, how many triples are looked at. Walked once, under the reading of the arguments. -/
import Derived.Test.YtjgcmpondbocfaaGreatDoorProg
import Derived.Test.YtjgcmpondbocfaaGreatDoorTqW
import Derived.Test.YtjgcmpondbocfaaGreatDoorTansPure
namespace Go.Proofs.YtjgcmpondbocfaaGreatDoor
open Go.RowKit 
theorem ent46 : Ent Tryz.prog 46 := Ent.of Tryz.func46 (by kernel_rfl) rfl
theorem info44 : (Tryz.prog.info? 44).map (fun i => (i.zero, i.size, i.bytes)) = some (some (.agg #[.int .i64 0, .string ⟨#[]⟩, .string ⟨#[]⟩]), 3, 40) := by kernel_rfl
theorem info85 : (Tryz.prog.info? 85).map (fun i => (i.zero, i.size, i.bytes)) = some (some (.slice none 0 0), 1, 24) := by kernel_rfl
set_option maxHeartbeats 8000000 in
set_option maxRecDepth 100000 in
theorem tAnswers_ret {l : List Triple} {q : Query} {cs : List Value} {v : Value} (w0 : World) (hv : RTriples w0 v l) (hq : RQuery w0 cs q) (hl : l.length ≤ 200) (hp6 : q.parts.length ≤ 6) (hp0 : 0 < q.parts.length) (hpe : partsErr q.parts = none) : Ret Tryz.prog 13 [v, .agg cs.toArray] w0 fun r w' => ∃ va ra vs hs rows, r = .tuple #[va, ra, .int .i64 (if fullQ l q then (lookedN l [[]] q.parts : Int) else 0), .int .i64 (if fullQ l q then 0 else 4)] ∧ Own encStr 1 w0.heap.size 9 w' va vs ∧ Own encHd 1 w0.heap.size 85 w' ra hs ∧ RowsO w0.heap.size 44 w' hs rows ∧ (fullQ l q → Rows l q.parts vs rows) ∧ Ext w0 w' := by
  obtain ⟨vv, pv, rfl, hvv, hpv⟩ := hq
  obtain ⟨PA, PC, rfl, -, -⟩ := hpv.form
  obtain ⟨VA, VC, rfl, -, -⟩ := hv.form
  obtain ⟨p0, hp00⟩ := get_of_lt (xs := q.parts) (k := 0) (by omega)
  obtain ⟨pb, po, rfl, -⟩ := hpv.get' hp00
  have E : Ext w0 w0 := Ext.refl w0
  refine St.enter (N := 145) Tryz.func13 rfl Tryz.ntmps13 rfl ?_
  refine St.seq fun K0 hK0 => ?_
  refine St.region ?_
  refine St.box rfl rfl ?_
  intro w3 b3 hb3 hs3 e3 k3
  have qE3 := E.size
  replace E := Ext.trans E e3
  refine St.r (R.assign rfl) rfl rfl ?_
  refine St.r (R.assign rfl) rfl rfl ?_
  refine St.r (R.assign rfl) rfl rfl ?_
  refine St.r (R.assign rfl) rfl rfl ?_
  refine St.nil ?_
  refine St.weak [(0, _), (3, _)] ⟨rfl, rfl, trivial⟩ ?_
  refine St.then_n ?_
  refine St.go hK0 ?_
  clear hK0
  refine St.seq fun K1 hK1 => ?_
  refine St.region ?_
  refine St.r (R.assign rfl) rfl rfl ?_
  refine St.nil ?_
  refine St.weak [(0, _), (3, _), (8, _)] ⟨rfl, rfl, rfl, trivial⟩ ?_
  refine St.then_n ?_
  refine St.go hK1 ?_
  clear hK1
  refine St.seq fun K2 hK2 => ?_
  refine St.region ?_
  obtain ⟨Z, hZ⟩ : ∃ Z, Z = w3.heap.size := ⟨_, rfl⟩
  have hb3Z : b3 < Z ∧ w0.heap.size ≤ b3 := by omega
  refine St.buildSl Tryz.underlying37 Tryz.sizeOf85 Tryz.zeroValue85 rfl rfl rfl rfl (by intro u hu; simp only [List.mem_cons, List.not_mem_nil, or_false] at hu; first | (subst hu; rfl) | (rcases hu with rfl | rfl <;> rfl) | (rcases hu with rfl | rfl | rfl <;> rfl) | (rcases hu with rfl | rfl | rfl | rfl <;> rfl)) rfl ?_
  intro w27 b27 hb27 hs27 e27 k27
  have qE27 := E.size
  replace E := Ext.trans E e27
  replace k3 := k3.ext e27
  refine St.r (R.assign rfl) rfl rfl ?_
  refine St.nil ?_
  refine St.weak [(0, _), (3, _), (8, _), (9, _)] ⟨rfl, rfl, rfl, rfl, trivial⟩ ?_
  refine St.then_n ?_
  refine St.go hK2 ?_
  clear hK2
  refine St.seq fun K3 hK3 => ?_
  refine St.region ?_
  refine St.r (R.assign rfl) rfl rfl ?_
  refine St.nil ?_
  refine St.weak [(0, _), (3, _), (8, _), (9, _), (10, _)] ⟨rfl, rfl, rfl, rfl, rfl, trivial⟩ ?_
  refine St.then_n ?_
  refine St.go hK3 ?_
  clear hK3
  refine St.seq fun K4 hK4 => ?_
  refine St.seq fun K5 hK5 => ?_
  refine St.region ?_
  refine St.r (R.assign rfl) rfl rfl ?_
  refine St.nil ?_
  refine St.weak [(0, _), (3, _), (8, _), (9, _), (10, _), (11, _)] ⟨rfl, rfl, rfl, rfl, rfl, rfl, trivial⟩ ?_
  refine St.then_n ?_
  refine St.go hK5 ?_
  clear hK5
  refine St.block ?_
  have zz : Z ≤ w27.heap.size := by omega
  have o27 : Own encHd 1 Z 85 w27 (.slice (some ⟨b27, 0, none⟩) 1 1) [(⟨none, 0, 0⟩ : Hd)] := Own.of_blk (xs := [(⟨none, 0, 0⟩ : Hd)]) (sp := []) encHd_len (by simpa [encHd, Hd.val, Value.cells] using k27) (by omega) (by simp) (by omega) (by simp [encHd])
  refine St.loop (fun (x : Nat × List ByteArray × List Hd × List (List Term) × Nat × Value × Value) => match x with | (i, vs, hs, rows, n, vv8, rv9) => [(0, .slice VA l.length VC), (3, .pointer (some ⟨b3, 0, none⟩)), (8, vv8), (9, rv9), (10, .int .i64 (n : Int)), (11, .int .i64 (i : Int))])
      (fun (x : Nat × List ByteArray × List Hd × List (List Term) × Nat × Value × Value) w => match x with | (i, vs, hs, rows, n, vv8, rv9) => i ≤ q.parts.length ∧ Rows l (q.parts.take i) vs rows ∧ AllLe (counts l [[]] (q.parts.take i)) ∧ n = lookedN l [[]] (q.parts.take i) ∧ n ≤ 500 * i ∧ vs.length ≤ 3 * i ∧ Ext w0 w ∧ Blk w b3 26 [vv, .slice (some ⟨pb, po, none⟩) q.parts.length PC, .string q.order, .bool q.down, .bool q.distinct, .int .i64 q.limit] ∧ Own encStr 1 Z 9 w vv8 vs ∧ Own encHd 1 Z 85 w rv9 hs ∧ RowsO Z 44 w hs rows ∧ Z ≤ w.heap.size)
      (fun (x : Nat × List ByteArray × List Hd × List (List Term) × Nat × Value × Value) => match x with | (i, vs, hs, rows, n, vv8, rv9) => q.parts.length - i) (0, [], [⟨none, 0, 0⟩], [[]], 0, .slice none 0 0, _) ⟨rfl, rfl, rfl, rfl, rfl, rfl, trivial⟩ ?_ ?_
  · refine ⟨Nat.zero_le _, Rows.start _, fun x hx => ?_, rfl, Nat.le_refl _, Nat.le_refl _, E, k3, Own.nil _ _ _ _ _, o27, RowsO.one _ _ _, zz⟩
    have hx' : x ∈ [1] := hx
    rw [List.mem_singleton] at hx'; omega
  rintro ⟨i, vs, hs, rows, n, vv8, rv9⟩ w ⟨hi, hR, hA, hn, hn5, hvl, E, k3, oV, oR, qR, zz⟩
  show St _ _ [(0, .slice VA l.length VC), (3, .pointer (some ⟨b3, 0, none⟩)), (8, vv8), (9, rv9), (10, .int .i64 (n : Int)), (11, .int .i64 (i : Int))] _ _
  obtain ⟨SA, SC, rfl, -, -⟩ := oV.form
  obtain ⟨RA, RC, rfl, -, -⟩ := oR.form
  refine St.seq fun K6 hK6 => ?_
  refine St.seq fun K7 hK7 => ?_
  refine St.region ?_
  refine St.r (R.move rfl) rfl rfl ?_
  refine St.r (R.fieldA Tryz.underlying26 rfl Tryz.sizeOf24 rfl rfl rfl) rfl rfl ?_
  refine St.r (R.load1 Tryz.isAgg24 rfl (k3.cells.at 1 rfl)) rfl rfl ?_
  refine St.r (R.lenSl Tryz.underlying24 rfl) rfl rfl ?_
  refine St.r (R.lss rfl rfl) rfl rfl ?_
  refine St.nil ?_
  refine St.weak [(0, _), (3, _), (8, _), (9, _), (10, _), (11, _), (32, _)] ⟨rfl, rfl, rfl, rfl, rfl, rfl, rfl, trivial⟩ ?_
  refine St.then_n ?_
  refine St.go hK7 ?_
  clear hK7
  refine St.condD rfl (fun h32 => ?_) (fun h32 => ?_)
  ·
    obtain ⟨px, hpx⟩ := get_of_lt (xs := q.parts) (k := i) (by omega)
    have hpc := hpv.get hpx
    have hpe0 := partErr_none hpe hpx
    have hrc : rows.length ≤ 500 := by rw [hR.count]; exact levels_le hA
    have hfl3 := freshL_len vs px
    have hzz := zz
    have hqlen := qR.len
    have hVl0 := fun k hk => (oV.base (k := k) hk).2
    have hRl0 := fun k hk => (oR.base (k := k) hk).2
    have hQl0 := fun i x r (hx : hs[i]? = some x) (hr : rows[i]? = some r) k hk => (qR.below hx hr (k := k) hk).2
    refine St.skip ?_
    refine St.then_n ?_
    refine St.go hK6 ?_
    clear hK6
    refine St.seq fun K8 hK8 => ?_
    refine St.block ?_
    refine St.seq fun K9 hK9 => ?_
    refine St.region ?_
    refine St.r (R.fieldA Tryz.underlying26 rfl Tryz.sizeOf24 rfl rfl rfl) rfl rfl ?_
    refine St.r (R.load1 Tryz.isAgg24 rfl (k3.cells.at 1 rfl)) rfl rfl ?_
    refine St.r (R.move rfl) rfl rfl ?_
    refine St.r (R.indexS i Tryz.underlying24 Tryz.sizeOf48 rfl rfl rfl (by omega)) rfl rfl ?_
    refine St.r (R.loadA Tryz.isAgg48 Tryz.sizeOf48 rfl (E.cells hpc) rfl) rfl rfl ?_
    refine St.alloc Tryz.zeroValue48 rfl ?_
    intro w12 b12 hb12 hs12 e12 k12
    have qE12 := E.size
    replace E := Ext.trans E e12
    replace k3 := k3.ext e12
    replace oV := oV.ext e12
    replace oR := oR.ext e12
    replace qR := qR.ext e12
    replace zz := Nat.le_trans zz (Chg.size e12)
    refine St.store Tryz.sizeOf48 rfl rfl k12 rfl (by simp [Value.cells, encPat, encSlot, encTerm]) (one_pat px) ?_
    intro ws0 ks0 gs0 zs0
    replace E := Ext.then E gs0 (by intro j hj; omega)
    replace k3 := k3.chg gs0 (by omega)
    replace oV := oV.chg gs0 (fun k hk h => by have := hVl0 k hk; omega)
    replace oR := oR.chg gs0 (fun k hk h => by have := hRl0 k hk; omega)
    replace qR := qR.chg gs0 (fun i x r hx hr _ k hk h => by have := hQl0 i x r hx hr k hk; omega)
    replace zz := Nat.le_trans zz (Chg.size gs0)
    clear k12; have k12 := ks0; clear ks0
    replace k12 : Blk ws0 b12 48 (encPat px) := k12
    have y12 := k12.lt
    refine St.nil ?_
    refine St.weak [(0, _), (3, _), (8, _), (9, _), (10, _), (11, _), (12, _)] ⟨rfl, rfl, rfl, rfl, rfl, rfl, rfl, trivial⟩ ?_
    refine St.then_n ?_
    refine St.go hK9 ?_
    clear hK9
    refine St.seq fun K10 hK10 => ?_
    refine St.region ?_
    refine St.r (R.assign rfl) rfl rfl ?_
    refine St.nil ?_
    refine St.weak [(0, _), (3, _), (8, _), (9, _), (10, _), (11, _), (12, _), (13, _)] ⟨rfl, rfl, rfl, rfl, rfl, rfl, rfl, rfl, trivial⟩ ?_
    refine St.then_n ?_
    refine St.go hK10 ?_
    clear hK10
    refine St.seq fun K11 hK11 => ?_
    refine St.region ?_
    refine St.r (R.loadA Tryz.isAgg48 Tryz.sizeOf48 rfl k12.cells rfl) rfl rfl ?_
    refine St.call rfl rfl ent45 (rVars_ret _) rfl ?_
    rintro r42 w42 ⟨y, rfl, r14, hy14, e42⟩
    replace E := Ext.trans E e42
    replace k3 := k3.ext e42
    replace oV := oV.ext e42
    replace oR := oR.ext e42
    replace qR := qR.ext e42
    replace zz := Nat.le_trans zz (Chg.size e42)
    replace k12 := k12.ext e42
    rw [hpe0] at r14 ⊢
    replace r14 : RStrs w42 y (patVars px) := r14
    obtain ⟨YA, YC, rfl, -, -⟩ := r14.form
    have hs42 := e42.size
    have hz1 := zz
    refine St.r (R.move rfl) rfl rfl ?_
    refine St.r (R.extract rfl rfl) rfl rfl ?_
    refine St.r (R.extract rfl rfl) rfl rfl ?_
    refine St.r (R.assign rfl) rfl rfl ?_
    refine St.r (R.assign rfl) rfl rfl ?_
    refine St.nil ?_
    refine St.weak [(0, _), (3, _), (8, _), (9, _), (10, _), (11, _), (12, _), (13, _), (14, _)] ⟨rfl, rfl, rfl, rfl, rfl, rfl, rfl, rfl, rfl, trivial⟩ ?_
    refine St.then_n ?_
    refine St.go hK11 ?_
    clear hK11
    refine St.seq fun K12 hK12 => ?_
    refine St.region ?_
    refine St.r (R.assign rfl) rfl rfl ?_
    refine St.nil ?_
    refine St.weak [(0, _), (3, _), (8, _), (9, _), (10, _), (11, _), (12, _), (13, _), (14, _), (16, _)] ⟨rfl, rfl, rfl, rfl, rfl, rfl, rfl, rfl, rfl, rfl, trivial⟩ ?_
    refine St.then_n ?_
    refine St.go hK12 ?_
    clear hK12
    refine St.seq fun K13 hK13 => ?_
    refine St.seq fun K14 hK14 => ?_
    refine St.region ?_
    refine St.r (R.assign rfl) rfl rfl ?_
    refine St.nil ?_
    refine St.weak [(0, _), (3, _), (8, _), (9, _), (10, _), (11, _), (12, _), (13, _), (14, _), (16, _), (17, _)] ⟨rfl, rfl, rfl, rfl, rfl, rfl, rfl, rfl, rfl, rfl, rfl, trivial⟩ ?_
    refine St.then_n ?_
    refine St.go hK14 ?_
    clear hK14
    refine St.block ?_
    obtain ⟨F, hF⟩ : ∃ F, F = w42.heap.size := ⟨_, rfl⟩
    have hyl : 0 < (patVars px).length → ∀ k, (Value.slice YA (patVars px).length YC).ownBlock = some k → k < F := fun h0 k hk => by rw [hF]; exact r14.lt (fun x => by rw [encStr_len]; omega) h0 hk
    have hVF : ∀ k, (Value.slice SA vs.length SC).ownBlock = some k → k < F := fun k hk => by have := hVl0 k hk; omega
    have hFF : F ≤ w42.heap.size ∧ Z ≤ F ∧ b12 < F := by omega
    have ff := hFF.1
    refine St.loop (fun (x : Nat × Value) => match x with | (j, fv) => [(0, .slice VA l.length VC), (3, .pointer (some ⟨b3, 0, none⟩)), (8, .slice SA vs.length SC), (9, .slice RA hs.length RC), (10, .int .i64 (n : Int)), (11, .int .i64 (i : Int)), (12, .pointer (some ⟨b12, 0, none⟩)), (13, .slice none 0 0), (14, .slice YA (patVars px).length YC), (16, fv), (17, .int .i64 (j : Int))])
        (fun (x : Nat × Value) w => match x with | (j, fv) => j ≤ (patVars px).length ∧ Ext w0 w ∧ Blk w b3 26 [vv, .slice (some ⟨pb, po, none⟩) q.parts.length PC, .string q.order, .bool q.down, .bool q.distinct, .int .i64 q.limit] ∧ Blk w b12 48 (encPat px) ∧ Own encStr 1 Z 9 w (.slice SA vs.length SC) vs ∧ Own encHd 1 Z 85 w (.slice RA hs.length RC) hs ∧ RowsO Z 44 w hs rows ∧ Z ≤ w.heap.size ∧ RStrs w (.slice YA (patVars px).length YC) (patVars px) ∧ Own encStr 1 F 9 w fv (((patVars px).take j).filter fun v => !decide (v ∈ vs)) ∧ F ≤ w.heap.size)
        (fun (x : Nat × Value) => match x with | (j, fv) => (patVars px).length - j) (0, .slice none 0 0) ⟨rfl, rfl, rfl, rfl, rfl, rfl, rfl, rfl, rfl, rfl, rfl, trivial⟩ ?_ ?_
    · exact ⟨Nat.zero_le _, E, k3, k12, oV, oR, qR, zz, r14, Own.nil _ _ _ _ _, ff⟩
    rintro ⟨j, fv⟩ w ⟨hj, E, k3, k12, oV, oR, qR, zz, r14, oF, zf⟩
    show St _ _ [(0, .slice VA l.length VC), (3, .pointer (some ⟨b3, 0, none⟩)), (8, .slice SA vs.length SC), (9, .slice RA hs.length RC), (10, .int .i64 (n : Int)), (11, .int .i64 (i : Int)), (12, .pointer (some ⟨b12, 0, none⟩)), (13, .slice none 0 0), (14, .slice YA (patVars px).length YC), (16, fv), (17, .int .i64 (j : Int))] _ _
    refine St.seq fun K15 hK15 => ?_
    refine St.seq fun K16 hK16 => ?_
    refine St.region ?_
    refine St.r (R.move rfl) rfl rfl ?_
    refine St.r (R.move rfl) rfl rfl ?_
    refine St.r (R.lenSl Tryz.underlying23 rfl) rfl rfl ?_
    refine St.r (R.lss rfl rfl) rfl rfl ?_
    refine St.nil ?_
    refine St.weak [(0, _), (3, _), (8, _), (9, _), (10, _), (11, _), (12, _), (13, _), (14, _), (16, _), (17, _), (48, _)] ⟨rfl, rfl, rfl, rfl, rfl, rfl, rfl, rfl, rfl, rfl, rfl, rfl, trivial⟩ ?_
    refine St.then_n ?_
    refine St.go hK16 ?_
    clear hK16
    refine St.condD rfl (fun h48 => ?_) (fun h48 => ?_)
    ·
      obtain ⟨x, hx⟩ := get_of_lt (xs := patVars px) (k := j) (by omega)
      obtain ⟨yb, yo, rfl, hyc⟩ := r14.get' hx
      have hzf := zf
      have hpl := patVars_len px
      have hfl : (((patVars px).take j).filter fun v => !decide (v ∈ vs)).length ≤ 3 := Nat.le_trans (List.length_filter_le _ _) (by rw [List.length_take]; omega)
      refine St.skip ?_
      refine St.then_n ?_
      refine St.go hK15 ?_
      clear hK15
      refine St.seq fun K17 hK17 => ?_
      refine St.block ?_
      refine St.seq fun K18 hK18 => ?_
      refine St.region ?_
      refine St.r (R.move rfl) rfl rfl ?_
      refine St.r (R.move rfl) rfl rfl ?_
      refine St.r (R.move rfl) rfl rfl ?_
      refine St.r (R.indexS j Tryz.underlying23 Tryz.sizeOf9 rfl rfl rfl (by omega)) rfl rfl ?_
      refine St.r (R.load1 Tryz.isAgg9 rfl ((r14.get hx).at 0 rfl)) rfl rfl ?_
      refine St.call rfl rfl ent51 (rHas_ret _ (oV.reads encStr_len)) rfl ?_
      rintro r56 w56 ⟨rfl, e56⟩
      replace E := Ext.trans E e56
      replace k3 := k3.ext e56
      replace k12 := k12.ext e56
      replace oV := oV.ext e56
      replace oR := oR.ext e56
      replace qR := qR.ext e56
      replace zz := Nat.le_trans zz (Chg.size e56)
      replace r14 := r14.ext (REnc.firm _) e56
      replace oF := oF.ext e56
      replace zf := Nat.le_trans zf (Chg.size e56)
      refine St.r (R.assign rfl) rfl rfl ?_
      refine St.nil ?_
      refine St.weak [(0, _), (3, _), (8, _), (9, _), (10, _), (11, _), (12, _), (13, _), (14, _), (16, _), (17, _), (18, _)] ⟨rfl, rfl, rfl, rfl, rfl, rfl, rfl, rfl, rfl, rfl, rfl, rfl, trivial⟩ ?_
      refine St.then_n ?_
      refine St.go hK18 ?_
      clear hK18
      refine St.seq fun K19 hK19 => ?_
      refine St.region ?_
      refine St.r (R.move rfl) rfl rfl ?_
      refine St.r (R.not rfl) rfl rfl ?_
      refine St.nil ?_
      refine St.weak [(0, _), (3, _), (8, _), (9, _), (10, _), (11, _), (12, _), (13, _), (14, _), (16, _), (17, _), (58, _)] ⟨rfl, rfl, rfl, rfl, rfl, rfl, rfl, rfl, rfl, rfl, rfl, rfl, trivial⟩ ?_
      refine St.then_n ?_
      refine St.go hK19 ?_
      clear hK19
      refine St.cond rfl (fun h58 => ?_) (fun h58 => ?_)
      ·
        refine St.region ?_
        refine St.r (R.move rfl) rfl rfl ?_
        refine St.r (R.move rfl) rfl rfl ?_
        refine St.r (R.move rfl) rfl rfl ?_
        refine St.r (R.indexS j Tryz.underlying23 Tryz.sizeOf9 rfl rfl rfl (by omega)) rfl rfl ?_
        refine St.r (R.load1 Tryz.isAgg9 rfl ((r14.get hx).at 0 rfl)) rfl rfl ?_
        refine St.buildSl Tryz.underlying23 Tryz.sizeOf9 Tryz.zeroValue9 rfl rfl rfl rfl (by intro u hu; simp only [List.mem_cons, List.not_mem_nil, or_false] at hu; first | (subst hu; rfl) | (rcases hu with rfl | rfl <;> rfl) | (rcases hu with rfl | rfl | rfl <;> rfl) | (rcases hu with rfl | rfl | rfl | rfl <;> rfl)) rfl ?_
        intro w64 b64 hb64 hs64 e64 k64
        have qE64 := E.size
        replace E := Ext.trans E e64
        replace k3 := k3.ext e64
        replace k12 := k12.ext e64
        replace oV := oV.ext e64
        replace oR := oR.ext e64
        replace qR := qR.ext e64
        replace zz := Nat.le_trans zz (Chg.size e64)
        replace r14 := r14.ext (REnc.firm _) e64
        replace oF := oF.ext e64
        replace zf := Nat.le_trans zf (Chg.size e64)
        refine St.append (enc := encStr) (fun _ => rfl) one_str Tryz.underlying23 info9 rfl rfl rfl rfl oF (RSl.mk (enc := encStr) (xs := [x]) encStr_len k64.cells (fun i u hu => hu) (by simp) (by simp)) (by simp only [List.length_singleton]; omega) (by simp only [List.length_singleton]; omega) (by omega) rfl ?_
        intro v65 w65 a65 g65 at65
        replace E := Ext.then E g65 (by intro j hj hk; have := (oF.base hk).1; omega)
        replace k3 := k3.chg g65 (by intro hk; have := (oF.base hk).1; omega)
        replace k12 := k12.chg g65 (by intro hk; have := (oF.base hk).1; omega)
        replace oV := oV.chg g65 (fun k hk e => by have := (oF.base e).1; have := hVF k hk; omega)
        replace oR := oR.chg g65 (fun k hk e => Own.apart oR oF (by decide) hk e)
        replace qR := qR.chg g65 (fun _ _ _ _ _ o _ hk e => Own.apart o oF (by decide) hk e)
        replace zz := Nat.le_trans zz (Chg.size g65)
        replace r14 := r14.chg g65 (fun h0 k hk e => by have := (oF.base e).1; have := hyl h0 k hk; omega)
        replace zf := Nat.le_trans zf (Chg.size g65)
        clear oF; have oF := a65; clear a65
        refine St.r (R.assign rfl) rfl rfl ?_
        refine St.nil ?_
        refine St.weak [(0, _), (3, _), (8, _), (9, _), (10, _), (11, _), (12, _), (13, _), (14, _), (16, _), (17, _)] ⟨rfl, rfl, rfl, rfl, rfl, rfl, rfl, rfl, rfl, rfl, rfl, trivial⟩ ?_
        refine St.in_n ?_
        refine St.then_n ?_
        refine St.go hK17 ?_
        clear hK17
        refine St.region ?_
        refine St.r (R.move rfl) rfl rfl ?_
        refine St.r (R.add rfl rfl (by omega) (by omega)) rfl rfl ?_
        refine St.r (R.assign rfl) rfl rfl ?_
        refine St.nil ?_
        refine St.weak [(0, _), (3, _), (8, _), (9, _), (10, _), (11, _), (12, _), (13, _), (14, _), (16, _), (17, _)] ⟨rfl, rfl, rfl, rfl, rfl, rfl, rfl, rfl, rfl, rfl, rfl, trivial⟩ ?_
        refine St.then_n ?_
        refine St.round (j + 1, v65) ⟨rfl, rfl, rfl, rfl, rfl, rfl, rfl, rfl, rfl, rfl, rfl, trivial⟩ ?_ ?_
        · try dsimp only
          refine ⟨by omega, E, k3, k12, oV, oR, qR, zz, r14, ?_, zf⟩
          rw [take_snoc hx, filter_snoc, h58, if_pos rfl]; exact oF
        · try dsimp only
          omega
      ·
        refine St.skip ?_
        refine St.in_n ?_
        refine St.then_n ?_
        refine St.go hK17 ?_
        clear hK17
        refine St.region ?_
        refine St.r (R.move rfl) rfl rfl ?_
        refine St.r (R.add rfl rfl (by omega) (by omega)) rfl rfl ?_
        refine St.r (R.assign rfl) rfl rfl ?_
        refine St.nil ?_
        refine St.weak [(0, _), (3, _), (8, _), (9, _), (10, _), (11, _), (12, _), (13, _), (14, _), (16, _), (17, _)] ⟨rfl, rfl, rfl, rfl, rfl, rfl, rfl, rfl, rfl, rfl, rfl, trivial⟩ ?_
        refine St.then_n ?_
        refine St.round (j + 1, fv) ⟨rfl, rfl, rfl, rfl, rfl, rfl, rfl, rfl, rfl, rfl, rfl, trivial⟩ ?_ ?_
        · try dsimp only
          refine ⟨by omega, E, k3, k12, oV, oR, qR, zz, r14, ?_, zf⟩
          rw [take_snoc hx, filter_snoc, h58, if_neg (by simp), List.append_nil]; exact oF
        · try dsimp only
          omega
    ·
      rw [List.take_of_length_le (by omega)] at oF
      replace oF : Own encStr 1 F 9 w fv (freshL vs px) := oF
      have zG := zf
      have zZ := zz
      obtain ⟨FA, FC, rfl, -, -⟩ := oF.form
      refine St.exit ?_
      refine St.then_x ?_
      refine St.then_x ?_
      refine St.in_x ?_
      refine St.then_n ?_
      refine St.go hK13 ?_
      clear hK13
      refine St.seq fun K20 hK20 => ?_
      refine St.seq fun K21 hK21 => ?_
      refine St.region ?_
      refine St.r (R.assign rfl) rfl rfl ?_
      refine St.nil ?_
      refine St.weak [(0, _), (3, _), (8, _), (9, _), (10, _), (11, _), (12, _), (13, _), (16, _), (19, _)] ⟨rfl, rfl, rfl, rfl, rfl, rfl, rfl, rfl, rfl, rfl, trivial⟩ ?_
      refine St.then_n ?_
      refine St.go hK21 ?_
      clear hK21
      refine St.block ?_
      obtain ⟨G, hG⟩ : ∃ G, G = w.heap.size := ⟨_, rfl⟩
      have hRG : ∀ k, (Value.slice RA hs.length RC).ownBlock = some k → k < G := fun k hk => by rw [hG]; exact (oR.base hk).2
      have zg : G ≤ w.heap.size := by omega
      have hGG : Z ≤ G ∧ F ≤ G := by omega
      refine St.loop (fun (x : Nat × List Hd × Nat × Value) => match x with | (k, hs2, n2, nv) => [(0, .slice VA l.length VC), (3, .pointer (some ⟨b3, 0, none⟩)), (8, .slice SA vs.length SC), (9, .slice RA hs.length RC), (10, .int .i64 (n2 : Int)), (11, .int .i64 (i : Int)), (12, .pointer (some ⟨b12, 0, none⟩)), (13, nv), (16, .slice FA (freshL vs px).length FC), (19, .int .i64 (k : Int))])
          (fun (x : Nat × List Hd × Nat × Value) w => match x with | (k, hs2, n2, nv) => k ≤ rows.length ∧ Ext w0 w ∧ Blk w b3 26 [vv, .slice (some ⟨pb, po, none⟩) q.parts.length PC, .string q.order, .bool q.down, .bool q.distinct, .int .i64 q.limit] ∧ Blk w b12 48 (encPat px) ∧ Own encStr 1 Z 9 w (.slice SA vs.length SC) vs ∧ Own encHd 1 Z 85 w (.slice RA hs.length RC) hs ∧ RowsO Z 44 w hs rows ∧ Z ≤ w.heap.size ∧ Own encStr 1 F 9 w (.slice FA (freshL vs px).length FC) (freshL vs px) ∧ Own encHd 1 G 85 w nv hs2 ∧ RowsO Z 44 w hs2 ((rows.take k).flatMap (nextRows l vs px)) ∧ G ≤ w.heap.size ∧ ((rows.take k).flatMap (nextRows l vs px)).length ≤ 500 ∧ n2 = n + ((rows.take k).flatMap (nextRows l vs px)).length)
          (fun (x : Nat × List Hd × Nat × Value) => match x with | (k, hs2, n2, nv) => rows.length - k) (0, [], n, .slice none 0 0) ⟨rfl, rfl, rfl, rfl, rfl, rfl, rfl, rfl, rfl, rfl, trivial⟩ ?_ ?_
      · exact ⟨Nat.zero_le _, E, k3, k12, oV, oR, qR, zz, oF, Own.nil _ _ _ _ _, RowsO.nil _ _ _, zg, Nat.zero_le _, rfl⟩
      rintro ⟨k, hs2, n2, nv⟩ w ⟨hk, E, k3, k12, oV, oR, qR, zz, oF, oN, qN, zg, hp5, hn2⟩
      show St _ _ [(0, .slice VA l.length VC), (3, .pointer (some ⟨b3, 0, none⟩)), (8, .slice SA vs.length SC), (9, .slice RA hs.length RC), (10, .int .i64 (n2 : Int)), (11, .int .i64 (i : Int)), (12, .pointer (some ⟨b12, 0, none⟩)), (13, nv), (16, .slice FA (freshL vs px).length FC), (19, .int .i64 (k : Int))] _ _
      refine St.seq fun K22 hK22 => ?_
      refine St.seq fun K23 hK23 => ?_
      refine St.region ?_
      refine St.r (R.move rfl) rfl rfl ?_
      refine St.r (R.move rfl) rfl rfl ?_
      refine St.r (R.lenSl Tryz.underlying37 rfl) rfl rfl ?_
      refine St.r (R.lss rfl rfl) rfl rfl ?_
      refine St.nil ?_
      refine St.weak [(0, _), (3, _), (8, _), (9, _), (10, _), (11, _), (12, _), (13, _), (16, _), (19, _), (69, _)] ⟨rfl, rfl, rfl, rfl, rfl, rfl, rfl, rfl, rfl, rfl, rfl, trivial⟩ ?_
      refine St.then_n ?_
      refine St.go hK23 ?_
      clear hK23
      refine St.condD rfl (fun h69 => ?_) (fun h69 => ?_)
      ·
        obtain ⟨r, hr⟩ := get_of_lt (xs := rows) (k := k) (by omega)
        obtain ⟨x, hx, hox⟩ := RowsO.get (oR.reads encHd_len) qR hr
        obtain ⟨rb, ro, rfl, hrc2⟩ := (oR.reads encHd_len).get' hx
        obtain ⟨XA, XC, hxv, -, -⟩ := hox.form
        have hml : (ofL l (patA (vs.zip r) px)).length ≤ l.length := List.length_filter_le _ _
        refine St.skip ?_
        refine St.then_n ?_
        refine St.go hK22 ?_
        clear hK22
        refine St.seq fun K24 hK24 => ?_
        refine St.block ?_
        refine St.seq fun K25 hK25 => ?_
        refine St.weak [(0, _), (3, _), (8, _), (9, _), (10, _), (11, _), (12, _), (13, _), (16, _), (19, _)] ⟨rfl, rfl, rfl, rfl, rfl, rfl, rfl, rfl, rfl, rfl, trivial⟩ ?_
        refine St.drawT (S := fun _ => False) (eff := [7, 8]) mixed rfl rfl rfl rfl ?_
        replace E := Ext.trans E (Ext.drew _)
        replace k3 := k3.ext (Ext.drew _)
        replace k12 := k12.ext (Ext.drew _)
        replace oV := oV.ext (Ext.drew _)
        replace oR := oR.ext (Ext.drew _)
        replace qR := qR.ext (Ext.drew _)
        replace zz := Nat.le_trans zz (Chg.size (Ext.drew _))
        replace oF := oF.ext (Ext.drew _)
        replace oN := oN.ext (Ext.drew _)
        replace qN := qN.ext (Ext.drew _)
        replace zg := Nat.le_trans zg (Chg.size (Ext.drew _))
        refine DrawT.quiet 0 rfl rfl (fun W eW => OpOk.r (R.move rfl) rfl) ?_
        refine DrawT.quiet 1 rfl rfl (fun W eW => OpOk.r (R.loadA Tryz.isAgg48 Tryz.sizeOf48 rfl (k12.ext eW).cells rfl) rfl) ?_
        refine DrawT.quiet 2 rfl rfl (fun W eW => OpOk.r (R.move rfl) rfl) ?_
        refine DrawT.quiet 3 rfl rfl (fun W eW => OpOk.r (R.move rfl) rfl) ?_
        refine DrawT.quiet 4 rfl rfl (fun W eW => OpOk.r (R.move rfl) rfl) ?_
        refine DrawT.quiet 5 rfl rfl (fun W eW => OpOk.r (R.indexS k Tryz.underlying37 Tryz.sizeOf85 rfl rfl rfl (by omega)) rfl) ?_
        refine DrawT.quiet 6 rfl rfl (fun W eW => OpOk.r (R.load1 Tryz.isAgg85 rfl ((((oR.ext eW).reads encHd_len).get hx).at 0 rfl)) rfl) ?_
        refine DrawT.one (n := 7) [] rfl rfl rfl (by kernel_rfl) (OpC.plain (Eff.call rfl rfl ent46 (tBind_ret _ (oV.reads encStr_len) ((qR.at' k x r hx hr).reads encTerm_len))) rfl) ?_ ?_
        · rintro r79 w79 ⟨rfl, e79⟩
          refine ⟨?_, trivial⟩
          exact e79
        rintro r79 w79 ⟨rfl, e79⟩
        replace E := Ext.trans E e79
        replace k3 := k3.ext e79
        replace k12 := k12.ext e79
        replace oV := oV.ext e79
        replace oR := oR.ext e79
        replace qR := qR.ext e79
        replace zz := Nat.le_trans zz (Chg.size e79)
        replace oF := oF.ext e79
        replace oN := oN.ext e79
        replace qN := qN.ext e79
        replace zg := Nat.le_trans zg (Chg.size e79)
        have zd79 := zz
        refine DrawT.one (n := 8) [] rfl rfl rfl (by kernel_rfl) (OpC.plain (Eff.call rfl rfl ent53 (rMatch_ret _ (hv.ext (REnc.firm _) E) (by omega))) rfl) ?_ ?_
        · rintro r80 w80 ⟨o20, e80⟩
          refine ⟨?_, trivial⟩
          exact e80
        rintro r80 w80 ⟨o20, e80⟩
        replace E := Ext.trans E e80
        replace k3 := k3.ext e80
        replace k12 := k12.ext e80
        replace oV := oV.ext e80
        replace oR := oR.ext e80
        replace qR := qR.ext e80
        replace zz := Nat.le_trans zz (Chg.size e80)
        replace oF := oF.ext e80
        replace oN := oN.ext e80
        replace qN := qN.ext e80
        replace zg := Nat.le_trans zg (Chg.size e80)
        obtain ⟨MA, MC, rfl, -, -⟩ := o20.form
        refine DrawT.quiet 9 rfl rfl (fun W eW => OpOk.r (R.assign rfl) rfl) ?_
        refine DrawT.fin rfl ?_
        show St _ _ _ _ _
        refine St.weak [(0, _), (3, _), (8, _), (9, _), (10, _), (11, _), (12, _), (13, _), (16, _), (19, _), (20, _)] ⟨rfl, rfl, rfl, rfl, rfl, rfl, rfl, rfl, rfl, rfl, rfl, trivial⟩ ?_
        refine St.then_n ?_
        refine St.go hK25 ?_
        clear hK25
        refine St.seq fun K26 hK26 => ?_
        refine St.region ?_
        refine St.r (R.move rfl) rfl rfl ?_
        refine St.r (R.move rfl) rfl rfl ?_
        refine St.r (R.lenSl Tryz.underlying22 rfl) rfl rfl ?_
        refine St.r (R.add rfl rfl (by omega) (by omega)) rfl rfl ?_
        refine St.r (R.assign rfl) rfl rfl ?_
        refine St.nil ?_
        refine St.weak [(0, _), (3, _), (8, _), (9, _), (10, _), (11, _), (12, _), (13, _), (16, _), (19, _), (20, _)] ⟨rfl, rfl, rfl, rfl, rfl, rfl, rfl, rfl, rfl, rfl, rfl, trivial⟩ ?_
        refine St.then_n ?_
        refine St.go hK26 ?_
        clear hK26
        refine St.seq fun K27 hK27 => ?_
        refine St.seq fun K28 hK28 => ?_
        refine St.region ?_
        refine St.r (R.assign rfl) rfl rfl ?_
        refine St.nil ?_
        refine St.weak [(0, _), (3, _), (8, _), (9, _), (10, _), (11, _), (12, _), (13, _), (16, _), (19, _), (20, _), (21, _)] ⟨rfl, rfl, rfl, rfl, rfl, rfl, rfl, rfl, rfl, rfl, rfl, rfl, trivial⟩ ?_
        refine St.then_n ?_
        refine St.go hK28 ?_
        clear hK28
        refine St.block ?_
        replace o20 := o20.lower (base' := Z) (by have := zz; omega)
        refine St.loop (fun (x : Nat × List Hd × Value) => match x with | (m, hs3, nv3) => [(0, .slice VA l.length VC), (3, .pointer (some ⟨b3, 0, none⟩)), (8, .slice SA vs.length SC), (9, .slice (some ⟨rb, ro, none⟩) hs.length RC), (10, .int .i64 ((n2 : Int) + ((ofL l (patA (vs.zip r) px)).length : Int))), (11, .int .i64 (i : Int)), (12, .pointer (some ⟨b12, 0, none⟩)), (13, nv3), (16, .slice FA (freshL vs px).length FC), (19, .int .i64 (k : Int)), (20, .slice MA (ofL l (patA (vs.zip r) px)).length MC), (21, .int .i64 (m : Int))])
            (fun (x : Nat × List Hd × Value) w => match x with | (m, hs3, nv3) => m ≤ (ofL l (patA (vs.zip r) px)).length ∧ Ext w0 w ∧ Blk w b3 26 [vv, .slice (some ⟨pb, po, none⟩) q.parts.length PC, .string q.order, .bool q.down, .bool q.distinct, .int .i64 q.limit] ∧ Blk w b12 48 (encPat px) ∧ Own encStr 1 Z 9 w (.slice SA vs.length SC) vs ∧ Own encHd 1 Z 85 w (.slice (some ⟨rb, ro, none⟩) hs.length RC) hs ∧ RowsO Z 44 w hs rows ∧ Z ≤ w.heap.size ∧ Own encStr 1 F 9 w (.slice FA (freshL vs px).length FC) (freshL vs px) ∧ Own encHd 1 G 85 w nv3 hs3 ∧ RowsO Z 44 w hs3 (((rows.take k).flatMap (nextRows l vs px)) ++ ((ofL l (patA (vs.zip r) px)).take m).map (rowOf vs r px)) ∧ G ≤ w.heap.size ∧ Own encTriple 9 Z 100 w (.slice MA (ofL l (patA (vs.zip r) px)).length MC) (ofL l (patA (vs.zip r) px)))
            (fun (x : Nat × List Hd × Value) => match x with | (m, hs3, nv3) => (ofL l (patA (vs.zip r) px)).length - m) (0, hs2, nv) ⟨rfl, rfl, rfl, rfl, rfl, rfl, rfl, rfl, rfl, rfl, rfl, rfl, trivial⟩ ?_ ?_
        · exact ⟨Nat.zero_le _, E, k3, k12, oV, oR, qR, zz, oF, oN, by rw [List.take_zero, List.map_nil, List.append_nil]; exact qN, zg, o20⟩
        rintro ⟨m, hs3, nv3⟩ w ⟨hm, E, k3, k12, oV, oR, qR, zz, oF, oN, qN, zg, o20⟩
        show St _ _ [(0, .slice VA l.length VC), (3, .pointer (some ⟨b3, 0, none⟩)), (8, .slice SA vs.length SC), (9, .slice (some ⟨rb, ro, none⟩) hs.length RC), (10, .int .i64 ((n2 : Int) + ((ofL l (patA (vs.zip r) px)).length : Int))), (11, .int .i64 (i : Int)), (12, .pointer (some ⟨b12, 0, none⟩)), (13, nv3), (16, .slice FA (freshL vs px).length FC), (19, .int .i64 (k : Int)), (20, .slice MA (ofL l (patA (vs.zip r) px)).length MC), (21, .int .i64 (m : Int))] _ _
        obtain ⟨NA, NC, rfl, -, -⟩ := oN.form
        have hql3 := qN.len
        rw [List.length_append, List.length_map, List.length_take] at hql3
        refine St.seq fun K29 hK29 => ?_
        refine St.seq fun K30 hK30 => ?_
        refine St.region ?_
        refine St.r (R.move rfl) rfl rfl ?_
        refine St.r (R.move rfl) rfl rfl ?_
        refine St.r (R.lenSl Tryz.underlying22 rfl) rfl rfl ?_
        refine St.r (R.lss rfl rfl) rfl rfl ?_
        refine St.nil ?_
        refine St.weak [(0, _), (3, _), (8, _), (9, _), (10, _), (11, _), (12, _), (13, _), (16, _), (19, _), (20, _), (21, _), (88, _)] ⟨rfl, rfl, rfl, rfl, rfl, rfl, rfl, rfl, rfl, rfl, rfl, rfl, rfl, trivial⟩ ?_
        refine St.then_n ?_
        refine St.go hK30 ?_
        clear hK30
        refine St.condD rfl (fun h88 => ?_) (fun h88 => ?_)
        ·
          obtain ⟨t, ht⟩ := get_of_lt (xs := (ofL l (patA (vs.zip r) px))) (k := m) (by omega)
          obtain ⟨tb, to, rfl, htc⟩ := (o20.reads encTriple_len).get' ht
          have hzz4 := zz
          have hzg4 := zg
          obtain ⟨Y, hY⟩ : ∃ Y, Y = w.heap.size := ⟨_, rfl⟩
          have hRY := fun i x r (hx : hs[i]? = some x) (hr : rows[i]? = some r) k hk => (qR.below hx hr (k := k) hk).2
          have hNY := fun i x r (hx : hs3[i]? = some x) hr k hk => (qN.below (r := r) hx hr (k := k) hk).2
          rw [← hY] at hRY hNY
          have hrl : r.length ≤ 100 := by have := hR.len r (List.mem_of_getElem? hr); omega
          refine St.skip ?_
          refine St.then_n ?_
          refine St.go hK29 ?_
          clear hK29
          refine St.seq fun K31 hK31 => ?_
          refine St.block ?_
          refine St.seq fun K32 hK32 => ?_
          refine St.region ?_
          refine St.r (R.assign rfl) rfl rfl ?_
          refine St.nil ?_
          refine St.weak [(0, _), (3, _), (8, _), (9, _), (10, _), (11, _), (12, _), (13, _), (16, _), (19, _), (20, _), (21, _), (22, _)] ⟨rfl, rfl, rfl, rfl, rfl, rfl, rfl, rfl, rfl, rfl, rfl, rfl, rfl, trivial⟩ ?_
          refine St.then_n ?_
          refine St.go hK32 ?_
          clear hK32
          refine St.seq fun K33 hK33 => ?_
          refine St.region ?_
          refine St.r (R.move rfl) rfl rfl ?_
          refine St.r (R.move rfl) rfl rfl ?_
          refine St.r (R.move rfl) rfl rfl ?_
          refine St.r (R.indexS k Tryz.underlying37 Tryz.sizeOf85 rfl rfl rfl (by omega)) rfl rfl ?_
          refine St.r (R.load1 Tryz.isAgg85 rfl (((oR.reads encHd_len).get hx).at 0 rfl)) rfl rfl ?_
          have oC := Own.nil encTerm 3 Y 44 w
          refine St.append (enc := encTerm) (fun _ => rfl) one_term Tryz.underlying85 info44 rfl rfl rfl rfl oC ((qR.at' k x r hx hr).reads encTerm_len) (by simp only [List.length_nil]; omega) (by simp only [List.length_nil]; omega) (by omega) rfl ?_
          intro v96 w96 a96 g96 at96
          replace E := Ext.then E g96 (by intro j hj hk; have := (oC.base hk).1; omega)
          replace k3 := k3.chg g96 (fun e => by cases e)
          replace k12 := k12.chg g96 (fun e => by cases e)
          replace oV := oV.chg g96 (fun _ _ e => by cases e)
          replace oR := oR.chg g96 (fun _ _ e => by cases e)
          replace qR := qR.chg g96 (fun _ _ _ _ _ _ _ _ e => by cases e)
          replace zz := Nat.le_trans zz (Chg.size g96)
          replace oF := oF.chg g96 (fun _ _ e => by cases e)
          replace oN := oN.chg g96 (fun _ _ e => by cases e)
          replace qN := qN.chg g96 (fun _ _ _ _ _ _ _ _ e => by cases e)
          replace zg := Nat.le_trans zg (Chg.size g96)
          replace o20 := o20.chg g96 (fun _ _ e => by cases e)
          clear oC; have oC := a96; clear a96
          rw [List.nil_append] at oC
          have hCY : ∀ k, v96.ownBlock = some k → k < w96.heap.size := fun k hk => (oC.base hk).2
          have hg96 := g96.size
          refine St.r (R.assign rfl) rfl rfl ?_
          refine St.nil ?_
          refine St.weak [(0, _), (3, _), (8, _), (9, _), (10, _), (11, _), (12, _), (13, _), (16, _), (19, _), (20, _), (21, _), (22, _)] ⟨rfl, rfl, rfl, rfl, rfl, rfl, rfl, rfl, rfl, rfl, rfl, rfl, rfl, trivial⟩ ?_
          refine St.then_n ?_
          refine St.go hK33 ?_
          clear hK33
          refine St.seq fun K34 hK34 => ?_
          refine St.region ?_
          refine St.r (R.move rfl) rfl rfl ?_
          refine St.r (R.move rfl) rfl rfl ?_
          refine St.r (R.indexS m Tryz.underlying22 Tryz.sizeOf100 rfl rfl rfl (by omega)) rfl rfl ?_
          refine St.r (R.loadA Tryz.isAgg100 Tryz.sizeOf100 rfl ((o20.reads encTriple_len).get ht) rfl) rfl rfl ?_
          refine St.call rfl rfl ent67 (rThree_ret _) rfl ?_
          rintro r101 w101 ⟨b23, rfl, r23, hb23, e101⟩
          replace E := Ext.trans E e101
          replace k3 := k3.ext e101
          replace k12 := k12.ext e101
          replace oV := oV.ext e101
          replace oR := oR.ext e101
          replace qR := qR.ext e101
          replace zz := Nat.le_trans zz (Chg.size e101)
          replace oF := oF.ext e101
          replace oN := oN.ext e101
          replace qN := qN.ext e101
          replace zg := Nat.le_trans zg (Chg.size e101)
          replace o20 := o20.ext e101
          replace oC := oC.ext e101
          have hb23l : b23 < w101.heap.size := r23.lt (fun x => by rw [encTerm_len]; omega) (by simp [termsOf]) (k := b23) rfl
          refine St.r (R.assign rfl) rfl rfl ?_
          refine St.nil ?_
          refine St.weak [(0, _), (3, _), (8, _), (9, _), (10, _), (11, _), (12, _), (13, _), (16, _), (19, _), (20, _), (21, _), (22, _), (23, _)] ⟨rfl, rfl, rfl, rfl, rfl, rfl, rfl, rfl, rfl, rfl, rfl, rfl, rfl, rfl, trivial⟩ ?_
          refine St.then_n ?_
          refine St.go hK34 ?_
          clear hK34
          refine St.seq fun K35 hK35 => ?_
          refine St.region ?_
          refine St.r (R.loadA Tryz.isAgg48 Tryz.sizeOf48 rfl k12.cells rfl) rfl rfl ?_
          refine St.call rfl rfl ent54 (rSlots_ret _) rfl ?_
          rintro r103 w103 ⟨b24, rfl, r24, hb24, e103⟩
          replace E := Ext.trans E e103
          replace k3 := k3.ext e103
          replace k12 := k12.ext e103
          replace oV := oV.ext e103
          replace oR := oR.ext e103
          replace qR := qR.ext e103
          replace zz := Nat.le_trans zz (Chg.size e103)
          replace oF := oF.ext e103
          replace oN := oN.ext e103
          replace qN := qN.ext e103
          replace zg := Nat.le_trans zg (Chg.size e103)
          replace o20 := o20.ext e103
          replace oC := oC.ext e103
          replace r23 := r23.ext (REnc.firm _) e103
          have hb24l : b24 < w103.heap.size := r24.lt (fun x => by rw [encSlot_len]; omega) (by simp [slotsOf]) (k := b24) rfl
          have hs101 := e101.size
          have hs103 := e103.size
          refine St.r (R.assign rfl) rfl rfl ?_
          refine St.nil ?_
          refine St.weak [(0, _), (3, _), (8, _), (9, _), (10, _), (11, _), (12, _), (13, _), (16, _), (19, _), (20, _), (21, _), (22, _), (23, _), (24, _)] ⟨rfl, rfl, rfl, rfl, rfl, rfl, rfl, rfl, rfl, rfl, rfl, rfl, rfl, rfl, rfl, trivial⟩ ?_
          refine St.then_n ?_
          refine St.go hK35 ?_
          clear hK35
          refine St.seq fun K36 hK36 => ?_
          refine St.seq fun K37 hK37 => ?_
          refine St.region ?_
          refine St.r (R.assign rfl) rfl rfl ?_
          refine St.nil ?_
          refine St.weak [(0, _), (3, _), (8, _), (9, _), (10, _), (11, _), (12, _), (13, _), (16, _), (19, _), (20, _), (21, _), (22, _), (23, _), (24, _), (25, _)] ⟨rfl, rfl, rfl, rfl, rfl, rfl, rfl, rfl, rfl, rfl, rfl, rfl, rfl, rfl, rfl, rfl, trivial⟩ ?_
          refine St.then_n ?_
          refine St.go hK37 ?_
          clear hK37
          refine St.block ?_
          have hcb : ∀ k, v96.ownBlock = some k → k ≠ b23 ∧ k ≠ b24 := fun k hk => by have := hCY k hk; omega
          have zy : Y ≤ w103.heap.size := by omega
          refine St.loop (fun (x : Nat × Value) => match x with | (j, cv) => [(0, .slice VA l.length VC), (3, .pointer (some ⟨b3, 0, none⟩)), (8, .slice SA vs.length SC), (9, .slice (some ⟨rb, ro, none⟩) hs.length RC), (10, .int .i64 ((n2 : Int) + ((ofL l (patA (vs.zip r) px)).length : Int))), (11, .int .i64 (i : Int)), (12, .pointer (some ⟨b12, 0, none⟩)), (13, .slice NA hs3.length NC), (16, .slice FA (freshL vs px).length FC), (19, .int .i64 (k : Int)), (20, .slice (some ⟨tb, to, none⟩) (ofL l (patA (vs.zip r) px)).length MC), (21, .int .i64 (m : Int)), (22, cv), (23, .slice (some ⟨b23, 0, none⟩) 3 3), (24, .slice (some ⟨b24, 0, none⟩) 3 3), (25, .int .i64 (j : Int))])
              (fun (x : Nat × Value) w => match x with | (j, cv) => j ≤ (freshL vs px).length ∧ Ext w0 w ∧ Blk w b3 26 [vv, .slice (some ⟨pb, po, none⟩) q.parts.length PC, .string q.order, .bool q.down, .bool q.distinct, .int .i64 q.limit] ∧ Blk w b12 48 (encPat px) ∧ Own encStr 1 Z 9 w (.slice SA vs.length SC) vs ∧ Own encHd 1 Z 85 w (.slice (some ⟨rb, ro, none⟩) hs.length RC) hs ∧ RowsO Z 44 w hs rows ∧ Z ≤ w.heap.size ∧ Own encStr 1 F 9 w (.slice FA (freshL vs px).length FC) (freshL vs px) ∧ Own encHd 1 G 85 w (.slice NA hs3.length NC) hs3 ∧ RowsO Z 44 w hs3 (((rows.take k).flatMap (nextRows l vs px)) ++ ((ofL l (patA (vs.zip r) px)).take m).map (rowOf vs r px)) ∧ G ≤ w.heap.size ∧ Own encTriple 9 Z 100 w (.slice (some ⟨tb, to, none⟩) (ofL l (patA (vs.zip r) px)).length MC) (ofL l (patA (vs.zip r) px)) ∧ RTerms w (.slice (some ⟨b23, 0, none⟩) 3 3) (termsOf t) ∧ RSl (REnc encSlot) 4 w (.slice (some ⟨b24, 0, none⟩) 3 3) (slotsOf px) ∧ Own encTerm 3 Y 44 w cv (r ++ ((freshL vs px).take j).map (termAt px t)) ∧ (∀ k, cv.ownBlock = some k → k ≠ b23 ∧ k ≠ b24) ∧ b23 + 1 ≤ w.heap.size ∧ b24 + 1 ≤ w.heap.size ∧ Y ≤ w.heap.size)
              (fun (x : Nat × Value) => match x with | (j, cv) => (freshL vs px).length - j) (0, v96) ⟨rfl, rfl, rfl, rfl, rfl, rfl, rfl, rfl, rfl, rfl, rfl, rfl, rfl, rfl, rfl, rfl, trivial⟩ ?_ ?_
          · exact ⟨Nat.zero_le _, E, k3, k12, oV, oR, qR, zz, oF, oN, qN, zg, o20, r23, r24, by rw [List.take_zero, List.map_nil, List.append_nil]; exact oC, hcb, by omega, by omega, zy⟩
          rintro ⟨j, cv⟩ w ⟨hj, E, k3, k12, oV, oR, qR, zz, oF, oN, qN, zg, o20, r23, r24, oC, hcb, z23, z24, zy⟩
          show St _ _ [(0, .slice VA l.length VC), (3, .pointer (some ⟨b3, 0, none⟩)), (8, .slice SA vs.length SC), (9, .slice (some ⟨rb, ro, none⟩) hs.length RC), (10, .int .i64 ((n2 : Int) + ((ofL l (patA (vs.zip r) px)).length : Int))), (11, .int .i64 (i : Int)), (12, .pointer (some ⟨b12, 0, none⟩)), (13, .slice NA hs3.length NC), (16, .slice FA (freshL vs px).length FC), (19, .int .i64 (k : Int)), (20, .slice (some ⟨tb, to, none⟩) (ofL l (patA (vs.zip r) px)).length MC), (21, .int .i64 (m : Int)), (22, cv), (23, .slice (some ⟨b23, 0, none⟩) 3 3), (24, .slice (some ⟨b24, 0, none⟩) 3 3), (25, .int .i64 (j : Int))] _ _
          refine St.seq fun K38 hK38 => ?_
          refine St.seq fun K39 hK39 => ?_
          refine St.region ?_
          refine St.r (R.move rfl) rfl rfl ?_
          refine St.r (R.move rfl) rfl rfl ?_
          refine St.r (R.lenSl Tryz.underlying23 rfl) rfl rfl ?_
          refine St.r (R.lss rfl rfl) rfl rfl ?_
          refine St.nil ?_
          refine St.weak [(0, _), (3, _), (8, _), (9, _), (10, _), (11, _), (12, _), (13, _), (16, _), (19, _), (20, _), (21, _), (22, _), (23, _), (24, _), (25, _), (107, _)] ⟨rfl, rfl, rfl, rfl, rfl, rfl, rfl, rfl, rfl, rfl, rfl, rfl, rfl, rfl, rfl, rfl, rfl, trivial⟩ ?_
          refine St.then_n ?_
          refine St.go hK39 ?_
          clear hK39
          refine St.condD rfl (fun h107 => ?_) (fun h107 => ?_)
          ·
            obtain ⟨fj, hf⟩ := get_of_lt (xs := (freshL vs px)) (k := j) (by omega)
            obtain ⟨fb, fo, rfl, hfc⟩ := (oF.reads encStr_len).get' hf
            have hcl : (r ++ ((freshL vs px).take j).map (termAt px t)).length ≤ 103 := by rw [List.length_append, List.length_map, List.length_take]; omega
            refine St.skip ?_
            refine St.then_n ?_
            refine St.go hK38 ?_
            clear hK38
            refine St.seq fun K40 hK40 => ?_
            refine St.block ?_
            refine St.seq fun K41 hK41 => ?_
            refine St.region ?_
            refine St.r (R.assign rfl) rfl rfl ?_
            refine St.nil ?_
            refine St.weak [(0, _), (3, _), (8, _), (9, _), (10, _), (11, _), (12, _), (13, _), (16, _), (19, _), (20, _), (21, _), (22, _), (23, _), (24, _), (25, _), (26, _)] ⟨rfl, rfl, rfl, rfl, rfl, rfl, rfl, rfl, rfl, rfl, rfl, rfl, rfl, rfl, rfl, rfl, rfl, trivial⟩ ?_
            refine St.then_n ?_
            refine St.go hK41 ?_
            clear hK41
            refine St.block ?_
            refine St.loop (fun (a : Nat) => [(0, .slice VA l.length VC), (3, .pointer (some ⟨b3, 0, none⟩)), (8, .slice SA vs.length SC), (9, .slice (some ⟨rb, ro, none⟩) hs.length RC), (10, .int .i64 ((n2 : Int) + ((ofL l (patA (vs.zip r) px)).length : Int))), (11, .int .i64 (i : Int)), (12, .pointer (some ⟨b12, 0, none⟩)), (13, .slice NA hs3.length NC), (16, .slice (some ⟨fb, fo, none⟩) (freshL vs px).length FC), (19, .int .i64 (k : Int)), (20, .slice (some ⟨tb, to, none⟩) (ofL l (patA (vs.zip r) px)).length MC), (21, .int .i64 (m : Int)), (22, cv), (23, .slice (some ⟨b23, 0, none⟩) 3 3), (24, .slice (some ⟨b24, 0, none⟩) 3 3), (25, .int .i64 (j : Int)), (26, .int .i64 (a : Int))])
                (fun (a : Nat) w => a ≤ 3 ∧ Ext w0 w ∧ Blk w b3 26 [vv, .slice (some ⟨pb, po, none⟩) q.parts.length PC, .string q.order, .bool q.down, .bool q.distinct, .int .i64 q.limit] ∧ Blk w b12 48 (encPat px) ∧ Own encStr 1 Z 9 w (.slice SA vs.length SC) vs ∧ Own encHd 1 Z 85 w (.slice (some ⟨rb, ro, none⟩) hs.length RC) hs ∧ RowsO Z 44 w hs rows ∧ Z ≤ w.heap.size ∧ Own encStr 1 F 9 w (.slice (some ⟨fb, fo, none⟩) (freshL vs px).length FC) (freshL vs px) ∧ Own encHd 1 G 85 w (.slice NA hs3.length NC) hs3 ∧ RowsO Z 44 w hs3 (((rows.take k).flatMap (nextRows l vs px)) ++ ((ofL l (patA (vs.zip r) px)).take m).map (rowOf vs r px)) ∧ G ≤ w.heap.size ∧ Own encTriple 9 Z 100 w (.slice (some ⟨tb, to, none⟩) (ofL l (patA (vs.zip r) px)).length MC) (ofL l (patA (vs.zip r) px)) ∧ RTerms w (.slice (some ⟨b23, 0, none⟩) 3 3) (termsOf t) ∧ RSl (REnc encSlot) 4 w (.slice (some ⟨b24, 0, none⟩) 3 3) (slotsOf px) ∧ Own encTerm 3 Y 44 w cv (r ++ ((freshL vs px).take j).map (termAt px t)) ∧ (∀ k, cv.ownBlock = some k → k ≠ b23 ∧ k ≠ b24) ∧ b23 + 1 ≤ w.heap.size ∧ b24 + 1 ≤ w.heap.size ∧ Y ≤ w.heap.size ∧ (∀ c u, c < a → (slotsOf px)[c]? = some u → u.var ≠ fj))
                (fun (a : Nat) => 3 - a) 0 ⟨rfl, rfl, rfl, rfl, rfl, rfl, rfl, rfl, rfl, rfl, rfl, rfl, rfl, rfl, rfl, rfl, rfl, trivial⟩ ?_ ?_
            · exact ⟨Nat.zero_le _, E, k3, k12, oV, oR, qR, zz, oF, oN, qN, zg, o20, r23, r24, oC, hcb, z23, z24, zy, fun c u h => by omega⟩
            rintro a w ⟨ha, E, k3, k12, oV, oR, qR, zz, oF, oN, qN, zg, o20, r23, r24, oC, hcb, z23, z24, zy, hall⟩
            show St _ _ [(0, .slice VA l.length VC), (3, .pointer (some ⟨b3, 0, none⟩)), (8, .slice SA vs.length SC), (9, .slice (some ⟨rb, ro, none⟩) hs.length RC), (10, .int .i64 ((n2 : Int) + ((ofL l (patA (vs.zip r) px)).length : Int))), (11, .int .i64 (i : Int)), (12, .pointer (some ⟨b12, 0, none⟩)), (13, .slice NA hs3.length NC), (16, .slice (some ⟨fb, fo, none⟩) (freshL vs px).length FC), (19, .int .i64 (k : Int)), (20, .slice (some ⟨tb, to, none⟩) (ofL l (patA (vs.zip r) px)).length MC), (21, .int .i64 (m : Int)), (22, cv), (23, .slice (some ⟨b23, 0, none⟩) 3 3), (24, .slice (some ⟨b24, 0, none⟩) 3 3), (25, .int .i64 (j : Int)), (26, .int .i64 (a : Int))] _ _
            refine St.seq fun K42 hK42 => ?_
            refine St.seq fun K43 hK43 => ?_
            refine St.region ?_
            refine St.r (R.move rfl) rfl rfl ?_
            refine St.r (R.lss rfl rfl) rfl rfl ?_
            refine St.nil ?_
            refine St.weak [(0, _), (3, _), (8, _), (9, _), (10, _), (11, _), (12, _), (13, _), (16, _), (19, _), (20, _), (21, _), (22, _), (23, _), (24, _), (25, _), (26, _), (111, _)] ⟨rfl, rfl, rfl, rfl, rfl, rfl, rfl, rfl, rfl, rfl, rfl, rfl, rfl, rfl, rfl, rfl, rfl, rfl, trivial⟩ ?_
            refine St.then_n ?_
            refine St.go hK43 ?_
            clear hK43
            refine St.condD rfl (fun h111 => ?_) (fun h111 => ?_)
            ·
              obtain ⟨s0, hs0⟩ := slots_get (p := px) (i := a) (by omega)
              obtain ⟨x0, hx0⟩ := terms_get (t := t) (i := a) (by omega)
              refine St.skip ?_
              refine St.then_n ?_
              refine St.go hK42 ?_
              clear hK42
              refine St.seq fun K44 hK44 => ?_
              refine St.block ?_
              refine St.seq fun K45 hK45 => ?_
              refine St.weak [(0, _), (3, _), (8, _), (9, _), (10, _), (11, _), (12, _), (13, _), (16, _), (19, _), (20, _), (21, _), (22, _), (23, _), (24, _), (25, _), (26, _)] ⟨rfl, rfl, rfl, rfl, rfl, rfl, rfl, rfl, rfl, rfl, rfl, rfl, rfl, rfl, rfl, rfl, rfl, trivial⟩ ?_
              refine St.draw mixed rfl rfl rfl rfl ?_
              replace E := Ext.trans E (Ext.drew _)
              replace k3 := k3.ext (Ext.drew _)
              replace k12 := k12.ext (Ext.drew _)
              replace oV := oV.ext (Ext.drew _)
              replace oR := oR.ext (Ext.drew _)
              replace qR := qR.ext (Ext.drew _)
              replace zz := Nat.le_trans zz (Chg.size (Ext.drew _))
              replace oF := oF.ext (Ext.drew _)
              replace oN := oN.ext (Ext.drew _)
              replace qN := qN.ext (Ext.drew _)
              replace zg := Nat.le_trans zg (Chg.size (Ext.drew _))
              replace o20 := o20.ext (Ext.drew _)
              replace r23 := r23.ext (REnc.firm _) (Ext.drew _)
              replace r24 := r24.ext (REnc.firm _) (Ext.drew _)
              replace oC := oC.ext (Ext.drew _)
              replace z23 := Nat.le_trans z23 (Chg.size (Ext.drew _))
              replace z24 := Nat.le_trans z24 (Chg.size (Ext.drew _))
              replace zy := Nat.le_trans zy (Chg.size (Ext.drew _))
              refine ⟨_, OpOk.r (R.move rfl) rfl, ?_⟩
              refine ⟨_, OpOk.r (R.move rfl) rfl, ?_⟩
              refine ⟨_, OpOk.r (R.indexS a Tryz.underlying106 Tryz.sizeOf46 rfl rfl rfl (by omega)) rfl, ?_⟩
              refine ⟨_, OpOk.r (R.fieldA Tryz.underlying46 rfl Tryz.sizeOf9 rfl rfl rfl) rfl, ?_⟩
              refine ⟨_, OpOk.r (R.load1 Tryz.isAgg9 rfl (((r24.get hs0).cut 0 1 rfl).at 0 rfl)) rfl, ?_⟩
              refine ⟨_, OpOk.r (R.move rfl) rfl, ?_⟩
              refine ⟨_, OpOk.r (R.move rfl) rfl, ?_⟩
              refine ⟨_, OpOk.r (R.indexS j Tryz.underlying23 Tryz.sizeOf9 rfl rfl rfl (by omega)) rfl, ?_⟩
              refine ⟨_, OpOk.r (R.load1 Tryz.isAgg9 rfl (((oF.reads encStr_len).get hf).at 0 rfl)) rfl, ?_⟩
              refine ⟨_, OpOk.r (R.eqS rfl rfl) rfl, ?_⟩
              show St _ _ _ _ _
              refine St.weak [(0, _), (3, _), (8, _), (9, _), (10, _), (11, _), (12, _), (13, _), (16, _), (19, _), (20, _), (21, _), (22, _), (23, _), (24, _), (25, _), (26, _), (123, _)] ⟨rfl, rfl, rfl, rfl, rfl, rfl, rfl, rfl, rfl, rfl, rfl, rfl, rfl, rfl, rfl, rfl, rfl, rfl, trivial⟩ ?_
              refine St.then_n ?_
              refine St.go hK45 ?_
              clear hK45
              refine St.condD rfl (fun h123 => ?_) (fun h123 => ?_)
              ·
                refine St.seq fun K46 hK46 => ?_
                refine St.region ?_
                refine St.r (R.move rfl) rfl rfl ?_
                refine St.r (R.move rfl) rfl rfl ?_
                refine St.r (R.move rfl) rfl rfl ?_
                refine St.r (R.indexS a Tryz.underlying85 Tryz.sizeOf44 rfl rfl rfl (by omega)) rfl rfl ?_
                refine St.r (R.loadA Tryz.isAgg44 Tryz.sizeOf44 rfl (r23.get hx0) rfl) rfl rfl ?_
                refine St.buildSl Tryz.underlying85 Tryz.sizeOf44 Tryz.zeroValue44 rfl rfl rfl rfl (by intro u hu; simp only [List.mem_cons, List.not_mem_nil, or_false] at hu; first | (subst hu; rfl) | (rcases hu with rfl | rfl <;> rfl) | (rcases hu with rfl | rfl | rfl <;> rfl) | (rcases hu with rfl | rfl | rfl | rfl <;> rfl)) rfl ?_
                intro w129 b129 hb129 hs129 e129 k129
                have qE129 := E.size
                replace E := Ext.trans E e129
                replace k3 := k3.ext e129
                replace k12 := k12.ext e129
                replace oV := oV.ext e129
                replace oR := oR.ext e129
                replace qR := qR.ext e129
                replace zz := Nat.le_trans zz (Chg.size e129)
                replace oF := oF.ext e129
                replace oN := oN.ext e129
                replace qN := qN.ext e129
                replace zg := Nat.le_trans zg (Chg.size e129)
                replace o20 := o20.ext e129
                replace r23 := r23.ext (REnc.firm _) e129
                replace r24 := r24.ext (REnc.firm _) e129
                replace oC := oC.ext e129
                replace z23 := Nat.le_trans z23 (Chg.size e129)
                replace z24 := Nat.le_trans z24 (Chg.size e129)
                replace zy := Nat.le_trans zy (Chg.size e129)
                have y23 := z23
                have y24 := z24
                refine St.append (enc := encTerm) (fun _ => rfl) one_term Tryz.underlying85 info44 rfl rfl rfl rfl oC (RSl.mk (enc := encTerm) (xs := [x0]) encTerm_len k129.cells (fun i u hu => hu) (by simp) (by simp)) (by rw [List.length_singleton]; omega) (by rw [List.length_singleton]; omega) (by omega) rfl ?_
                intro v130 w130 a130 g130 at130
                replace E := Ext.then E g130 (by intro j hj hk; have := (oC.base hk).1; omega)
                replace k3 := k3.chg g130 (by intro hk; have := (oC.base hk).1; omega)
                replace k12 := k12.chg g130 (by intro hk; have := (oC.base hk).1; omega)
                replace oV := oV.chg g130 (fun k hk e => Own.apart oV oC (by decide) hk e)
                replace oR := oR.chg g130 (fun k hk e => Own.apart oR oC (by decide) hk e)
                replace qR := qR.chg g130 (fun i x r hx hr _ k hk e => by have := hRY i x r hx hr k hk; have := (oC.base e).1; omega)
                replace zz := Nat.le_trans zz (Chg.size g130)
                replace oF := oF.chg g130 (fun k hk e => Own.apart oF oC (by decide) hk e)
                replace oN := oN.chg g130 (fun k hk e => Own.apart oN oC (by decide) hk e)
                replace qN := qN.chg g130 (fun i x r hx hr _ k hk e => by have := hNY i x r hx hr k hk; have := (oC.base e).1; omega)
                replace zg := Nat.le_trans zg (Chg.size g130)
                replace o20 := o20.chg g130 (fun k hk e => Own.apart o20 oC (by decide) hk e)
                replace r23 := r23.chg g130 (fun _ k hk e => by injection hk with hk; exact (hcb k e).1 hk.symm)
                replace r24 := r24.chg g130 (fun _ k hk e => by injection hk with hk; exact (hcb k e).2 hk.symm)
                replace z23 := Nat.le_trans z23 (Chg.size g130)
                replace z24 := Nat.le_trans z24 (Chg.size g130)
                replace zy := Nat.le_trans zy (Chg.size g130)
                clear oC; have oC := a130; clear a130
                refine St.r (R.assign rfl) rfl rfl ?_
                refine St.nil ?_
                refine St.weak [(0, _), (3, _), (8, _), (9, _), (10, _), (11, _), (12, _), (13, _), (16, _), (19, _), (20, _), (21, _), (22, _), (23, _), (24, _), (25, _)] ⟨rfl, rfl, rfl, rfl, rfl, rfl, rfl, rfl, rfl, rfl, rfl, rfl, rfl, rfl, rfl, rfl, trivial⟩ ?_
                refine St.then_n ?_
                refine St.go hK46 ?_
                clear hK46
                refine St.exit ?_
                refine St.in_y rfl ?_
                refine St.then_x ?_
                refine St.then_x ?_
                refine St.in_x ?_
                refine St.in_n ?_
                refine St.then_n ?_
                refine St.go hK40 ?_
                clear hK40
                refine St.region ?_
                refine St.r (R.move rfl) rfl rfl ?_
                refine St.r (R.add rfl rfl (by omega) (by omega)) rfl rfl ?_
                refine St.r (R.assign rfl) rfl rfl ?_
                refine St.nil ?_
                refine St.weak [(0, _), (3, _), (8, _), (9, _), (10, _), (11, _), (12, _), (13, _), (16, _), (19, _), (20, _), (21, _), (22, _), (23, _), (24, _), (25, _)] ⟨rfl, rfl, rfl, rfl, rfl, rfl, rfl, rfl, rfl, rfl, rfl, rfl, rfl, rfl, rfl, rfl, trivial⟩ ?_
                refine St.then_n ?_
                refine St.round (j + 1, v130) ⟨rfl, rfl, rfl, rfl, rfl, rfl, rfl, rfl, rfl, rfl, rfl, rfl, rfl, rfl, rfl, rfl, trivial⟩ ?_ ?_
                · try dsimp only
                  refine ⟨by omega, E, k3, k12, oV, oR, qR, zz, oF, oN, qN, zg, o20, r23, r24, ?_, fun k hk => ?_, z23, z24, zy⟩
                  · rw [take_snoc hf, List.map_append, ← List.append_assoc]
                    have hta : termAt px t fj = x0 := termAt_first hs0 hx0 h123 hall
                    rw [← hta] at oC
                    exact oC
                  · rcases at130 with e | e
                    · exact hcb k (e ▸ hk)
                    · rw [e] at hk; injection hk with hk; omega
                · try dsimp only
                  omega
              ·
                refine St.skip ?_
                refine St.in_n ?_
                refine St.then_n ?_
                refine St.go hK44 ?_
                clear hK44
                refine St.region ?_
                refine St.r (R.move rfl) rfl rfl ?_
                refine St.r (R.add rfl rfl (by omega) (by omega)) rfl rfl ?_
                refine St.r (R.assign rfl) rfl rfl ?_
                refine St.nil ?_
                refine St.weak [(0, _), (3, _), (8, _), (9, _), (10, _), (11, _), (12, _), (13, _), (16, _), (19, _), (20, _), (21, _), (22, _), (23, _), (24, _), (25, _), (26, _)] ⟨rfl, rfl, rfl, rfl, rfl, rfl, rfl, rfl, rfl, rfl, rfl, rfl, rfl, rfl, rfl, rfl, rfl, trivial⟩ ?_
                refine St.then_n ?_
                refine St.round (a + 1) ⟨rfl, rfl, rfl, rfl, rfl, rfl, rfl, rfl, rfl, rfl, rfl, rfl, rfl, rfl, rfl, rfl, rfl, trivial⟩ ?_ ?_
                · refine ⟨by omega, E, k3, k12, oV, oR, qR, zz, oF, oN, qN, zg, o20, r23, r24, oC, hcb, z23, z24, zy, fun c u hc hu => ?_⟩
                  rcases Nat.lt_or_ge c a with h | h
                  · exact hall c u h hu
                  · obtain rfl : c = a := by omega
                    rw [hs0] at hu; injection hu with hu; subst hu; exact h123
                · omega
            ·
              obtain ⟨u, hu, huv⟩ := fresh_slot (List.mem_of_getElem? hf)
              obtain ⟨c, hc⟩ := List.mem_iff_getElem?.1 hu
              exact absurd huv (hall c u (by have := lt_of_get hc; simp only [slotsOf, List.length_cons, List.length_nil] at this; omega) hc)
          ·
            rw [List.take_of_length_le (show (freshL vs px).length ≤ j by omega)] at oC
            obtain ⟨CA, CC, rfl, -, -⟩ := oC.form
            refine St.exit ?_
            refine St.then_x ?_
            refine St.then_x ?_
            refine St.in_x ?_
            refine St.then_n ?_
            refine St.go hK36 ?_
            clear hK36
            refine St.region ?_
            refine St.r (R.move rfl) rfl rfl ?_
            refine St.r (R.move rfl) rfl rfl ?_
            refine St.buildSl Tryz.underlying37 Tryz.sizeOf85 Tryz.zeroValue85 rfl rfl rfl rfl (by intro u hu; simp only [List.mem_cons, List.not_mem_nil, or_false] at hu; first | (subst hu; rfl) | (rcases hu with rfl | rfl <;> rfl) | (rcases hu with rfl | rfl | rfl <;> rfl) | (rcases hu with rfl | rfl | rfl | rfl <;> rfl)) rfl ?_
            intro w133 b133 hb133 hs133 e133 k133
            have qE133 := E.size
            replace E := Ext.trans E e133
            replace k3 := k3.ext e133
            replace k12 := k12.ext e133
            replace oV := oV.ext e133
            replace oR := oR.ext e133
            replace qR := qR.ext e133
            replace zz := Nat.le_trans zz (Chg.size e133)
            replace oF := oF.ext e133
            replace oN := oN.ext e133
            replace qN := qN.ext e133
            replace zg := Nat.le_trans zg (Chg.size e133)
            replace o20 := o20.ext e133
            replace oC := oC.ext e133
            replace zy := Nat.le_trans zy (Chg.size e133)
            refine St.append (enc := encHd) (fun _ => rfl) one_hd Tryz.underlying37 info85 rfl rfl rfl rfl oN (RSl.mk (enc := encHd) (xs := [(⟨CA, (r ++ (freshL vs px).map (termAt px t)).length, CC⟩ : Hd)]) encHd_len k133.cells (fun i u hu => hu) (by simp) (by simp)) (by rw [List.length_singleton]; omega) (by rw [List.length_singleton]; omega) (by omega) rfl ?_
            intro v134 w134 a134 g134 at134
            replace E := Ext.then E g134 (by intro j hj hk; have := (oN.base hk).1; omega)
            replace k3 := k3.chg g134 (by intro hk; have := (oN.base hk).1; omega)
            replace k12 := k12.chg g134 (by intro hk; have := (oN.base hk).1; omega)
            replace oV := oV.chg g134 (fun k hk e => Own.apart oV oN (by decide) hk e)
            replace oR := oR.chg g134 (fun k hk e => by have := (oN.base e).1; have := hRG k hk; omega)
            replace qR := qR.chg g134 (fun _ _ _ _ _ o _ hk e => Own.apart o oN (by decide) hk e)
            replace zz := Nat.le_trans zz (Chg.size g134)
            replace oF := oF.chg g134 (fun k hk e => Own.apart oF oN (by decide) hk e)
            replace qN := qN.chg g134 (fun _ _ _ _ _ o _ hk e => Own.apart o oN (by decide) hk e)
            replace zg := Nat.le_trans zg (Chg.size g134)
            replace o20 := o20.chg g134 (fun k hk e => Own.apart o20 oN (by decide) hk e)
            replace oC := oC.chg g134 (fun k hk e => Own.apart oC oN (by decide) hk e)
            replace zy := Nat.le_trans zy (Chg.size g134)
            clear oN; have oN := a134; clear a134
            refine St.r (R.assign rfl) rfl rfl ?_
            refine St.nil ?_
            refine St.weak [(0, _), (3, _), (8, _), (9, _), (10, _), (11, _), (12, _), (13, _), (16, _), (19, _), (20, _), (21, _)] ⟨rfl, rfl, rfl, rfl, rfl, rfl, rfl, rfl, rfl, rfl, rfl, rfl, trivial⟩ ?_
            refine St.in_n ?_
            refine St.then_n ?_
            refine St.go hK31 ?_
            clear hK31
            refine St.region ?_
            refine St.r (R.move rfl) rfl rfl ?_
            refine St.r (R.add rfl rfl (by omega) (by omega)) rfl rfl ?_
            refine St.r (R.assign rfl) rfl rfl ?_
            refine St.nil ?_
            refine St.weak [(0, _), (3, _), (8, _), (9, _), (10, _), (11, _), (12, _), (13, _), (16, _), (19, _), (20, _), (21, _)] ⟨rfl, rfl, rfl, rfl, rfl, rfl, rfl, rfl, rfl, rfl, rfl, rfl, trivial⟩ ?_
            refine St.then_n ?_
            refine St.round (m + 1, hs3 ++ [⟨CA, (r ++ (freshL vs px).map (termAt px t)).length, CC⟩], v134) ⟨rfl, rfl, rfl, rfl, rfl, rfl, rfl, rfl, rfl, rfl, rfl, rfl, trivial⟩ ?_ ?_
            · try dsimp only
              refine ⟨by omega, E, k3, k12, oV, oR, qR, zz, oF, oN, ?_, zg, o20⟩
              have h := qN.snoc (x := ⟨CA, (r ++ (freshL vs px).map (termAt px t)).length, CC⟩) (oC.lower (by omega))
              rw [take_snoc ht, List.map_append, ← List.append_assoc]
              exact h
            · try dsimp only
              omega
        ·
          refine St.exit ?_
          refine St.then_x ?_
          refine St.then_x ?_
          refine St.in_x ?_
          refine St.then_n ?_
          refine St.go hK27 ?_
          clear hK27
          refine St.seq fun K47 hK47 => ?_
          refine St.region ?_
          refine St.r (R.move rfl) rfl rfl ?_
          refine St.r (R.lenSl Tryz.underlying37 rfl) rfl rfl ?_
          refine St.r (R.gtr rfl rfl) rfl rfl ?_
          refine St.nil ?_
          refine St.weak [(0, _), (3, _), (8, _), (9, _), (10, _), (11, _), (12, _), (13, _), (16, _), (19, _), (137, _)] ⟨rfl, rfl, rfl, rfl, rfl, rfl, rfl, rfl, rfl, rfl, rfl, trivial⟩ ?_
          refine St.then_n ?_
          refine St.go hK47 ?_
          clear hK47
          refine St.condD rfl (fun h137 => ?_) (fun h137 => ?_)
          ·
            rw [List.take_of_length_le (show (ofL l (patA (vs.zip r) px)).length ≤ m by omega)] at qN
            have hpn : ((rows.take (k + 1)).flatMap (nextRows l vs px)) = ((rows.take k).flatMap (nextRows l vs px)) ++ (ofL l (patA (vs.zip r) px)).map (rowOf vs r px) := take_flat hr
            have hql := qN.len
            rw [← hpn] at hql
            have hno := full_no hpx hR (k := k + 1) (by omega)
            refine St.seq fun K48 hK48 => ?_
            refine St.region ?_
            refine St.r (R.assign rfl) rfl rfl ?_
            refine St.r (R.assign rfl) rfl rfl ?_
            refine St.r (R.assign rfl) rfl rfl ?_
            refine St.r (R.assign rfl) rfl rfl ?_
            refine St.nil ?_
            refine St.weak [(4, _), (5, _), (6, _), (7, _)] ⟨rfl, rfl, rfl, rfl, trivial⟩ ?_
            refine St.then_n ?_
            refine St.go hK48 ?_
            clear hK48
            refine St.ret ?_
            refine St.in_r ?_
            refine St.then_r ?_
            refine St.then_r ?_
            refine St.in_r ?_
            refine St.then_r ?_
            refine St.in_r ?_
            refine St.then_r ?_
            refine St.then_r ?_
            refine St.in_r ?_
            refine St.then_r ?_
            refine St.ret4 Tryz.results13 rfl rfl rfl rfl ?_
            exact ⟨_, rfl, _, _, [], [], [], by rw [if_neg hno, if_neg hno], Own.nil _ _ _ _ _, Own.nil _ _ _ _ _, RowsO.nil _ _ _, fun h => absurd h hno, E⟩
          ·
            refine St.skip ?_
            refine St.in_n ?_
            refine St.then_n ?_
            refine St.go hK24 ?_
            clear hK24
            refine St.region ?_
            refine St.r (R.move rfl) rfl rfl ?_
            refine St.r (R.add rfl rfl (by omega) (by omega)) rfl rfl ?_
            refine St.r (R.assign rfl) rfl rfl ?_
            refine St.nil ?_
            refine St.weak [(0, _), (3, _), (8, _), (9, _), (10, _), (11, _), (12, _), (13, _), (16, _), (19, _)] ⟨rfl, rfl, rfl, rfl, rfl, rfl, rfl, rfl, rfl, rfl, trivial⟩ ?_
            refine St.then_n ?_
            refine St.round (k + 1, hs3, n2 + (ofL l (patA (vs.zip r) px)).length, .slice NA hs3.length NC) ⟨rfl, rfl, rfl, rfl, rfl, rfl, rfl, rfl, rfl, rfl, trivial⟩ ?_ ?_
            · try dsimp only
              rw [List.take_of_length_le (show (ofL l (patA (vs.zip r) px)).length ≤ m by omega)] at qN
              have hpn : ((rows.take (k + 1)).flatMap (nextRows l vs px)) = ((rows.take k).flatMap (nextRows l vs px)) ++ (ofL l (patA (vs.zip r) px)).map (rowOf vs r px) := take_flat hr
              have hql := qN.len
              rw [← hpn] at qN hql
              refine ⟨by omega, E, k3, k12, oV, oR, qR, zz, oF, oN, qN, zg, by omega, ?_⟩
              rw [hpn, List.length_append, List.length_map]; omega
            · try dsimp only
              omega
      ·
        rw [List.take_of_length_le (by omega)] at qN hp5 hn2
        have hzz3 := zz
        refine St.exit ?_
        refine St.then_x ?_
        refine St.then_x ?_
        refine St.in_x ?_
        refine St.then_n ?_
        refine St.go hK20 ?_
        clear hK20
        refine St.seq fun K49 hK49 => ?_
        refine St.region ?_
        refine St.r (R.move rfl) rfl rfl ?_
        refine St.r (R.move rfl) rfl rfl ?_
        have hVF2 := hVF
        refine St.append (enc := encStr) (fun _ => rfl) one_str Tryz.underlying23 info9 rfl rfl rfl rfl oV (oF.reads encStr_len) (by omega) (by omega) (by omega) rfl ?_
        intro v140 w140 a140 g140 at140
        replace E := Ext.then E g140 (by intro j hj hk; have := (oV.base hk).1; omega)
        replace k3 := k3.chg g140 (by intro hk; have := (oV.base hk).1; omega)
        replace k12 := k12.chg g140 (by intro hk; have := hVl0 _ hk; omega)
        replace oR := oR.chg g140 (fun k hk e => Own.apart oR oV (by decide) hk e)
        replace qR := qR.chg g140 (fun _ _ _ _ _ o _ hk e => Own.apart o oV (by decide) hk e)
        replace zz := Nat.le_trans zz (Chg.size g140)
        replace oF := oF.chg g140 (fun k hk e => by have := (oF.base hk).1; have := hVF k e; omega)
        replace oN := oN.chg g140 (fun k hk e => Own.apart oN oV (by decide) hk e)
        replace qN := qN.chg g140 (fun _ _ _ _ _ o _ hk e => Own.apart o oV (by decide) hk e)
        replace zg := Nat.le_trans zg (Chg.size g140)
        clear oV; have oV := a140; clear a140
        refine St.r (R.assign rfl) rfl rfl ?_
        refine St.nil ?_
        refine St.weak [(0, _), (3, _), (8, _), (10, _), (11, _), (13, _)] ⟨rfl, rfl, rfl, rfl, rfl, rfl, trivial⟩ ?_
        refine St.then_n ?_
        refine St.go hK49 ?_
        clear hK49
        refine St.region ?_
        refine St.r (R.move rfl) rfl rfl ?_
        refine St.r (R.assign rfl) rfl rfl ?_
        refine St.nil ?_
        refine St.weak [(0, _), (3, _), (8, _), (9, _), (10, _), (11, _)] ⟨rfl, rfl, rfl, rfl, rfl, rfl, trivial⟩ ?_
        refine St.in_n ?_
        refine St.then_n ?_
        refine St.go hK8 ?_
        clear hK8
        refine St.region ?_
        refine St.r (R.move rfl) rfl rfl ?_
        refine St.r (R.add rfl rfl (by omega) (by omega)) rfl rfl ?_
        refine St.r (R.assign rfl) rfl rfl ?_
        refine St.nil ?_
        refine St.weak [(0, _), (3, _), (8, _), (9, _), (10, _), (11, _)] ⟨rfl, rfl, rfl, rfl, rfl, rfl, trivial⟩ ?_
        refine St.then_n ?_
        refine St.round (i + 1, vs ++ freshL vs px, hs2, rows.flatMap (nextRows l vs px), n2, v140, nv) ⟨rfl, rfl, rfl, rfl, rfl, rfl, trivial⟩ ?_ ?_
        · try dsimp only
          have hst := hR.step px
          have hnl := hR.next_len px
          refine ⟨by omega, by rw [take_snoc hpx]; exact hst, by rw [take_snoc hpx]; exact allLe_snoc hA (by omega), ?_, by omega, by rw [List.length_append]; omega, E, k3, oV, oN.lower (by omega), qN, zz⟩
          rw [take_snoc hpx, looked_snoc, ← hnl, hn2, hn]
        · try dsimp only
          omega
  ·
    refine St.exit ?_
    refine St.then_x ?_
    refine St.then_x ?_
    refine St.in_x ?_
    refine St.then_n ?_
    refine St.go hK4 ?_
    clear hK4
    refine St.seq fun K50 hK50 => ?_
    refine St.region ?_
    refine St.r (R.move rfl) rfl rfl ?_
    refine St.r (R.move rfl) rfl rfl ?_
    refine St.r (R.move rfl) rfl rfl ?_
    refine St.r (R.assign rfl) rfl rfl ?_
    refine St.r (R.assign rfl) rfl rfl ?_
    refine St.r (R.assign rfl) rfl rfl ?_
    refine St.r (R.assign rfl) rfl rfl ?_
    refine St.nil ?_
    refine St.weak [(4, _), (5, _), (6, _), (7, _)] ⟨rfl, rfl, rfl, rfl, trivial⟩ ?_
    refine St.then_n ?_
    refine St.go hK50 ?_
    clear hK50
    refine St.ret ?_
    refine St.ret4 Tryz.results13 rfl rfl rfl rfl ?_
    have hfull : fullQ l q := by rw [List.take_of_length_le (by omega)] at hA; exact hA
    rw [List.take_of_length_le (by omega)] at hR hn
    exact ⟨_, rfl, _, _, vs, hs, rows, by rw [if_pos hfull, if_pos hfull, hn], oV.lower (by omega), oR.lower (by omega), ⟨qR.len, fun i x r hx hr => (qR.at' i x r hx hr).lower (by omega)⟩, fun _ => hR, E⟩

end Go.Proofs.YtjgcmpondbocfaaGreatDoor

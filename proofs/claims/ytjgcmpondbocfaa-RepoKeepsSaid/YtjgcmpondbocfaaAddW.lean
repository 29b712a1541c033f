/- What repo.Add, repo.Commit and repo.Commits come to, each walked once. Under the reading of the arguments. -/
import Derived.Test.YtjgcmpondbocfaaProg
import Derived.Test.YtjgcmpondbocfaaRepoW
namespace Go.Proofs.Ytjgcmpondbocfaa
open Go.RowKit 
theorem ent20 : Ent Try.prog 20 := Ent.of Try.func20 (by kernel_rfl) rfl
theorem ent38 : Ent Try.prog 38 := Ent.of Try.func38 (by kernel_rfl) rfl
theorem ent39 : Ent Try.prog 39 := Ent.of Try.func39 (by kernel_rfl) rfl
theorem ent40 : Ent Try.prog 40 := Ent.of Try.func40 (by kernel_rfl) rfl
theorem ent41 : Ent Try.prog 41 := Ent.of Try.func41 (by kernel_rfl) rfl
theorem ent42 : Ent Try.prog 42 := Ent.of Try.func42 (by kernel_rfl) rfl
theorem ent73 : Ent Try.prog 73 := Ent.of Try.func73 (by kernel_rfl) rfl
theorem ent74 : Ent Try.prog 74 := Ent.of Try.func74 (by kernel_rfl) rfl
theorem ent75 : Ent Try.prog 75 := Ent.of Try.func75 (by kernel_rfl) rfl
theorem ent76 : Ent Try.prog 76 := Ent.of Try.func76 (by kernel_rfl) rfl
theorem places25 : ∀ fs, Try.prog.underlying 25 = some (.struct fs) → Places Try.prog fs [(0, 1), (1, 1), (2, 1)] := by
  intro fs h
  rw [Try.underlying25] at h
  cases h
  intro w
  simp [go_sem, Try.sizeOf23, Try.sizeOf3, Try.sizeOf9]
theorem info25 : (Try.prog.info? 25).map (fun i => (i.zero, i.size, i.bytes)) = some (some (.agg #[.slice none 0 0, .int .i64 0, .string ⟨#[]⟩]), 3, 48) := by kernel_rfl
theorem info44 : (Try.prog.info? 44).map (fun i => (i.zero, i.size, i.bytes)) = some (some (.slice none 0 0), 1, 24) := by kernel_rfl

theorem codeL_size {p q : List Triple} (hp : IsSet p) (hq : IsSet q) : (codeL p q).size ≤ 40000 := by
  have h1 := putsB_len hp.ok hp.few
  have h2 := putsB_len hq.ok hq.few
  have : (codeL p q).size = (putsB p ++ putsB q).length := by
    unfold codeL
    show (putsB p ++ putsB q).toArray.size = _
    simp
  rw [this, List.length_append]; omega
theorem lay_ok {a b : List Triple} (ha : IsSet a) (hb : IsSet b) : layerErr (partL b a false) (partL a b false) = none := by
  have h1 : setErr (partL b a false) = none := setErr_iff.2 (hb.part a false)
  have h2 : setErr (partL a b false) = none := setErr_iff.2 (ha.part b false)
  have hr : rightErr [partL b a false, partL a b false] = none := by simp [rightErr, firstE, h1, h2]
  rw [layerErr, hr]
  simp only
  rw [part_apart]
  rfl

theorem com_Clone {xs : List RawC} {v : Value} (w0 : World) (hv : RSl (REnc encRawC) 3 w0 v xs) (hl : xs.length ≤ 1000000000) :
    Ret Try.prog 41 [v] w0 fun r w' => Own encRawC 3 w0.heap.size 25 w' r xs ∧ Ext w0 w' := by
  obtain ⟨A, c, rfl, hc1, hc2⟩ := hv.form
  have E : Ext w0 w0 := Ext.refl w0
  refine St.enter (N := 8) Try.func41 rfl Try.ntmps41 rfl ?_
  refine St.seq fun K0 hK0 => ?_
  refine St.region ?_
  refine St.r (R.assign rfl) rfl rfl ?_
  refine St.nil ?_
  refine St.weak [(0, _)] ⟨rfl, trivial⟩ ?_
  refine St.then_n ?_
  refine St.go hK0 ?_
  clear hK0
  refine St.seq fun K1 hK1 => ?_
  refine St.seq fun K2 hK2 => ?_
  refine St.region ?_
  refine St.r (R.move rfl) rfl rfl ?_
  refine St.r (R.eqNilSl Try.underlying22 rfl) rfl rfl ?_
  refine St.nil ?_
  refine St.weak [(0, _), (4, _)] ⟨rfl, rfl, trivial⟩ ?_
  refine St.then_n ?_
  refine St.go hK2 ?_
  clear hK2
  refine St.cond rfl (fun h4 => ?_) (fun h4 => ?_)
  ·
    have h0 : xs = [] := by
      rcases Nat.eq_zero_or_pos xs.length with h | h
      · exact List.eq_nil_of_length_eq_zero h
      · obtain ⟨b, o, c', heq, -⟩ := hv.at h
        cases heq
        simp at h4
    subst h0
    refine St.seq fun K3 hK3 => ?_
    refine St.region ?_
    refine St.r (R.assign rfl) rfl rfl ?_
    refine St.nil ?_
    refine St.weak [(2, _)] ⟨rfl, trivial⟩ ?_
    refine St.then_n ?_
    refine St.go hK3 ?_
    clear hK3
    refine St.ret ?_
    refine St.then_r ?_
    refine St.ret1 Try.results41 rfl ?_
    exact ⟨_, rfl, Own.nil _ _ _ _ _, E⟩
  ·
    refine St.skip ?_
    refine St.then_n ?_
    refine St.go hK1 ?_
    clear hK1
    refine St.seq fun K4 hK4 => ?_
    refine St.region ?_
    refine St.buildSl0 Try.underlying22 Try.sizeOf25 rfl ?_
    intro w5 b5 hb5 hs5 e5 k5
    have qE5 := E.size
    replace E := Ext.trans E e5
    refine St.r (R.move rfl) rfl rfl ?_
    refine St.append (enc := encRawC) (fun _ => rfl) one_rawc Try.underlying22 info25 rfl rfl rfl rfl (Own.empty (enc := encRawC) (size := 3) k5 (base := w0.heap.size) (by omega)) (hv.ext (REnc.firm _) E) (by simp; omega) (by simp; omega) (by omega) rfl ?_
    intro v7 w7 a7 g7 at7
    replace E := Ext.then E g7 (by intro j hj hk; have := ((Own.empty (enc := encRawC) (size := 3) k5 (base := w0.heap.size) (by omega)).base hk).1; omega)
    refine St.r (R.assign rfl) rfl rfl ?_
    refine St.nil ?_
    refine St.weak [(2, _)] ⟨rfl, trivial⟩ ?_
    refine St.then_n ?_
    refine St.go hK4 ?_
    clear hK4
    refine St.ret ?_
    refine St.ret1 Try.results41 rfl ?_
    exact ⟨_, rfl, a7, E⟩

theorem Commits_ret {r : Repo} {n : RNames} (hf : r.cs.length ≤ 60) (hpar : ∀ c ∈ r.cs, c.parents.length ≤ 1000000) (w0 : World) (h : RepoB rt w0 n r) : Ret Try.prog 15 [.pointer (some ⟨n.g, 0, none⟩)] w0 fun x w' => RCommits w' x r.cs ∧ Ext w0 w' := by
  obtain ⟨g, gs, bi, ba, bm, cv, gv, V⟩ := n
  obtain ⟨rc, rg, hoc, hog, hrc, hrg⟩ := h.rows
  have hrl := hrc.1
  have E : Ext w0 w0 := Ext.refl w0
  refine St.enter (N := 27) Try.func15 rfl Try.ntmps15 rfl ?_
  refine St.seq fun K0 hK0 => ?_
  refine St.region ?_
  refine St.r (R.assign rfl) rfl rfl ?_
  refine St.nil ?_
  refine St.weak [(0, _)] ⟨rfl, trivial⟩ ?_
  refine St.then_n ?_
  refine St.go hK0 ?_
  clear hK0
  refine St.seq fun K1 hK1 => ?_
  refine St.region ?_
  refine St.r (R.move rfl) rfl rfl ?_
  refine St.r (R.nilOk rfl) rfl rfl ?_
  refine St.r (R.fieldA Try.underlying87 rfl Try.sizeOf22 rfl rfl rfl) rfl rfl ?_
  refine St.r (R.load1 Try.isAgg22 rfl (h.blk.cells.at 1 rfl)) rfl rfl ?_
  refine St.call rfl rfl ent41 (com_Clone _ (hoc.reads encRawC_len) (by omega)) rfl ?_
  rintro r10 w10 ⟨o10, e10⟩
  replace E := Ext.trans E e10
  obtain ⟨A10, c10, rfl, -, -⟩ := o10.form
  refine St.r (R.assign rfl) rfl rfl ?_
  refine St.nil ?_
  refine St.weak [(3, _)] ⟨rfl, trivial⟩ ?_
  refine St.then_n ?_
  refine St.go hK1 ?_
  clear hK1
  refine St.seq fun K2 hK2 => ?_
  refine St.seq fun K3 hK3 => ?_
  refine St.region ?_
  refine St.r (R.move rfl) rfl rfl ?_
  refine St.r (R.lenSl Try.underlying22 rfl) rfl rfl ?_
  refine St.r (R.move rfl) rfl rfl ?_
  refine St.nil ?_
  refine St.weak [(3, _), (11, _), (12, _), (13, _)] ⟨rfl, rfl, rfl, rfl, trivial⟩ ?_
  refine St.then_n ?_
  refine St.go hK3 ?_
  clear hK3
  refine St.block ?_
  refine St.loop (fun (x : Nat × List RawC) => match x with | (k, ys) => [(3, .slice A10 rc.length c10), (11, .slice A10 rc.length c10), (12, .int .i64 (rc.length : Int)), (13, .int .i64 (k : Int))])
      (fun (x : Nat × List RawC) w => match x with | (k, ys) => k ≤ rc.length ∧ Ext w0 w ∧ Own encRawC 3 w0.heap.size 25 w (.slice A10 rc.length c10) ys ∧ RowsD w (.slice A10 rc.length c10) ys rc r.cs k)
      (fun (x : Nat × List RawC) => match x with | (k, ys) => rc.length - k) (0, rc) ⟨rfl, rfl, rfl, rfl, trivial⟩ ?_ ?_
  · exact ⟨Nat.zero_le _, E, o10, RowsD.start _ _ _ _⟩
  rintro ⟨k, ys⟩ w ⟨hk, E, o10, q0⟩
  show St _ _ [(3, .slice A10 rc.length c10), (11, .slice A10 rc.length c10), (12, .int .i64 (rc.length : Int)), (13, .int .i64 (k : Int))] _ _
  refine St.seq fun K4 hK4 => ?_
  refine St.region ?_
  refine St.r (R.lss rfl rfl) rfl rfl ?_
  refine St.nil ?_
  refine St.weak [(3, _), (11, _), (12, _), (13, _), (14, _)] ⟨rfl, rfl, rfl, rfl, rfl, trivial⟩ ?_
  refine St.then_n ?_
  refine St.go hK4 ?_
  clear hK4
  refine St.seq fun K5 hK5 => ?_
  refine St.condD rfl (fun h14 => ?_) (fun h14 => ?_)
  ·
    have hyl := q0.len
    obtain ⟨x, hxy⟩ := get_of_lt (xs := ys) (k := k) (by omega)
    have hx := q0.old k x (Nat.le_refl _) hxy
    obtain ⟨y, hy⟩ := get_of_lt (xs := r.cs) (k := k) (by omega)
    have hr := hrc.2 k x y hx hy
    obtain ⟨gb, c', sp, heq, hgb, kS, hc1, hcm, hlen⟩ := o10.blk (by omega)
    rw [hyl] at heq
    obtain ⟨rfl, -, rfl⟩ : A10 = some ⟨gb, 0, none⟩ ∧ True ∧ c10 = c' := by cases heq; exact ⟨rfl, trivial, rfl⟩
    have hgl := kS.lt
    have EW := Ext.refl w
    refine St.skip ?_
    refine St.then_n ?_
    refine St.go hK5 ?_
    clear hK5
    refine St.seq fun K6 hK6 => ?_
    refine St.block ?_
    refine St.seq fun K7 hK7 => ?_
    refine St.region ?_
    refine St.r (R.move rfl) rfl rfl ?_
    refine St.r (R.indexS k Try.underlying22 Try.sizeOf25 rfl rfl rfl (by omega)) rfl rfl ?_
    refine St.r (R.loadA Try.isAgg25 Try.sizeOf25 rfl (kS.elem encRawC_len hxy) rfl) rfl rfl ?_
    refine St.alloc Try.zeroValue25 rfl ?_
    intro w5 b5 hb5 hs5 e5 k5
    have qE5 := E.size
    have qEW5 := EW.size
    replace E := Ext.trans E e5
    replace EW := Ext.trans EW e5
    replace o10 := o10.ext e5
    replace kS := kS.ext e5
    refine St.r (R.assign rfl) rfl rfl ?_
    refine St.store Try.sizeOf25 rfl rfl k5 rfl (by simp [Value.cells, encRawC]) (one_rawc x) ?_
    intro ws0 ks0 gs0 zs0
    replace E := Ext.then E gs0 (by intro j hj; omega)
    replace EW := Ext.then EW gs0 (by intro j hj; omega)
    replace o10 := o10.chg gs0 (fun k hk h => by injection hk with hk; dsimp only at hk; omega)
    replace kS := kS.chg gs0 (by omega)
    clear k5; have k5 := ks0; clear ks0
    replace k5 : Blk ws0 b5 25 (encRawC x) := k5
    refine St.nil ?_
    refine St.weak [(3, _), (4, _), (5, _), (11, _), (12, _), (13, _)] ⟨rfl, rfl, rfl, rfl, rfl, rfl, trivial⟩ ?_
    refine St.then_n ?_
    refine St.go hK7 ?_
    clear hK7
    refine St.region ?_
    refine St.r (R.move rfl) rfl rfl ?_
    refine St.r (R.move rfl) rfl rfl ?_
    refine St.r (R.fieldA Try.underlying25 rfl Try.sizeOf23 rfl rfl rfl) rfl rfl ?_
    refine St.r (R.load1 Try.isAgg23 rfl (k5.cells.at 0 rfl)) rfl rfl ?_
    refine St.call rfl rfl ent42 (int_Clone _ (hr.2.2.1.ext (REnc.firm _) E) (by have := hpar y (List.mem_of_getElem? hy); omega)) rfl ?_
    rintro r22 w22 ⟨o22, e22⟩
    replace E := Ext.trans E e22
    replace EW := Ext.trans EW e22
    replace o10 := o10.ext e22
    replace kS := kS.ext e22
    replace k5 := k5.ext e22
    obtain ⟨A22, c22, rfl, -, -⟩ := o22.form
    have q1 := q0.ext EW
    refine St.r (R.indexS k Try.underlying22 Try.sizeOf25 rfl rfl rfl (by omega)) rfl rfl ?_
    refine St.r (R.fieldA Try.underlying25 rfl Try.sizeOf23 rfl rfl rfl) rfl rfl ?_
    refine St.store Try.sizeOf23 rfl rfl kS rfl (by simp only [List.length_append, flat_length encRawC_len]; simp [Value.cells]; omega) (by simp [Value.cells, Value.oneCell']) ?_
    intro ws1 ks1 gs1 zs1
    replace E := Ext.then E gs1 (by intro j hj; omega)
    replace o22 := o22.chg gs1 (fun k hk e => by have := (o22.base hk).1; have := EW.size; omega)
    clear kS; have kS := ks1; clear ks1
    have kT := kS
    replace q1 := q1.chg gs1 fun b e => by subst e; rfl
    refine St.nil ?_
    refine St.weak [(3, _), (11, _), (12, _), (13, _)] ⟨rfl, rfl, rfl, rfl, trivial⟩ ?_
    refine St.in_n ?_
    refine St.then_n ?_
    refine St.go hK6 ?_
    clear hK6
    refine St.region ?_
    refine St.r (R.add rfl rfl (by omega) (by omega)) rfl rfl ?_
    refine St.r (R.move rfl) rfl rfl ?_
    refine St.nil ?_
    refine St.weak [(3, _), (11, _), (12, _), (13, _)] ⟨rfl, rfl, rfl, rfl, trivial⟩ ?_
    refine St.then_n ?_
    refine St.round (k + 1, ys.set k ⟨⟨A22, y.parents.length, c22⟩, x.layer, x.msg⟩) ⟨rfl, rfl, rfl, rfl, trivial⟩ ?_ ?_
    · try dsimp only
      refine ⟨by omega, E, ?_, q1.step (by omega) hy hr.1 hr.2.1 (o22.reads encInt_len) fun _ b hb hb2 => ?_⟩
      · have e1 : (ys.flatMap encRawC ++ sp)[k * 3 + 1]? = some (.int .i64 x.layer) := by rw [List.getElem?_append_left (lt_of_get (flat_get encRawC_len hxy (i := 1) rfl))]; exact flat_get encRawC_len hxy (i := 1) rfl
        have e2 : (ys.flatMap encRawC ++ sp)[k * 3 + 2]? = some (.string x.msg) := by rw [List.getElem?_append_left (lt_of_get (flat_get encRawC_len hxy (i := 2) rfl))]; exact flat_get encRawC_len hxy (i := 2) rfl
        have hb := kT
        replace hb : Blk ws1 gb 25 (splice (ys.flatMap encRawC ++ sp) (k * 3) [.slice A22 y.parents.length c22]) := by rw [show k * 3 = 0 + k * 3 + 0 by omega]; exact hb
        rw [splice_head e1 e2] at hb
        have e3 := splice_flat encRawC_len (sp := sp) (x := (⟨⟨A22, y.parents.length, c22⟩, x.layer, x.msg⟩ : RawC)) (show k < ys.length by omega)
        rw [show encRawC ⟨⟨A22, y.parents.length, c22⟩, x.layer, x.msg⟩ = [.slice A22 y.parents.length c22, .int .i64 x.layer, .string x.msg] from rfl] at e3
        rw [e3] at hb
        have := Own.of_blk (base := w0.heap.size) encRawC_len hb hgb (by rw [List.length_set]; omega) hcm (by rw [← hlen]; simp only [List.length_append, flat_length encRawC_len, List.length_set])
        rw [List.length_set, hyl] at this
        exact this
      · have := (o22.base hb).1
        injection hb2 with hb2
        dsimp only at hb2
        have := kS.lt
        omega
    · try dsimp only
      omega
  ·
    refine St.exit ?_
    refine St.then_x ?_
    refine St.then_x ?_
    refine St.in_x ?_
    refine St.then_n ?_
    refine St.go hK2 ?_
    clear hK2
    refine St.seq fun K8 hK8 => ?_
    refine St.region ?_
    refine St.r (R.move rfl) rfl rfl ?_
    refine St.r (R.assign rfl) rfl rfl ?_
    refine St.nil ?_
    refine St.weak [(2, _)] ⟨rfl, trivial⟩ ?_
    refine St.then_n ?_
    refine St.go hK8 ?_
    clear hK8
    refine St.ret ?_
    refine St.ret1 Try.results15 rfl ?_
    have hyl := q0.len
    obtain rfl : k = ys.length := by omega
    exact ⟨_, rfl, RSl.raw (by have := o10.reads encRawC_len; exact this) q0 (by omega), E⟩

set_option maxRecDepth 100000 in
theorem Add_ret {r : Repo} {n : RNames} {ps : List Int} {ts : List Triple} {m : ByteArray} {pv tv : Value} (hok : r.Ok) (hts : IsSet ts) (hp2 : ps.length ≤ 2) (hps : ∀ p ∈ ps, 0 ≤ p ∧ p < (r.cs.length : Int)) (w0 : World) (h : RepoB rt w0 n r)
    (hpv : RInts w0 pv ps) (hpu : 0 < ps.length → ∀ k, pv.ownBlock = some k → ¬ n.U k) (htv : RTriples w0 tv ts) (htu : 0 < ts.length → ∀ k, tv.ownBlock = some k → ¬ n.U k) :
    Ret Try.prog 40 [.pointer (some ⟨n.g, 0, none⟩), pv, tv, .string m] w0 fun x w' => ∃ n', x = .tuple #[.int .i64 (addR codeL r ps ts m).1, errV 91 (addR codeL r ps ts m).2.1] ∧ RepoB rt w' n' (addR codeL r ps ts m).2.2 ∧ n.Grow w0 n' ∧ Chg n.U w0 w' := by
  obtain ⟨g, gs, bi, ba, bm, cv, gv, V⟩ := n
  obtain ⟨rc, rg, hoc, hog, hrc, hrg⟩ := h.rows
  obtain ⟨CA, CC, hcf, -, -⟩ := hoc.form
  obtain ⟨GA, GC, hgf, -, -⟩ := hog.form
  dsimp only at hcf hgf
  subst hcf hgf
  obtain ⟨PA, PC, rfl, -, -⟩ := hpv.form
  obtain ⟨TA, TC, rfl, -, -⟩ := htv.form
  have hrl := hrc.1
  have hgl := hrg.1
  have hsame := hok.same
  have h60 := hok.few
  have hbs := hok.base ps
  have hbl := hbs.few
  have htl := hts.few
  have E : Ext w0 w0 := Ext.refl w0
  refine St.enter (N := 121) Try.func40 rfl Try.ntmps40 rfl ?_
  refine St.seq fun K0 hK0 => ?_
  refine St.region ?_
  refine St.r (R.assign rfl) rfl rfl ?_
  refine St.r (R.assign rfl) rfl rfl ?_
  refine St.nil ?_
  refine St.weak [(0, _), (1, _), (2, _), (3, _)] ⟨rfl, rfl, rfl, rfl, trivial⟩ ?_
  refine St.then_n ?_
  refine St.go hK0 ?_
  clear hK0
  refine St.seq fun K1 hK1 => ?_
  refine St.seq fun K2 hK2 => ?_
  refine St.region ?_
  refine St.r (R.move rfl) rfl rfl ?_
  refine St.r (R.nilOk rfl) rfl rfl ?_
  refine St.r (R.fieldA Try.underlying87 rfl Try.sizeOf22 rfl rfl rfl) rfl rfl ?_
  refine St.r (R.load1 Try.isAgg22 rfl ((h.ext E).blk.cells.at 1 rfl)) rfl rfl ?_
  refine St.r (R.lenSl Try.underlying22 rfl) rfl rfl ?_
  refine St.r (R.move rfl) rfl rfl ?_
  refine St.nil ?_
  refine St.weak [(0, _), (1, _), (2, _), (3, _), (19, _), (20, _), (21, _)] ⟨rfl, rfl, rfl, rfl, rfl, rfl, rfl, trivial⟩ ?_
  refine St.then_n ?_
  refine St.go hK2 ?_
  clear hK2
  refine St.block ?_
  refine St.loop (fun (k : Nat) => [(0, .pointer (some ⟨g, 0, none⟩)), (1, .slice PA ps.length PC), (2, .slice TA ts.length TC), (3, .string m), (19, .slice CA rc.length CC), (20, .int .i64 (rc.length : Int)), (21, .int .i64 (k : Int))])
      (fun (k : Nat) w => k ≤ rc.length ∧ Ext w0 w ∧ ∀ z ∈ (r.cs.zip r.gs).take k, likeP ps ts m z = false)
      (fun (k : Nat) => rc.length - k) 0 ⟨rfl, rfl, rfl, rfl, rfl, rfl, rfl, trivial⟩ ?_ ?_
  · exact ⟨Nat.zero_le _, E, by simp⟩
  rintro k w ⟨hk, E, hall⟩
  show St _ _ [(0, .pointer (some ⟨g, 0, none⟩)), (1, .slice PA ps.length PC), (2, .slice TA ts.length TC), (3, .string m), (19, .slice CA rc.length CC), (20, .int .i64 (rc.length : Int)), (21, .int .i64 (k : Int))] _ _
  refine St.seq fun K3 hK3 => ?_
  refine St.region ?_
  refine St.r (R.lss rfl rfl) rfl rfl ?_
  refine St.nil ?_
  refine St.weak [(0, _), (1, _), (2, _), (3, _), (19, _), (20, _), (21, _), (22, _)] ⟨rfl, rfl, rfl, rfl, rfl, rfl, rfl, rfl, trivial⟩ ?_
  refine St.then_n ?_
  refine St.go hK3 ?_
  clear hK3
  refine St.seq fun K4 hK4 => ?_
  refine St.condD rfl (fun h22 => ?_) (fun h22 => ?_)
  ·
    obtain ⟨x, hx⟩ := get_of_lt (xs := rc) (k := k) (by omega)
    obtain ⟨y, hy⟩ := get_of_lt (xs := r.cs) (k := k) (by omega)
    obtain ⟨z, hz⟩ := get_of_lt (xs := r.gs) (k := k) (by omega)
    obtain ⟨xg, hxg⟩ := get_of_lt (xs := rg) (k := k) (by omega)
    obtain ⟨xb, xo, rfl, hxc⟩ := (hoc.reads encRawC_len).get' hx
    obtain ⟨yb, yo, rfl, hyc⟩ := (hog.reads encHd_len).get' hxg
    have hr := hrc.2 k x y hx hy
    have hg := hrg.2 k xg z hxg hz
    have hzip := zip_get hy hz
    refine St.skip ?_
    refine St.then_n ?_
    refine St.go hK4 ?_
    clear hK4
    refine St.seq fun K5 hK5 => ?_
    refine St.block ?_
    refine St.seq fun K6 hK6 => ?_
    refine St.region ?_
    refine St.r (R.move rfl) rfl rfl ?_
    refine St.r (R.indexS k Try.underlying22 Try.sizeOf25 rfl rfl rfl (by omega)) rfl rfl ?_
    refine St.r (R.loadA Try.isAgg25 Try.sizeOf25 rfl (E.cells hxc) rfl) rfl rfl ?_
    refine St.alloc Try.zeroValue25 rfl ?_
    intro w11 b11 hb11 hs11 e11 k11
    have qE11 := E.size
    replace E := Ext.trans E e11
    refine St.r (R.assign rfl) rfl rfl ?_
    refine St.store Try.sizeOf25 rfl rfl k11 rfl (by simp [Value.cells, encRawC]) (one_rawc x) ?_
    intro ws0 ks0 gs0 zs0
    replace E := Ext.then E gs0 (by intro j hj; omega)
    clear k11; have k11 := ks0; clear ks0
    replace k11 : Blk ws0 b11 25 (encRawC x) := k11
    refine St.nil ?_
    refine St.weak [(0, _), (1, _), (2, _), (3, _), (10, _), (11, _), (19, _), (20, _), (21, _)] ⟨rfl, rfl, rfl, rfl, rfl, rfl, rfl, rfl, rfl, trivial⟩ ?_
    refine St.then_n ?_
    refine St.go hK6 ?_
    clear hK6
    refine St.seq fun K7 hK7 => ?_
    by_cases h29 : x.msg = m
    ·
      by_cases h34 : y.parents = ps
      ·
        refine St.region ?_
        refine St.r (R.fieldA Try.underlying25 rfl Try.sizeOf9 rfl rfl rfl) rfl rfl ?_
        refine St.r (R.load1 Try.isAgg9 rfl (k11.cells.at 2 rfl)) rfl rfl ?_
        refine St.r (R.move rfl) rfl rfl ?_
        refine St.r (Runs.lit (c := true) (R.eqS rfl rfl) (decide_eq_true h29)) rfl rfl ?_
        refine St.r (R.move rfl) rfl rfl ?_
        refine St.take (dg := 30) rfl rfl ?_ rfl
        refine St.r (R.fieldA Try.underlying25 rfl Try.sizeOf23 rfl rfl rfl) rfl rfl ?_
        refine St.take (dg := 30) rfl rfl ?_ rfl
        refine St.r (R.load1 Try.isAgg23 rfl (k11.cells.at 0 rfl)) rfl rfl ?_
        refine St.take (dg := 30) rfl rfl ?_ rfl
        refine St.r (R.move rfl) rfl rfl ?_
        refine St.take (dg := 30) rfl rfl ?_ rfl
        refine St.call rfl rfl ent73 (int_Equal _ (hr.2.2.1.ext (REnc.firm _) E) (hpv.ext (REnc.firm _) E)) rfl ?_
        rintro r34 w34 ⟨rfl, e34⟩
        replace E := Ext.trans E e34
        replace k11 := k11.ext e34
        refine St.r (R.pickT rfl rfl) rfl rfl ?_
        refine St.r (Runs.lit (c := true) (R.move rfl) (decide_eq_true h34)) rfl rfl ?_
        refine St.take (dg := 36) rfl rfl ?_ rfl
        refine St.r (R.move rfl) rfl rfl ?_
        refine St.take (dg := 36) rfl rfl ?_ rfl
        refine St.r (R.nilOk rfl) rfl rfl ?_
        refine St.take (dg := 36) rfl rfl ?_ rfl
        refine St.r (R.fieldA Try.underlying87 rfl Try.sizeOf36 rfl rfl rfl) rfl rfl ?_
        refine St.take (dg := 36) rfl rfl ?_ rfl
        refine St.r (R.load1 Try.isAgg36 rfl ((h.ext E).blk.cells.at 2 rfl)) rfl rfl ?_
        refine St.take (dg := 36) rfl rfl ?_ rfl
        refine St.r (R.move rfl) rfl rfl ?_
        refine St.take (dg := 36) rfl rfl ?_ rfl
        refine St.r (R.indexS k Try.underlying36 Try.sizeOf44 rfl rfl rfl (by omega)) rfl rfl ?_
        refine St.take (dg := 36) rfl rfl ?_ rfl
        refine St.r (R.load1 Try.isAgg44 rfl ((E.cells hyc).at 0 rfl)) rfl rfl ?_
        refine St.take (dg := 36) rfl rfl ?_ rfl
        refine St.r (R.move rfl) rfl rfl ?_
        refine St.take (dg := 36) rfl rfl ?_ rfl
        refine St.call rfl rfl ent74 (tri_Equal _ (hg.1.ext (REnc.firm _) E) (htv.ext (REnc.firm _) E)) rfl ?_
        rintro r45 w45 ⟨rfl, e45⟩
        replace E := Ext.trans E e45
        replace k11 := k11.ext e45
        refine St.r (R.pickT rfl rfl) rfl rfl ?_
        refine St.nil ?_
        refine St.weak [(0, _), (1, _), (2, _), (3, _), (10, _), (19, _), (20, _), (21, _), (46, _)] ⟨rfl, rfl, rfl, rfl, rfl, rfl, rfl, rfl, rfl, trivial⟩ ?_
        refine St.then_n ?_
        refine St.go hK7 ?_
        clear hK7
        refine St.cond rfl (fun h46 => ?_) (fun h46 => ?_)
        ·
          refine St.seq fun K8 hK8 => ?_
          refine St.region ?_
          refine St.r (R.move rfl) rfl rfl ?_
          refine St.r (R.assign rfl) rfl rfl ?_
          refine St.r (R.assign rfl) rfl rfl ?_
          refine St.nil ?_
          refine St.weak [(8, _), (9, _)] ⟨rfl, rfl, trivial⟩ ?_
          refine St.then_n ?_
          refine St.go hK8 ?_
          clear hK8
          refine St.ret ?_
          refine St.in_r ?_
          refine St.then_r ?_
          refine St.then_r ?_
          refine St.in_r ?_
          refine St.then_r ?_
          refine St.ret2 Try.results40 rfl rfl ?_
          have hp : likeP ps ts m (y, z) = true := by simp [likeP, ← hr.2.1, h29, h34, (by simpa using h46 : z = ts)]
          have hi := idxOf_found hzip hp hall
          have hadd : addR codeL r ps ts m = ((k : Int), none, r) := by rw [addR, hi, if_pos (by omega)]
          exact ⟨_, rfl, ⟨g, gs, bi, ba, bm, _, _, V⟩, by rw [hadd]; rfl, by rw [hadd]; exact h.ext E, RNames.Grow.refl _ _, Chg.mono E fun _ _ h => h.elim⟩
        ·
          refine St.skip ?_
          refine St.in_n ?_
          refine St.then_n ?_
          refine St.go hK5 ?_
          clear hK5
          refine St.region ?_
          refine St.r (R.add rfl rfl (by omega) (by omega)) rfl rfl ?_
          refine St.r (R.move rfl) rfl rfl ?_
          refine St.nil ?_
          refine St.weak [(0, _), (1, _), (2, _), (3, _), (19, _), (20, _), (21, _)] ⟨rfl, rfl, rfl, rfl, rfl, rfl, rfl, trivial⟩ ?_
          refine St.then_n ?_
          refine St.round (k + 1) ⟨rfl, rfl, rfl, rfl, rfl, rfl, rfl, trivial⟩ ?_ ?_
          · exact ⟨by omega, E, take_step hall hzip (by simp [likeP, ← hr.2.1, h29, h34, (by simpa using h46 : ¬ z = ts)])⟩
          · omega
      ·
        refine St.region ?_
        refine St.r (R.fieldA Try.underlying25 rfl Try.sizeOf9 rfl rfl rfl) rfl rfl ?_
        refine St.r (R.load1 Try.isAgg9 rfl (k11.cells.at 2 rfl)) rfl rfl ?_
        refine St.r (R.move rfl) rfl rfl ?_
        refine St.r (Runs.lit (c := true) (R.eqS rfl rfl) (decide_eq_true h29)) rfl rfl ?_
        refine St.r (R.move rfl) rfl rfl ?_
        refine St.take (dg := 30) rfl rfl ?_ rfl
        refine St.r (R.fieldA Try.underlying25 rfl Try.sizeOf23 rfl rfl rfl) rfl rfl ?_
        refine St.take (dg := 30) rfl rfl ?_ rfl
        refine St.r (R.load1 Try.isAgg23 rfl (k11.cells.at 0 rfl)) rfl rfl ?_
        refine St.take (dg := 30) rfl rfl ?_ rfl
        refine St.r (R.move rfl) rfl rfl ?_
        refine St.take (dg := 30) rfl rfl ?_ rfl
        refine St.call rfl rfl ent73 (int_Equal _ (hr.2.2.1.ext (REnc.firm _) E) (hpv.ext (REnc.firm _) E)) rfl ?_
        rintro r34 w34 ⟨rfl, e34⟩
        replace E := Ext.trans E e34
        replace k11 := k11.ext e34
        refine St.r (R.pickT rfl rfl) rfl rfl ?_
        refine St.r (Runs.lit (c := false) (R.move rfl) (decide_eq_false h34)) rfl rfl ?_
        refine St.pass (dg := 36) rfl rfl rfl rfl rfl ?_
        refine St.pass (dg := 36) rfl rfl rfl rfl rfl ?_
        refine St.pass (dg := 36) rfl rfl rfl rfl rfl ?_
        refine St.pass (dg := 36) rfl rfl rfl rfl rfl ?_
        refine St.pass (dg := 36) rfl rfl rfl rfl rfl ?_
        refine St.pass (dg := 36) rfl rfl rfl rfl rfl ?_
        refine St.pass (dg := 36) rfl rfl rfl rfl rfl ?_
        refine St.pass (dg := 36) rfl rfl rfl rfl rfl ?_
        refine St.pass (dg := 36) rfl rfl rfl rfl rfl ?_
        refine St.r (R.pickF rfl rfl) rfl rfl ?_
        refine St.nil ?_
        refine St.weak [(0, _), (1, _), (2, _), (3, _), (10, _), (19, _), (20, _), (21, _), (46, _)] ⟨rfl, rfl, rfl, rfl, rfl, rfl, rfl, rfl, rfl, trivial⟩ ?_
        refine St.then_n ?_
        refine St.go hK7 ?_
        clear hK7
        refine St.condF rfl ?_
        refine St.skip ?_
        refine St.in_n ?_
        refine St.then_n ?_
        refine St.go hK5 ?_
        clear hK5
        refine St.region ?_
        refine St.r (R.add rfl rfl (by omega) (by omega)) rfl rfl ?_
        refine St.r (R.move rfl) rfl rfl ?_
        refine St.nil ?_
        refine St.weak [(0, _), (1, _), (2, _), (3, _), (19, _), (20, _), (21, _)] ⟨rfl, rfl, rfl, rfl, rfl, rfl, rfl, trivial⟩ ?_
        refine St.then_n ?_
        refine St.round (k + 1) ⟨rfl, rfl, rfl, rfl, rfl, rfl, rfl, trivial⟩ ?_ ?_
        · exact ⟨by omega, E, take_step hall hzip (by simp [likeP, ← hr.2.1, h29, h34])⟩
        · omega
    ·
      refine St.region ?_
      refine St.r (R.fieldA Try.underlying25 rfl Try.sizeOf9 rfl rfl rfl) rfl rfl ?_
      refine St.r (R.load1 Try.isAgg9 rfl (k11.cells.at 2 rfl)) rfl rfl ?_
      refine St.r (R.move rfl) rfl rfl ?_
      refine St.r (Runs.lit (c := false) (R.eqS rfl rfl) (decide_eq_false h29)) rfl rfl ?_
      refine St.r (R.move rfl) rfl rfl ?_
      refine St.pass (dg := 30) rfl rfl rfl rfl rfl ?_
      refine St.pass (dg := 30) rfl rfl rfl rfl rfl ?_
      refine St.pass (dg := 30) rfl rfl rfl rfl rfl ?_
      refine St.pass (dg := 30) rfl rfl rfl rfl rfl ?_
      refine St.r (R.pickF rfl rfl) rfl rfl ?_
      refine St.r (R.move rfl) rfl rfl ?_
      refine St.pass (dg := 36) rfl rfl rfl rfl rfl ?_
      refine St.pass (dg := 36) rfl rfl rfl rfl rfl ?_
      refine St.pass (dg := 36) rfl rfl rfl rfl rfl ?_
      refine St.pass (dg := 36) rfl rfl rfl rfl rfl ?_
      refine St.pass (dg := 36) rfl rfl rfl rfl rfl ?_
      refine St.pass (dg := 36) rfl rfl rfl rfl rfl ?_
      refine St.pass (dg := 36) rfl rfl rfl rfl rfl ?_
      refine St.pass (dg := 36) rfl rfl rfl rfl rfl ?_
      refine St.pass (dg := 36) rfl rfl rfl rfl rfl ?_
      refine St.r (R.pickF rfl rfl) rfl rfl ?_
      refine St.nil ?_
      refine St.weak [(0, _), (1, _), (2, _), (3, _), (10, _), (19, _), (20, _), (21, _), (46, _)] ⟨rfl, rfl, rfl, rfl, rfl, rfl, rfl, rfl, rfl, trivial⟩ ?_
      refine St.then_n ?_
      refine St.go hK7 ?_
      clear hK7
      refine St.condF rfl ?_
      refine St.skip ?_
      refine St.in_n ?_
      refine St.then_n ?_
      refine St.go hK5 ?_
      clear hK5
      refine St.region ?_
      refine St.r (R.add rfl rfl (by omega) (by omega)) rfl rfl ?_
      refine St.r (R.move rfl) rfl rfl ?_
      refine St.nil ?_
      refine St.weak [(0, _), (1, _), (2, _), (3, _), (19, _), (20, _), (21, _)] ⟨rfl, rfl, rfl, rfl, rfl, rfl, rfl, trivial⟩ ?_
      refine St.then_n ?_
      refine St.round (k + 1) ⟨rfl, rfl, rfl, rfl, rfl, rfl, rfl, trivial⟩ ?_ ?_
      · exact ⟨by omega, E, take_step hall hzip (by simp [likeP, ← hr.2.1, h29])⟩
      · omega
  ·
    have hidx : idxOf (likeP ps ts m) (r.cs.zip r.gs) = -1 := idxOf_none (fun z hz => hall z (by rw [List.take_of_length_le (by rw [List.length_zip]; omega)]; exact hz))
    refine St.exit ?_
    refine St.then_x ?_
    refine St.then_x ?_
    refine St.in_x ?_
    refine St.then_n ?_
    refine St.go hK1 ?_
    clear hK1
    refine St.seq fun K9 hK9 => ?_
    refine St.seq fun K10 hK10 => ?_
    refine St.region ?_
    refine St.r (R.move rfl) rfl rfl ?_
    refine St.r (R.nilOk rfl) rfl rfl ?_
    refine St.r (R.fieldA Try.underlying87 rfl Try.sizeOf22 rfl rfl rfl) rfl rfl ?_
    refine St.r (R.load1 Try.isAgg22 rfl ((h.ext E).blk.cells.at 1 rfl)) rfl rfl ?_
    refine St.r (R.lenSl Try.underlying22 rfl) rfl rfl ?_
    refine St.r (R.geq rfl rfl) rfl rfl ?_
    refine St.nil ?_
    refine St.weak [(0, _), (1, _), (2, _), (3, _), (54, _)] ⟨rfl, rfl, rfl, rfl, rfl, trivial⟩ ?_
    refine St.then_n ?_
    refine St.go hK10 ?_
    clear hK10
    refine St.condD rfl (fun h54 => ?_) (fun h54 => ?_)
    ·
      refine St.seq fun K11 hK11 => ?_
      refine St.region ?_
      refine St.r (R.iface Try.underlying91 rfl rfl) rfl rfl ?_
      refine St.r (R.assign rfl) rfl rfl ?_
      refine St.r (R.assign rfl) rfl rfl ?_
      refine St.nil ?_
      refine St.weak [(8, _), (9, _)] ⟨rfl, rfl, trivial⟩ ?_
      refine St.then_n ?_
      refine St.go hK11 ?_
      clear hK11
      refine St.ret ?_
      refine St.then_r ?_
      refine St.ret2 Try.results40 rfl rfl ?_
      have hadd : addR codeL r ps ts m = (0, some 4, r) := by rw [addR, hidx, if_neg (by omega), if_pos (by omega)]
      exact ⟨_, rfl, ⟨g, gs, bi, ba, bm, _, _, V⟩, by rw [hadd]; rfl, by rw [hadd]; exact h.ext E, RNames.Grow.refl _ _, Chg.mono E fun _ _ h => h.elim⟩
    ·
      refine St.skip ?_
      refine St.then_n ?_
      refine St.go hK9 ?_
      clear hK9
      refine St.seq fun K12 hK12 => ?_
      refine St.region ?_
      refine St.r (R.assign rfl) rfl rfl ?_
      refine St.nil ?_
      refine St.weak [(0, _), (1, _), (2, _), (3, _), (12, _)] ⟨rfl, rfl, rfl, rfl, rfl, trivial⟩ ?_
      refine St.then_n ?_
      refine St.go hK12 ?_
      clear hK12
      refine St.seqJ (fun (bv : Value) => [(0, .pointer (some ⟨g, 0, none⟩)), (1, .slice PA ps.length PC), (2, .slice TA ts.length TC), (3, .string m), (12, bv)])
          (fun (bv : Value) w => Ext w0 w ∧ RTriples w bv (baseR r ps)) ?_ ?_
      · rintro bv w ⟨E, hbv⟩
        show St _ _ [(0, .pointer (some ⟨g, 0, none⟩)), (1, .slice PA ps.length PC), (2, .slice TA ts.length TC), (3, .string m), (12, bv)] _ _
        refine St.seq fun K14 hK14 => ?_
        refine St.region ?_
        refine St.r (R.move rfl) rfl rfl ?_
        refine St.r (R.move rfl) rfl rfl ?_
        refine St.call rfl rfl ent76 (layerOf_ret _ hbv (htv.ext (REnc.firm _) E) (by omega) (by omega) hbs.rises hts.rises) rfl ?_
        rintro r71 w71 ⟨p, q, rfl, op, oq, e71⟩
        replace E := Ext.trans E e71
        obtain ⟨PA1, PC1, rfl, -, -⟩ := op.form
        obtain ⟨QA1, QC1, rfl, -, -⟩ := oq.form
        have hlay := lay_ok hbs hts
        have hcs := codeL_size (hts.part (baseR r ps) false) (hbs.part ts false)
        refine St.call rfl rfl ent75 (codeLayer_ret _ (op.reads encTriple_len) (oq.reads encTriple_len)) rfl ?_
        rintro r72 w72 ⟨hr72, e72⟩
        replace E := Ext.trans E e72
        rw [hlay, if_pos rfl] at hr72
        subst hr72
        obtain ⟨cb, hcb⟩ : ∃ cb, cb = codeL (partL ts (baseR r ps) false) (partL (baseR r ps) ts false) := ⟨_, rfl⟩
        rw [← hcb] at hcs ⊢
        refine St.r (R.move rfl) rfl rfl ?_
        refine St.r (R.extract rfl rfl) rfl rfl ?_
        refine St.r (R.extract rfl rfl) rfl rfl ?_
        refine St.r (R.assign rfl) rfl rfl ?_
        refine St.r (R.assign rfl) rfl rfl ?_
        refine St.nil ?_
        refine St.weak [(0, _), (1, _), (2, _), (3, _), (13, _), (14, _)] ⟨rfl, rfl, rfl, rfl, rfl, rfl, trivial⟩ ?_
        refine St.then_n ?_
        refine St.go hK14 ?_
        clear hK14
        refine St.seq fun K15 hK15 => ?_
        refine St.seq fun K16 hK16 => ?_
        refine St.region ?_
        refine St.r (R.move rfl) rfl rfl ?_
        refine St.r (R.notNil (et := 91) (e := _) Try.underlying27 rfl) rfl rfl ?_
        refine St.nil ?_
        refine St.weak [(0, _), (1, _), (2, _), (3, _), (13, _), (14, _), (76, _)] ⟨rfl, rfl, rfl, rfl, rfl, rfl, rfl, trivial⟩ ?_
        refine St.then_n ?_
        refine St.go hK16 ?_
        clear hK16
        refine St.cond rfl (fun h76 => ?_) (fun h76 => ?_)
        ·
          exact absurd h76 (by simp)
        ·
          refine St.skip ?_
          refine St.then_n ?_
          refine St.go hK15 ?_
          clear hK15
          refine St.seq fun K17 hK17 => ?_
          refine St.region ?_
          refine St.r (R.move rfl) rfl rfl ?_
          refine St.r (R.nilOk rfl) rfl rfl ?_
          refine St.r (R.fieldA Try.underlying87 rfl Try.sizeOf50 rfl rfl rfl) rfl rfl ?_
          refine St.r (R.load1 Try.isAgg50 rfl ((h.ext E).blk.cells.at 0 rfl)) rfl rfl ?_
          refine St.r (R.move rfl) rfl rfl ?_
          refine St.call rfl rfl ent20 (Put_ret hok.st (by omega) _ (h.ext E).sto) rfl ?_
          rintro r84 w84 ⟨rfl, st, g84⟩
          have hr1 := (h.ext E).setSto st g84
          have C : Chg (RNames.U ⟨g, gs, bi, ba, bm, .slice CA rc.length CC, .slice GA rg.length GC, V⟩) w0 w84 := Chg.trans (Chg.mono E fun _ _ h => h.elim) (Chg.mono g84 fun k _ h => by rcases h with rfl | rfl | rfl; exact .inr (.inl rfl); exact .inr (.inr (.inl rfl)); exact .inr (.inr (.inr (.inl rfl))))
          clear h
          refine St.r (R.move rfl) rfl rfl ?_
          refine St.r (R.extract rfl rfl) rfl rfl ?_
          refine St.r (R.extract rfl rfl) rfl rfl ?_
          refine St.r (R.assign rfl) rfl rfl ?_
          refine St.r (R.assign rfl) rfl rfl ?_
          refine St.nil ?_
          refine St.weak [(0, _), (1, _), (2, _), (3, _), (14, _), (15, _)] ⟨rfl, rfl, rfl, rfl, rfl, rfl, trivial⟩ ?_
          refine St.then_n ?_
          refine St.go hK17 ?_
          clear hK17
          refine St.seq fun K18 hK18 => ?_
          refine St.seq fun K19 hK19 => ?_
          refine St.region ?_
          refine St.r (R.move rfl) rfl rfl ?_
          refine St.r (R.notNil (et := 91) (e := _) Try.underlying27 rfl) rfl rfl ?_
          refine St.nil ?_
          refine St.weak [(0, _), (1, _), (2, _), (3, _), (14, _), (15, _), (88, _)] ⟨rfl, rfl, rfl, rfl, rfl, rfl, rfl, trivial⟩ ?_
          refine St.then_n ?_
          refine St.go hK19 ?_
          clear hK19
          refine St.cond rfl (fun h88 => ?_) (fun h88 => ?_)
          ·
            refine St.seq fun K20 hK20 => ?_
            refine St.region ?_
            refine St.r (R.move rfl) rfl rfl ?_
            refine St.r (R.assign rfl) rfl rfl ?_
            refine St.r (R.assign rfl) rfl rfl ?_
            refine St.nil ?_
            refine St.weak [(8, _), (9, _)] ⟨rfl, rfl, trivial⟩ ?_
            refine St.then_n ?_
            refine St.go hK20 ?_
            clear hK20
            refine St.ret ?_
            refine St.then_r ?_
            refine St.ret2 Try.results40 rfl rfl ?_
            have hs := putS_some (s := r.st) (b := cb) (fun e => by rw [e] at h88; cases h88)
            have hadd : addR codeL r ps ts m = (0, (putS r.st cb).2.1, r) := by rw [addR, hidx, if_neg (by omega), if_neg (by omega), ← hcb, if_pos h88]
            refine ⟨_, rfl, ⟨g, gs, bi, ba, bm, _, _, V⟩, by rw [hadd], ?_, RNames.Grow.refl _ _, C⟩
            rw [hadd]
            rw [show (putS r.st cb).2.2 = r.st by rw [hs]] at hr1
            exact hr1
          ·
            have C88 := C
            have hlt : ∀ k, RNames.U ⟨g, gs, bi, ba, bm, .slice CA rc.length CC, .slice GA rg.length GC, V⟩ k → k < w84.heap.size := fun k hk => hr1.lt k (hr1.sub k hk)
            have hltg := hlt g (.inl rfl)
            have hltc : ∀ k, (Value.slice CA rc.length CC).ownBlock = some k → k < w84.heap.size := fun k hk => hlt k (.inr (.inr (.inr (.inr (.inr (.inl hk))))))
            obtain ⟨rc1, rg1, oc, og, hrc1, hrg1⟩ := hr1.rows
            have hl1 := hrc1.1
            dsimp only at hl1
            have k0 := hr1.blk
            have c1 : Chg (fun k => (Value.slice CA rc.length CC).ownBlock = some k) w84 w84 := Chg.refl _ _
            have z0 := Nat.le_refl w84.heap.size
            refine St.skip ?_
            refine St.then_n ?_
            refine St.go hK18 ?_
            clear hK18
            refine St.seq fun K21 hK21 => ?_
            refine St.weak [(0, _), (1, _), (2, _), (3, _), (15, _)] ⟨rfl, rfl, rfl, rfl, rfl, trivial⟩ ?_
            refine St.drawT (S := fun k => (Value.slice CA rc.length CC).ownBlock = some k ∨ k = g) (eff := [6, 10, 11, 14]) mixed rfl rfl rfl rfl ?_
            replace k0 := k0.ext (Ext.drew _)
            replace oc := oc.ext (Ext.drew _)
            replace c1 := Chg.then c1 (Ext.drew _) (fun _ _ h => h.elim)
            replace z0 := Nat.le_trans z0 (Chg.size (Ext.drew _))
            refine DrawT.quiet 0 rfl rfl (fun W eW => OpOk.r (R.move rfl) rfl) ?_
            refine DrawT.quiet 1 rfl rfl (fun W eW => OpOk.r (R.move rfl) rfl) ?_
            refine DrawT.quiet 2 rfl rfl (fun W eW => OpOk.r (R.nilOk rfl) rfl) ?_
            refine DrawT.quiet 3 rfl rfl (fun W eW => OpOk.r (R.fieldA Try.underlying87 rfl Try.sizeOf22 rfl rfl rfl) rfl) ?_
            have hp94 := (k0.cells.at 1 rfl)
            refine DrawT.pinL 4 rfl rfl Try.isAgg22 rfl hp94 ?_
            refine DrawT.quiet 5 rfl rfl (fun W eW => OpOk.r (R.move rfl) rfl) ?_
            refine DrawT.quiet 7 rfl rfl (fun W eW => OpOk.r (R.move rfl) rfl) ?_
            refine DrawT.quiet 8 rfl rfl (fun W eW => OpOk.r (R.move rfl) rfl) ?_
            refine DrawT.one (n := 6) [4] rfl rfl rfl (by kernel_rfl) (OpC.plain (Eff.call rfl rfl ent42 (int_Clone _ ((hpv.chg C88 hpu).ext (REnc.firm _) (Ext.drew _)) (by omega))) rfl) ?_ ?_
            · rintro r96 w96 ⟨o96, e96⟩
              refine ⟨?_, ⟨e96.cell hp94, trivial⟩⟩
              exact Chg.mono e96 fun _ _ h => h.elim
            rintro r96 w96 ⟨o96, e96⟩
            replace hp94 := e96.cell hp94
            replace k0 := k0.ext e96
            replace oc := oc.ext e96
            replace c1 := Chg.then c1 e96 (fun _ _ h => h.elim)
            replace z0 := Nat.le_trans z0 (Chg.size e96)
            obtain ⟨A96, c96, rfl, -, -⟩ := o96.form
            refine DrawT.quiet 9 rfl rfl (fun W eW => OpOk.r (R.build Try.underlying25 (places25 _ Try.underlying25) Try.zeroValue25 rfl rfl rfl) rfl) ?_
            refine DrawT.one (n := 10) [4] rfl rfl rfl (by kernel_rfl) (OpC.plain (Eff.buildSl Try.underlying22 Try.sizeOf25 Try.zeroValue25 rfl rfl rfl rfl (by intro u hu; simp only [List.mem_cons, List.not_mem_nil, or_false] at hu; first | (subst hu; rfl) | (rcases hu with rfl | rfl <;> rfl) | (rcases hu with rfl | rfl | rfl <;> rfl))) rfl) ?_ ?_
            · rintro _ _ ⟨_, _, _, _, e, _⟩
              refine ⟨?_, ⟨e.cell hp94, trivial⟩⟩
              exact Chg.mono e (fun _ _ h => h.elim)
            rintro _ w100 ⟨b100, rfl, hb100, hs100, e100, k100⟩
            replace hp94 := e100.cell hp94
            replace k0 := k0.ext e100
            replace oc := oc.ext e100
            replace c1 := Chg.then c1 e100 (fun _ _ h => h.elim)
            replace z0 := Nat.le_trans z0 (Chg.size e100)
            replace o96 := o96.ext e100
            have z100 := z0
            have o100 := o96
            refine DrawT.one (n := 11) [] rfl rfl rfl (by kernel_rfl) (OpC.plain (Eff.append (enc := encRawC) (fun _ => rfl) one_rawc Try.underlying22 info25 rfl rfl rfl rfl oc (RSl.mk (enc := encRawC) (xs := [⟨⟨A96, ps.length, c96⟩, (putS r.st cb).1, m⟩]) encRawC_len k100.cells (fun i u hu => hu) (by simp) (by simp)) (by simp; omega) (by simp; omega) (Nat.zero_le _)) rfl) ?_ ?_
            · rintro _ _ ⟨_, g, _⟩
              refine ⟨?_, trivial⟩
              exact Chg.mono g (fun k _ h => .inl h)
            rintro v101 w101 ⟨a101, g101, at101⟩
            replace k0 := k0.chg g101 (fun hk => (hr1.s3 _ hk).1 rfl)
            replace c1 := Chg.then c1 g101 (fun _ _ h => h)
            replace z0 := Nat.le_trans z0 (Chg.size g101)
            replace o96 := o96.chg g101 (fun k hk e => by have : w84.heap.size ≤ k := (o96.base hk).1; have := hltc _ e; have := z0; omega)
            clear oc; have oc := a101; clear a101
            obtain ⟨A101, c101, rfl, -, -⟩ := oc.form
            have oc101 := oc
            have o101 := o96
            have C101 := c1
            refine DrawT.quiet 12 rfl rfl (fun W eW => OpOk.r (R.nilOk rfl) rfl) ?_
            refine DrawT.quiet 13 rfl rfl (fun W eW => OpOk.r (R.fieldA Try.underlying87 rfl Try.sizeOf22 rfl rfl rfl) rfl) ?_
            refine DrawT.one (n := 14) [] rfl rfl rfl (by kernel_rfl) (OpC.plain (Eff.store Try.sizeOf22 rfl rfl k0 rfl (by simp [Value.cells]) (by simp [Value.cells, Value.oneCell'])) rfl) ?_ ?_
            · rintro _ _ ⟨_, _, g, _⟩
              refine ⟨?_, trivial⟩
              exact Chg.mono g fun _ _ h => .inr h
            rintro _ ws1 ⟨rfl, ks1, gs1, zs1⟩
            replace z0 := Nat.le_trans z0 (Chg.size gs1)
            clear k0; have k0 := ks1; clear ks1
            replace k0 : Blk ws1 g 87 [.pointer (some ⟨gs, 0, none⟩), .slice A101 (rc1 ++ [(⟨⟨A96, ps.length, c96⟩, (putS r.st cb).1, m⟩ : RawC)]).length c101, .slice GA rg.length GC, .map (some bm)] := k0
            have hr2 := hr1.addC (x := ⟨⟨A96, ps.length, c96⟩, (putS r.st cb).1, m⟩) (y := ⟨ps, (putS r.st cb).1, m⟩) (B := w100.heap.size) og hrc1 hrg1 oc101 (at101.imp id fun e => ⟨_, e, Nat.le_refl _⟩) z100 rfl rfl (o101.reads encInt_len) (fun _ k hk => ⟨(o101.base hk).1, (o100.base hk).2, (o101.base hk).2⟩) C101 gs1 k0
            have C2 : Chg (RNames.U ⟨g, gs, bi, ba, bm, .slice CA rc.length CC, .slice GA rg.length GC, V⟩) w0 ws1 := (C88.trans (Chg.mono C101 fun k _ h => .inr (.inr (.inr (.inr (.inr (.inl h))))))).trans (Chg.mono gs1 fun k _ h => .inl h)
            have hlt2 : ∀ k, (Value.slice GA rg.length GC).ownBlock = some k → k < ws1.heap.size := fun k hk => hr2.lt k (hr2.sub k (.inr (.inr (.inr (.inr (.inr (.inr hk)))))))
            have hltg2 : g < ws1.heap.size := hr2.lt g (hr2.sub g (.inl rfl))
            obtain ⟨rc2, rg2, oc2, og2, hrc2, hrg2⟩ := hr2.rows
            have hl2 := hrg2.1
            dsimp only at hl2
            have c2 : Chg (fun k => (Value.slice GA rg.length GC).ownBlock = some k) ws1 ws1 := Chg.refl _ _
            have z2 := Nat.le_refl ws1.heap.size
            refine DrawT.fin rfl ?_
            show St _ _ _ _ _
            refine St.weak [(0, _), (2, _)] ⟨rfl, rfl, trivial⟩ ?_
            refine St.then_n ?_
            refine St.go hK21 ?_
            clear hK21
            refine St.seq fun K22 hK22 => ?_
            refine St.weak [(0, _), (2, _)] ⟨rfl, rfl, trivial⟩ ?_
            refine St.drawT (S := fun k => (Value.slice GA rg.length GC).ownBlock = some k ∨ k = g) (eff := [6, 7, 8, 11]) mixed rfl rfl rfl rfl ?_
            replace k0 := k0.ext (Ext.drew _)
            replace z0 := Nat.le_trans z0 (Chg.size (Ext.drew _))
            replace og2 := og2.ext (Ext.drew _)
            replace c2 := Chg.then c2 (Ext.drew _) (fun _ _ h => h.elim)
            replace z2 := Nat.le_trans z2 (Chg.size (Ext.drew _))
            refine DrawT.quiet 0 rfl rfl (fun W eW => OpOk.r (R.move rfl) rfl) ?_
            refine DrawT.quiet 1 rfl rfl (fun W eW => OpOk.r (R.move rfl) rfl) ?_
            refine DrawT.quiet 2 rfl rfl (fun W eW => OpOk.r (R.nilOk rfl) rfl) ?_
            refine DrawT.quiet 3 rfl rfl (fun W eW => OpOk.r (R.fieldA Try.underlying87 rfl Try.sizeOf36 rfl rfl rfl) rfl) ?_
            have hp108 := (k0.cells.at 2 rfl)
            refine DrawT.pinL 4 rfl rfl Try.isAgg36 rfl hp108 ?_
            refine DrawT.quiet 5 rfl rfl (fun W eW => OpOk.r (R.move rfl) rfl) ?_
            refine DrawT.one (n := 6) [4] rfl rfl rfl (by kernel_rfl) (OpC.plain (Eff.call rfl rfl ent44 (tri_Clone _ ((htv.chg C2 htu).ext (REnc.firm _) (Ext.drew _)) (by omega))) rfl) ?_ ?_
            · rintro r110 w110 ⟨o110, e110⟩
              refine ⟨?_, ⟨e110.cell hp108, trivial⟩⟩
              exact Chg.mono e110 fun _ _ h => h.elim
            rintro r110 w110 ⟨o110, e110⟩
            replace hp108 := e110.cell hp108
            replace k0 := k0.ext e110
            replace z0 := Nat.le_trans z0 (Chg.size e110)
            replace og2 := og2.ext e110
            replace c2 := Chg.then c2 e110 (fun _ _ h => h.elim)
            replace z2 := Nat.le_trans z2 (Chg.size e110)
            obtain ⟨A110, c110, rfl, -, -⟩ := o110.form
            refine DrawT.one (n := 7) [4] rfl rfl rfl (by kernel_rfl) (OpC.plain (Eff.buildSl Try.underlying36 Try.sizeOf44 Try.zeroValue44 rfl rfl rfl rfl (by intro u hu; simp only [List.mem_cons, List.not_mem_nil, or_false] at hu; first | (subst hu; rfl) | (rcases hu with rfl | rfl <;> rfl) | (rcases hu with rfl | rfl | rfl <;> rfl))) rfl) ?_ ?_
            · rintro _ _ ⟨_, _, _, _, e, _⟩
              refine ⟨?_, ⟨e.cell hp108, trivial⟩⟩
              exact Chg.mono e (fun _ _ h => h.elim)
            rintro _ w111 ⟨b111, rfl, hb111, hs111, e111, k111⟩
            replace hp108 := e111.cell hp108
            replace k0 := k0.ext e111
            replace z0 := Nat.le_trans z0 (Chg.size e111)
            replace og2 := og2.ext e111
            replace c2 := Chg.then c2 e111 (fun _ _ h => h.elim)
            replace z2 := Nat.le_trans z2 (Chg.size e111)
            replace o110 := o110.ext e111
            have z111 := z2
            have o111 := o110
            refine DrawT.one (n := 8) [] rfl rfl rfl (by kernel_rfl) (OpC.plain (Eff.append (enc := encHd) (fun _ => rfl) one_hd Try.underlying36 info44 rfl rfl rfl rfl og2 (RSl.mk (enc := encHd) (xs := [⟨A110, ts.length, c110⟩]) encHd_len k111.cells (fun i u hu => hu) (by simp) (by simp)) (by simp; omega) (by simp; omega) (Nat.zero_le _)) rfl) ?_ ?_
            · rintro _ _ ⟨_, g, _⟩
              refine ⟨?_, trivial⟩
              exact Chg.mono g (fun k _ h => .inl h)
            rintro v112 w112 ⟨a112, g112, at112⟩
            replace k0 := k0.chg g112 (fun hk => (hr2.s4 _ hk).1 rfl)
            replace z0 := Nat.le_trans z0 (Chg.size g112)
            replace c2 := Chg.then c2 g112 (fun _ _ h => h)
            replace z2 := Nat.le_trans z2 (Chg.size g112)
            replace o110 := o110.chg g112 (fun k hk e => by have : ws1.heap.size ≤ k := (o110.base hk).1; have := hlt2 _ e; have := z2; omega)
            clear og2; have og2 := a112; clear a112
            obtain ⟨A112, c112, rfl, -, -⟩ := og2.form
            have og112 := og2
            have o112 := o110
            have C112 := c2
            refine DrawT.quiet 9 rfl rfl (fun W eW => OpOk.r (R.nilOk rfl) rfl) ?_
            refine DrawT.quiet 10 rfl rfl (fun W eW => OpOk.r (R.fieldA Try.underlying87 rfl Try.sizeOf36 rfl rfl rfl) rfl) ?_
            refine DrawT.one (n := 11) [] rfl rfl rfl (by kernel_rfl) (OpC.plain (Eff.store Try.sizeOf36 rfl rfl k0 rfl (by simp [Value.cells]) (by simp [Value.cells, Value.oneCell'])) rfl) ?_ ?_
            · rintro _ _ ⟨_, _, g, _⟩
              refine ⟨?_, trivial⟩
              exact Chg.mono g fun _ _ h => .inr h
            rintro _ ws2 ⟨rfl, ks2, gs2, zs2⟩
            replace z0 := Nat.le_trans z0 (Chg.size gs2)
            replace z2 := Nat.le_trans z2 (Chg.size gs2)
            clear k0; have k0 := ks2; clear ks2
            replace k0 : Blk ws2 g 87 [.pointer (some ⟨gs, 0, none⟩), .slice A101 (rc1 ++ [(⟨⟨A96, ps.length, c96⟩, (putS r.st cb).1, m⟩ : RawC)]).length c101, .slice A112 (rg2 ++ [(⟨A110, ts.length, c110⟩ : Hd)]).length c112, .map (some bm)] := k0
            have hr3 := hr2.addG (x := ⟨A110, ts.length, c110⟩) (y := ts) (B := w111.heap.size) oc2 hrc2 hrg2 og112 (at112.imp id fun e => ⟨_, e, Nat.le_refl _⟩) z111 (o112.reads encTriple_len) (fun _ k hk => ⟨(o112.base hk).1, (o111.base hk).2, (o112.base hk).2⟩) C112 gs2 k0
            have C3 : Chg (RNames.U ⟨g, gs, bi, ba, bm, .slice CA rc.length CC, .slice GA rg.length GC, V⟩) w0 ws2 := (C2.trans (Chg.mono C112 fun k _ h => .inr (.inr (.inr (.inr (.inr (.inr h))))))).trans (Chg.mono gs2 fun k _ h => .inl h)
            refine DrawT.fin rfl ?_
            show St _ _ _ _ _
            refine St.weak [(0, _)] ⟨rfl, trivial⟩ ?_
            refine St.then_n ?_
            refine St.go hK22 ?_
            clear hK22
            refine St.seq fun K23 hK23 => ?_
            refine St.region ?_
            refine St.r (R.move rfl) rfl rfl ?_
            refine St.r (R.nilOk rfl) rfl rfl ?_
            refine St.r (R.fieldA Try.underlying87 rfl Try.sizeOf22 rfl rfl rfl) rfl rfl ?_
            refine St.r (R.load1 Try.isAgg22 rfl (k0.cells.at 1 rfl)) rfl rfl ?_
            refine St.r (R.lenSl Try.underlying22 rfl) rfl rfl ?_
            refine St.r (R.sub rfl rfl (by simp only [List.length_append, List.length_singleton]; omega) (by simp only [List.length_append, List.length_singleton]; omega)) rfl rfl ?_
            refine St.r (R.assign rfl) rfl rfl ?_
            refine St.r (R.assign rfl) rfl rfl ?_
            refine St.nil ?_
            refine St.weak [(8, _), (9, _)] ⟨rfl, rfl, trivial⟩ ?_
            refine St.then_n ?_
            refine St.go hK23 ?_
            clear hK23
            refine St.ret ?_
            refine St.ret2 Try.results40 rfl rfl ?_
            have hadd : addR codeL r ps ts m = ((r.cs.length : Int), none, { r with st := (putS r.st cb).2.2, cs := r.cs ++ [⟨ps, (putS r.st cb).1, m⟩], gs := r.gs ++ [ts] }) := by rw [addR, hidx, if_neg (by omega), if_neg (by omega), ← hcb, if_neg (by rw [h88]; simp)]
            have zC := C88.size
            have zC2 := C2.size
            refine ⟨_, rfl, ?_⟩
            rw [hadd]
            refine ⟨_, congrArg (fun a => Value.tuple #[Value.int .i64 a, errV 91 none]) (by simp only [List.length_append, List.length_singleton]; omega), hr3, ⟨rfl, fun k hk => ?_, fun k hk => ?_⟩, C3⟩
            rotate_left
            · rcases hk with hk | hk | hk | hk | hk | hk | hk
              · exact .inl (.inl hk)
              · exact .inl (.inr (.inl hk))
              · exact .inl (.inr (.inr (.inl hk)))
              · exact .inl (.inr (.inr (.inr (.inl hk))))
              · exact .inl (.inr (.inr (.inr (.inr (.inl hk)))))
              · rcases at101 with e | e
                · exact .inl (.inr (.inr (.inr (.inr (.inr (.inl (e ▸ hk)))))))
                · replace hk := e.symm.trans hk; injection hk with hk; subst hk; exact .inr (Nat.le_trans zC z100)
              · rcases at112 with e | e
                · exact .inl (.inr (.inr (.inr (.inr (.inr (.inr (e ▸ hk)))))))
                · replace hk := e.symm.trans hk; injection hk with hk; subst hk; exact .inr (Nat.le_trans zC2 z111)
            rcases hk with (hk | hk | ⟨_, hk⟩) | hk | ⟨_, hk⟩
            · exact .inl hk
            · rcases at101 with e | e
              · exact .inl (hr1.sub k (.inr (.inr (.inr (.inr (.inr (.inl (e ▸ hk))))))))
              · rw [e] at hk; injection hk with hk; subst hk; exact .inr (Nat.le_trans zC z100)
            · exact .inr (Nat.le_trans zC (o101.base hk).1)
            · rcases at112 with e | e
              · exact .inl (hr1.sub k (.inr (.inr (.inr (.inr (.inr (.inr (e ▸ hk))))))))
              · rw [e] at hk; injection hk with hk; subst hk; exact .inr (Nat.le_trans zC2 z111)
            · exact .inr (Nat.le_trans zC2 (o112.base hk).1)
      intro K13 hK13
      refine St.seq fun K24 hK24 => ?_
      refine St.region ?_
      refine St.r (R.move rfl) rfl rfl ?_
      refine St.r (R.lenSl Try.underlying23 rfl) rfl rfl ?_
      refine St.r (R.gtr rfl rfl) rfl rfl ?_
      refine St.nil ?_
      refine St.weak [(0, _), (1, _), (2, _), (3, _), (12, _), (58, _)] ⟨rfl, rfl, rfl, rfl, rfl, rfl, trivial⟩ ?_
      refine St.then_n ?_
      refine St.go hK24 ?_
      clear hK24
      refine St.condD rfl (fun h58 => ?_) (fun h58 => ?_)
      ·
        obtain ⟨p0, hp0⟩ := get_of_lt (xs := ps) (k := 0) (by omega)
        have hp0b := hps p0 (List.mem_of_getElem? hp0)
        obtain ⟨j, rfl⟩ : ∃ j : Nat, p0 = (j : Int) := ⟨p0.toNat, by omega⟩
        obtain ⟨z, hz⟩ := get_of_lt (xs := r.gs) (k := j) (by omega)
        obtain ⟨xg, hxg⟩ := get_of_lt (xs := rg) (k := j) (by omega)
        obtain ⟨pb, po, rfl, hpc⟩ := hpv.get' hp0
        obtain ⟨yb, yo, rfl, hyc⟩ := (hog.reads encHd_len).get' hxg
        have hg := hrg.2 j xg z hxg hz
        have hbase : baseR r ps = z := by
          cases ps with
          | nil => simp at hp0
          | cons a q =>
            simp only [List.getElem?_cons_zero, Option.some.injEq] at hp0
            subst hp0
            simp only [baseR, Int.toNat_natCast, hz, Option.getD_some]
        refine St.weak [(0, _), (1, _), (2, _), (3, _)] ⟨rfl, rfl, rfl, rfl, trivial⟩ ?_
        refine St.draw mixed rfl rfl rfl rfl ?_
        replace E := Ext.trans E (Ext.drew _)
        refine ⟨_, OpOk.r (R.move rfl) rfl, ?_⟩
        refine ⟨_, OpOk.r (R.nilOk rfl) rfl, ?_⟩
        refine ⟨_, OpOk.r (R.fieldA Try.underlying87 rfl Try.sizeOf36 rfl rfl rfl) rfl, ?_⟩
        refine ⟨_, OpOk.r (R.load1 Try.isAgg36 rfl ((h.ext E).blk.cells.at 2 rfl)) rfl, ?_⟩
        refine ⟨_, OpOk.r (R.move rfl) rfl, ?_⟩
        refine ⟨_, OpOk.r (R.indexS 0 Try.underlying23 Try.sizeOf3 rfl rfl rfl (by omega)) rfl, ?_⟩
        refine ⟨_, OpOk.r (R.load1 Try.isAgg3 rfl ((E.cells hpc).at 0 rfl)) rfl, ?_⟩
        refine ⟨_, OpOk.r (R.indexS j Try.underlying36 Try.sizeOf44 rfl rfl rfl (by omega)) rfl, ?_⟩
        refine ⟨_, OpOk.r (R.load1 Try.isAgg44 rfl ((E.cells hyc).at 0 rfl)) rfl, ?_⟩
        refine ⟨_, OpOk.r (R.assign rfl) rfl, ?_⟩
        show St _ _ _ _ _
        refine St.weak [(0, _), (1, _), (2, _), (3, _), (12, _)] ⟨rfl, rfl, rfl, rfl, rfl, trivial⟩ ?_
        refine St.then_n ?_
        refine St.meet hK13 xg.val ⟨rfl, rfl, rfl, rfl, rfl, trivial⟩ ?_
        · exact ⟨E, by rw [hbase]; exact hg.1.ext (REnc.firm _) E⟩
      ·
        have hp00 : ps = [] := List.eq_nil_of_length_eq_zero (by omega)
        refine St.skip ?_
        refine St.then_n ?_
        refine St.meet hK13 (.slice none 0 0) ⟨rfl, rfl, rfl, rfl, rfl, trivial⟩ ?_
        · exact ⟨E, by subst hp00; exact RSl.nil _ _ _⟩


theorem chk_set {ts : List Triple} {m : ByteArray} (h : (chkErr ts m).isSome = false) : IsSet ts := by
  refine setErr_iff.1 ?_
  unfold chkErr at h
  split at h
  · cases h
  · assumption
theorem par_in {r : Repo} (hok : r.Ok) (b : ByteArray) : (parR r b).length ≤ 2 ∧ ∀ p ∈ parR r b, 0 ≤ p ∧ p < (r.cs.length : Int) := by
  unfold parR
  cases hg : getM r.heads b with
  | none => simp
  | some n =>
    have := hok.heads b n hg
    simp; exact this

theorem Commit_ret {r : Repo} {n : RNames} {b m : ByteArray} {ts : List Triple} {tv : Value} (hok : r.Ok) (w0 : World) (h : RepoB rt w0 n r) (htv : RTriples w0 tv ts) (htu : 0 < ts.length → ∀ k, tv.ownBlock = some k → ¬ n.U k) :
    Ret Try.prog 13 [.pointer (some ⟨n.g, 0, none⟩), .string b, tv, .string m] w0 fun x w' => ∃ n', x = .tuple #[.int .i64 (comR codeL r b ts m).1, errV 91 (comR codeL r b ts m).2.1] ∧ RepoB rt w' n' (comR codeL r b ts m).2.2 ∧ n.Grow w0 n' ∧ Chg n.U w0 w' := by
  have E : Ext w0 w0 := Ext.refl w0
  refine St.enter (N := 62) Try.func13 rfl Try.ntmps13 rfl ?_
  refine St.seq fun K0 hK0 => ?_
  refine St.region ?_
  refine St.r (R.assign rfl) rfl rfl ?_
  refine St.r (R.assign rfl) rfl rfl ?_
  refine St.nil ?_
  refine St.weak [(0, _), (1, _), (2, _), (3, _)] ⟨rfl, rfl, rfl, rfl, trivial⟩ ?_
  refine St.then_n ?_
  refine St.go hK0 ?_
  clear hK0
  refine St.seq fun K1 hK1 => ?_
  refine St.seq fun K2 hK2 => ?_
  refine St.region ?_
  refine St.r (R.move rfl) rfl rfl ?_
  refine St.call rfl rfl ent37 (Word_ret _) rfl ?_
  rintro r18 w18 ⟨rfl, e18⟩
  replace E := Ext.trans E e18
  refine St.r (R.assign rfl) rfl rfl ?_
  refine St.nil ?_
  refine St.weak [(0, _), (1, _), (2, _), (3, _), (10, _)] ⟨rfl, rfl, rfl, rfl, rfl, trivial⟩ ?_
  refine St.then_n ?_
  refine St.go hK2 ?_
  clear hK2
  refine St.seq fun K3 hK3 => ?_
  refine St.region ?_
  refine St.r (R.move rfl) rfl rfl ?_
  refine St.r (R.notNil (et := 91) (e := _) Try.underlying27 rfl) rfl rfl ?_
  refine St.nil ?_
  refine St.weak [(0, _), (1, _), (2, _), (3, _), (10, _), (20, _)] ⟨rfl, rfl, rfl, rfl, rfl, rfl, trivial⟩ ?_
  refine St.then_n ?_
  refine St.go hK3 ?_
  clear hK3
  refine St.cond rfl (fun h20 => ?_) (fun h20 => ?_)
  ·
    refine St.seq fun K4 hK4 => ?_
    refine St.region ?_
    refine St.r (R.move rfl) rfl rfl ?_
    refine St.r (R.assign rfl) rfl rfl ?_
    refine St.r (R.assign rfl) rfl rfl ?_
    refine St.nil ?_
    refine St.weak [(8, _), (9, _)] ⟨rfl, rfl, trivial⟩ ?_
    refine St.then_n ?_
    refine St.go hK4 ?_
    clear hK4
    refine St.ret ?_
    refine St.then_r ?_
    refine St.ret2 Try.results13 rfl rfl ?_
    have hcom : comR codeL r b ts m = (0, wordErr b, r) := by rw [comR, if_pos h20]
    exact ⟨_, rfl, n, by rw [hcom], by rw [hcom]; exact h.ext E, RNames.Grow.refl _ _, Chg.mono E fun _ _ h => h.elim⟩
  ·
    refine St.skip ?_
    refine St.then_n ?_
    refine St.go hK1 ?_
    clear hK1
    refine St.seq fun K5 hK5 => ?_
    refine St.seq fun K6 hK6 => ?_
    refine St.region ?_
    refine St.r (R.move rfl) rfl rfl ?_
    refine St.r (R.move rfl) rfl rfl ?_
    refine St.call rfl rfl ent38 (rCheck_ret _ (htv.ext (REnc.firm _) E)) rfl ?_
    rintro r24 w24 ⟨rfl, e24⟩
    replace E := Ext.trans E e24
    refine St.r (R.assign rfl) rfl rfl ?_
    refine St.nil ?_
    refine St.weak [(0, _), (1, _), (2, _), (3, _), (11, _)] ⟨rfl, rfl, rfl, rfl, rfl, trivial⟩ ?_
    refine St.then_n ?_
    refine St.go hK6 ?_
    clear hK6
    refine St.seq fun K7 hK7 => ?_
    refine St.region ?_
    refine St.r (R.move rfl) rfl rfl ?_
    refine St.r (R.notNil (et := 91) (e := _) Try.underlying27 rfl) rfl rfl ?_
    refine St.nil ?_
    refine St.weak [(0, _), (1, _), (2, _), (3, _), (11, _), (26, _)] ⟨rfl, rfl, rfl, rfl, rfl, rfl, trivial⟩ ?_
    refine St.then_n ?_
    refine St.go hK7 ?_
    clear hK7
    refine St.cond rfl (fun h26 => ?_) (fun h26 => ?_)
    ·
      refine St.seq fun K8 hK8 => ?_
      refine St.region ?_
      refine St.r (R.move rfl) rfl rfl ?_
      refine St.r (R.assign rfl) rfl rfl ?_
      refine St.r (R.assign rfl) rfl rfl ?_
      refine St.nil ?_
      refine St.weak [(8, _), (9, _)] ⟨rfl, rfl, trivial⟩ ?_
      refine St.then_n ?_
      refine St.go hK8 ?_
      clear hK8
      refine St.ret ?_
      refine St.then_r ?_
      refine St.ret2 Try.results13 rfl rfl ?_
      have hcom : comR codeL r b ts m = (0, chkErr ts m, r) := by rw [comR, if_neg (by rw [h20]; simp), if_pos h26]
      exact ⟨_, rfl, n, by rw [hcom], by rw [hcom]; exact h.ext E, RNames.Grow.refl _ _, Chg.mono E fun _ _ h => h.elim⟩
    ·
      have hts := chk_set h26
      refine St.skip ?_
      refine St.then_n ?_
      refine St.go hK5 ?_
      clear hK5
      refine St.seq fun K9 hK9 => ?_
      refine St.seq fun K10 hK10 => ?_
      refine St.region ?_
      refine St.r (R.move rfl) rfl rfl ?_
      refine St.r (R.move rfl) rfl rfl ?_
      refine St.call rfl rfl ent39 (Full_ret _ (h.ext E)) rfl ?_
      rintro r30 w30 ⟨rfl, hw30⟩
      subst w30
      refine St.nil ?_
      refine St.weak [(0, _), (1, _), (2, _), (3, _), (30, _)] ⟨rfl, rfl, rfl, rfl, rfl, trivial⟩ ?_
      refine St.then_n ?_
      refine St.go hK10 ?_
      clear hK10
      refine St.cond rfl (fun h30 => ?_) (fun h30 => ?_)
      ·
        refine St.seq fun K11 hK11 => ?_
        refine St.region ?_
        refine St.r (R.iface Try.underlying91 rfl rfl) rfl rfl ?_
        refine St.r (R.assign rfl) rfl rfl ?_
        refine St.r (R.assign rfl) rfl rfl ?_
        refine St.nil ?_
        refine St.weak [(8, _), (9, _)] ⟨rfl, rfl, trivial⟩ ?_
        refine St.then_n ?_
        refine St.go hK11 ?_
        clear hK11
        refine St.ret ?_
        refine St.then_r ?_
        refine St.ret2 Try.results13 rfl rfl ?_
        have hcom : comR codeL r b ts m = (0, some 4, r) := by rw [comR, if_neg (by rw [h20]; simp), if_neg (by rw [h26]; simp), if_pos h30]
        exact ⟨_, rfl, n, by rw [hcom]; rfl, by rw [hcom]; exact h.ext E, RNames.Grow.refl _ _, Chg.mono E fun _ _ h => h.elim⟩
      ·
        refine St.skip ?_
        refine St.then_n ?_
        refine St.go hK9 ?_
        clear hK9
        refine St.seq fun K12 hK12 => ?_
        refine St.region ?_
        refine St.r (R.assign rfl) rfl rfl ?_
        refine St.nil ?_
        refine St.weak [(0, _), (1, _), (2, _), (3, _), (12, _)] ⟨rfl, rfl, rfl, rfl, rfl, trivial⟩ ?_
        refine St.then_n ?_
        refine St.go hK12 ?_
        clear hK12
        refine St.seqJ (fun (pv : Value) => [(0, .pointer (some ⟨n.g, 0, none⟩)), (1, .string b), (2, tv), (3, .string m), (12, pv)])
            (fun (pv : Value) w => Ext w0 w ∧ RInts w pv (parR r b) ∧ (0 < (parR r b).length → ∀ k, pv.ownBlock = some k → ¬ n.U k)) ?_ ?_
        · rintro pv w ⟨E, hpv, hpu⟩
          show St _ _ [(0, .pointer (some ⟨n.g, 0, none⟩)), (1, .string b), (2, tv), (3, .string m), (12, pv)] _ _
          refine St.seq fun K14 hK14 => ?_
          refine St.region ?_
          refine St.r (R.move rfl) rfl rfl ?_
          refine St.r (R.move rfl) rfl rfl ?_
          refine St.r (R.move rfl) rfl rfl ?_
          refine St.r (R.move rfl) rfl rfl ?_
          refine St.call rfl rfl ent40 (Add_ret hok hts (par_in hok b).1 (par_in hok b).2 _ (h.ext E) hpv hpu (htv.ext (REnc.firm _) E) htu) rfl ?_
          rintro r49 w49 ⟨n1, rfl, hr1, hg1, g49⟩
          have C : Chg n.U w0 w49 := Chg.trans (Chg.mono E fun _ _ h => h.elim) g49
          have hG : n.Grow w0 n1 := hg1.lower E.size
          have hbm := hr1.sub n1.bm (.inr (.inr (.inr (.inr (.inl rfl)))))
          rw [← hg1.1]
          refine St.r (R.move rfl) rfl rfl ?_
          refine St.r (R.extract rfl rfl) rfl rfl ?_
          refine St.r (R.extract rfl rfl) rfl rfl ?_
          refine St.r (R.assign rfl) rfl rfl ?_
          refine St.r (R.assign rfl) rfl rfl ?_
          refine St.nil ?_
          refine St.weak [(0, _), (1, _), (15, _), (16, _)] ⟨rfl, rfl, rfl, rfl, trivial⟩ ?_
          refine St.then_n ?_
          refine St.go hK14 ?_
          clear hK14
          refine St.seq fun K15 hK15 => ?_
          refine St.seq fun K16 hK16 => ?_
          refine St.region ?_
          refine St.r (R.move rfl) rfl rfl ?_
          refine St.r (R.isNil (et := 91) (e := _) Try.underlying27 rfl) rfl rfl ?_
          refine St.nil ?_
          refine St.weak [(0, _), (1, _), (15, _), (16, _), (53, _)] ⟨rfl, rfl, rfl, rfl, rfl, trivial⟩ ?_
          refine St.then_n ?_
          refine St.go hK16 ?_
          clear hK16
          refine St.cond rfl (fun h53 => ?_) (fun h53 => ?_)
          ·
            have mr := hr1.map
            refine St.region ?_
            refine St.r (R.move rfl) rfl rfl ?_
            refine St.r (R.nilOk rfl) rfl rfl ?_
            refine St.r (R.fieldA Try.underlying87 rfl Try.sizeOf85 rfl rfl rfl) rfl rfl ?_
            refine St.r (R.load1 Try.isAgg85 rfl (hr1.blk.cells.at 3 rfl)) rfl rfl ?_
            refine St.r (R.move rfl) rfl rfl ?_
            refine St.r (R.move rfl) rfl rfl ?_
            refine St.turn (Eff.mapUpdate (KEnc.str Try.underlying9) Try.underlying85 mr rfl rfl rfl) rfl rfl ?_
            rintro _ wm0 ⟨rfl, mm0, gm0, zm0⟩
            clear mr; have mr := mm0; clear mm0
            have hr2 := hr1.setMap mr gm0
            replace C := C.then gm0 (fun k hk e => by subst e; exact (hG.2.2 _ (.inr (.inr (.inr (.inr (.inl rfl)))))).resolve_right (by omega))
            refine St.nil ?_
            refine St.weak [(15, _), (16, _)] ⟨rfl, rfl, trivial⟩ ?_
            refine St.then_n ?_
            refine St.go hK15 ?_
            clear hK15
            refine St.seq fun K17 hK17 => ?_
            refine St.region ?_
            refine St.r (R.move rfl) rfl rfl ?_
            refine St.r (R.move rfl) rfl rfl ?_
            refine St.r (R.assign rfl) rfl rfl ?_
            refine St.r (R.assign rfl) rfl rfl ?_
            refine St.nil ?_
            refine St.weak [(8, _), (9, _)] ⟨rfl, rfl, trivial⟩ ?_
            refine St.then_n ?_
            refine St.go hK17 ?_
            clear hK17
            refine St.ret ?_
            refine St.ret2 Try.results13 rfl rfl ?_
            have hcom : comR codeL r b ts m = ((addR codeL r (parR r b) ts m).1, none, { (addR codeL r (parR r b) ts m).2.2 with heads := putM (addR codeL r (parR r b) ts m).2.2.heads b (addR codeL r (parR r b) ts m).1 }) := by rw [comR, if_neg (by rw [h20]; simp), if_neg (by rw [h26]; simp), if_neg (by rw [h30]; simp), if_pos h53]
            have he : (addR codeL r (parR r b) ts m).2.1 = none := by simpa using h53
            refine ⟨_, rfl, n1, ?_, ?_, hG, C⟩
            · rw [hcom, he]
            · rw [hcom]; exact hr2
          ·
            refine St.skip ?_
            refine St.then_n ?_
            refine St.go hK15 ?_
            clear hK15
            refine St.seq fun K18 hK18 => ?_
            refine St.region ?_
            refine St.r (R.move rfl) rfl rfl ?_
            refine St.r (R.move rfl) rfl rfl ?_
            refine St.r (R.assign rfl) rfl rfl ?_
            refine St.r (R.assign rfl) rfl rfl ?_
            refine St.nil ?_
            refine St.weak [(8, _), (9, _)] ⟨rfl, rfl, trivial⟩ ?_
            refine St.then_n ?_
            refine St.go hK18 ?_
            clear hK18
            refine St.ret ?_
            refine St.ret2 Try.results13 rfl rfl ?_
            have hcom : comR codeL r b ts m = addR codeL r (parR r b) ts m := by rw [comR, if_neg (by rw [h20]; simp), if_neg (by rw [h26]; simp), if_neg (by rw [h30]; simp), if_neg (by rw [h53]; simp)]
            exact ⟨_, rfl, n1, by rw [hcom], by rw [hcom]; exact hr1, hG, C⟩
        intro K13 hK13
        refine St.seq fun K19 hK19 => ?_
        refine St.region ?_
        refine St.r (R.move rfl) rfl rfl ?_
        refine St.r (R.nilOk rfl) rfl rfl ?_
        refine St.r (R.fieldA Try.underlying87 rfl Try.sizeOf85 rfl rfl rfl) rfl rfl ?_
        refine St.r (R.load1 Try.isAgg85 rfl ((h.ext E).blk.cells.at 3 rfl)) rfl rfl ?_
        refine St.r (R.move rfl) rfl rfl ?_
        refine St.r (R.lookupOk (KEnc.str Try.underlying9) Try.underlying85 Try.zeroValue3 (h.ext E).map rfl rfl) rfl rfl ?_
        refine St.r (R.move rfl) rfl rfl ?_
        refine St.r (R.extract rfl rfl) rfl rfl ?_
        refine St.r (R.extract rfl rfl) rfl rfl ?_
        refine St.r (R.assign rfl) rfl rfl ?_
        refine St.r (R.assign rfl) rfl rfl ?_
        refine St.nil ?_
        refine St.weak [(0, _), (1, _), (2, _), (3, _), (12, _), (13, _), (14, _)] ⟨rfl, rfl, rfl, rfl, rfl, rfl, rfl, trivial⟩ ?_
        refine St.then_n ?_
        refine St.go hK19 ?_
        clear hK19
        refine St.seq fun K20 hK20 => ?_
        refine St.region ?_
        refine St.r (R.move rfl) rfl rfl ?_
        refine St.nil ?_
        refine St.weak [(0, _), (1, _), (2, _), (3, _), (12, _), (13, _), (41, _)] ⟨rfl, rfl, rfl, rfl, rfl, rfl, rfl, trivial⟩ ?_
        refine St.then_n ?_
        refine St.go hK20 ?_
        clear hK20
        refine St.cond rfl (fun h41 => ?_) (fun h41 => ?_)
        ·
          refine St.region ?_
          refine St.r (R.move rfl) rfl rfl ?_
          refine St.buildSl Try.underlying23 Try.sizeOf3 Try.zeroValue3 rfl rfl rfl rfl (by intro u hu; simp only [List.mem_cons, List.not_mem_nil, or_false] at hu; first | (subst hu; rfl) | (rcases hu with rfl | rfl <;> rfl) | (rcases hu with rfl | rfl | rfl <;> rfl) | (rcases hu with rfl | rfl | rfl | rfl <;> rfl)) rfl ?_
          intro w43 b43 hb43 hs43 e43 k43
          have qE43 := E.size
          replace E := Ext.trans E e43
          refine St.r (R.assign rfl) rfl rfl ?_
          refine St.nil ?_
          refine St.weak [(0, _), (1, _), (2, _), (3, _), (12, _)] ⟨rfl, rfl, rfl, rfl, rfl, trivial⟩ ?_
          refine St.then_n ?_
          refine St.meet hK13 (.slice (some ⟨b43, 0, none⟩) 1 1) ⟨rfl, rfl, rfl, rfl, rfl, trivial⟩ ?_
          · obtain ⟨i, hi⟩ : ∃ i, getM r.heads b = some i := Option.isSome_iff_exists.1 h41
            have hp : parR r b = [(getM r.heads b).getD 0] := by rw [parR, hi]; rfl
            refine ⟨E, ?_, fun _ k hk hu => ?_⟩
            · rw [hp]; exact RSl.mk (enc := encInt) (xs := [(getM r.heads b).getD 0]) encInt_len k43.cells (fun i u hu => hu) (by simp) (by simp)
            · injection hk with hk; subst hk
              have := h.lt _ (h.sub _ hu)
              dsimp only at this
              omega
        ·
          refine St.skip ?_
          refine St.then_n ?_
          refine St.meet hK13 (.slice none 0 0) ⟨rfl, rfl, rfl, rfl, rfl, trivial⟩ ?_
          · have hn : getM r.heads b = none := by cases hg : getM r.heads b <;> simp [hg] at h41 ⊢
            have hp : parR r b = [] := by rw [parR, hn]
            exact ⟨E, by rw [hp]; exact RSl.nil _ _ _, by rw [hp]; simp⟩

end Go.Proofs.Ytjgcmpondbocfaa

/- What merge.Merge, merge.Prefer, set.Both and stratasame.Clashes come to, each walked once. Under the reading of the arguments. -/
import Derived.Test.YtjgcmpondbocfaaGreatDoorProg
import Derived.Test.YtjgcmpondbocfaaGreatDoorThreeW
namespace Go.Proofs.YtjgcmpondbocfaaGreatDoor
open Go.RowKit 
theorem ent102 : Ent Tryz.prog 102 := Ent.of Tryz.func102 (by kernel_rfl) rfl
theorem ent103 : Ent Tryz.prog 103 := Ent.of Tryz.func103 (by kernel_rfl) rfl

theorem RTL.three {w : World} {b : Nat} {t : TypeId} {v u x : Value} {p q r : List Triple} (hk : Blk w b t [v, u, x]) (hv : RTriples w v p) (hu : RTriples w u q) (hx : RTriples w x r) : RSl RTL 1 w (.slice (some ⟨b, 0, none⟩) 3 3) [p, q, r] :=
  ⟨some ⟨b, 0, none⟩, 3, rfl, by simp, by omega, fun _ => ⟨b, 0, rfl, fun k y hy => by
    match k, hy with
    | 0, hy => injection hy with hy; subst hy; exact ⟨[v], rfl, fun i a ha => by match i, ha with | 0, ha => injection ha with ha; subst ha; exact hk.cells.at 0 rfl, v, rfl, hv⟩
    | 1, hy => injection hy with hy; subst hy; exact ⟨[u], rfl, fun i a ha => by match i, ha with | 0, ha => injection ha with ha; subst ha; exact hk.cells.at 1 rfl, u, rfl, hu⟩
    | 2, hy => injection hy with hy; subst hy; exact ⟨[x], rfl, fun i a ha => by match i, ha with | 0, ha => injection ha with ha; subst ha; exact hk.cells.at 2 rfl, x, rfl, hx⟩⟩⟩

theorem Merge_ret {base a b : List Triple} {v0 v1 v2 : Value} (w0 : World) (h0 : RTriples w0 v0 base) (h1 : RTriples w0 v1 a) (h2 : RTriples w0 v2 b) :
    Ret Tryz.prog 34 [v0, v1, v2] w0 fun r w' => ∃ x l ks, r = .tuple #[x, l, errV 119 (mergeL base a b ks).2.2] ∧ (rightErr [base, a, b] = none → IsPairs [base, a, b] ks) ∧ RTriples w' x (mergeL base a b ks).1 ∧ RClashes w' l (mergeL base a b ks).2.1 ∧ Ext w0 w' := by
  obtain ⟨A0, C0, rfl, -, -⟩ := h0.form
  obtain ⟨A1, C1, rfl, -, -⟩ := h1.form
  obtain ⟨A2, C2, rfl, -, -⟩ := h2.form
  have E : Ext w0 w0 := Ext.refl w0
  refine St.enter (N := 39) Tryz.func34 rfl Tryz.ntmps34 rfl ?_
  refine St.seq fun K0 hK0 => ?_
  refine St.region ?_
  refine St.r (R.assign rfl) rfl rfl ?_
  refine St.r (R.assign rfl) rfl rfl ?_
  refine St.r (R.assign rfl) rfl rfl ?_
  refine St.nil ?_
  refine St.weak [(0, _), (1, _), (2, _)] ⟨rfl, rfl, rfl, trivial⟩ ?_
  refine St.then_n ?_
  refine St.go hK0 ?_
  clear hK0
  refine St.seq fun K1 hK1 => ?_
  refine St.seq fun K2 hK2 => ?_
  refine St.region ?_
  refine St.r (R.move rfl) rfl rfl ?_
  refine St.r (R.move rfl) rfl rfl ?_
  refine St.r (R.move rfl) rfl rfl ?_
  refine St.buildSl Tryz.underlying53 Tryz.sizeOf22 Tryz.zeroValue22 rfl rfl rfl rfl (by intro u hu; simp only [List.mem_cons, List.not_mem_nil, or_false] at hu; first | (subst hu; rfl) | (rcases hu with rfl | rfl <;> rfl) | (rcases hu with rfl | rfl | rfl <;> rfl) | (rcases hu with rfl | rfl | rfl | rfl <;> rfl)) rfl ?_
  intro w15 b15 hb15 hs15 e15 k15
  have qE15 := E.size
  replace E := Ext.trans E e15
  refine St.call rfl rfl ent102 (Right_ret _ (RTL.three k15 (h0.ext (REnc.firm _) E) (h1.ext (REnc.firm _) E) (h2.ext (REnc.firm _) E))) rfl ?_
  rintro r16 w16 ⟨rfl, e16⟩
  replace E := Ext.trans E e16
  refine St.r (R.assign rfl) rfl rfl ?_
  refine St.nil ?_
  refine St.weak [(0, _), (1, _), (2, _), (9, _)] ⟨rfl, rfl, rfl, rfl, trivial⟩ ?_
  refine St.then_n ?_
  refine St.go hK2 ?_
  clear hK2
  refine St.seq fun K3 hK3 => ?_
  refine St.region ?_
  refine St.r (R.move rfl) rfl rfl ?_
  refine St.r (R.notNil (et := 119) (e := _) Tryz.underlying32 rfl) rfl rfl ?_
  refine St.nil ?_
  refine St.weak [(0, _), (1, _), (2, _), (9, _), (18, _)] ⟨rfl, rfl, rfl, rfl, rfl, trivial⟩ ?_
  refine St.then_n ?_
  refine St.go hK3 ?_
  clear hK3
  refine St.cond rfl (fun h18 => ?_) (fun h18 => ?_)
  ·
    obtain ⟨er, her⟩ := Option.isSome_iff_exists.1 h18
    refine St.seq fun K4 hK4 => ?_
    refine St.region ?_
    refine St.r (R.move rfl) rfl rfl ?_
    refine St.r (R.assign rfl) rfl rfl ?_
    refine St.r (R.assign rfl) rfl rfl ?_
    refine St.r (R.assign rfl) rfl rfl ?_
    refine St.nil ?_
    refine St.weak [(6, _), (7, _), (8, _)] ⟨rfl, rfl, rfl, trivial⟩ ?_
    refine St.then_n ?_
    refine St.go hK4 ?_
    clear hK4
    refine St.ret ?_
    refine St.then_r ?_
    refine St.ret3 Tryz.results34 rfl rfl rfl ?_
    have hm : mergeL base a b [] = ([], [], some er) := by simp only [mergeL, her]
    exact ⟨_, rfl, _, _, [], by rw [hm, her], fun h => (by rw [h] at her; cases her), by rw [hm]; exact RSl.nil _ _ _, by rw [hm]; exact RSl.nil _ _ _, E⟩
  ·
    have hR := isSome_false h18
    have s0 := (right_all hR base (by simp)).few
    have s1 := (right_all hR a (by simp)).few
    have s2 := (right_all hR b (by simp)).few
    refine St.skip ?_
    refine St.then_n ?_
    refine St.go hK1 ?_
    clear hK1
    refine St.seq fun K5 hK5 => ?_
    refine St.region ?_
    refine St.r (R.move rfl) rfl rfl ?_
    refine St.r (R.move rfl) rfl rfl ?_
    refine St.r (R.move rfl) rfl rfl ?_
    refine St.call rfl rfl ent103 (three_ret _ (h0.ext (REnc.firm _) E) (h1.ext (REnc.firm _) E) (h2.ext (REnc.firm _) E) (by omega) (by omega) (by omega)) rfl ?_
    rintro r24 w24 ⟨p, q, ks, rfl, hIP, op, oq, e24⟩
    replace E := Ext.trans E e24
    obtain ⟨PA, PC, rfl, -, -⟩ := op.form
    obtain ⟨QA, QC, rfl, -, -⟩ := oq.form
    refine St.r (R.move rfl) rfl rfl ?_
    refine St.r (R.extract rfl rfl) rfl rfl ?_
    refine St.r (R.extract rfl rfl) rfl rfl ?_
    refine St.r (R.assign rfl) rfl rfl ?_
    refine St.r (R.assign rfl) rfl rfl ?_
    refine St.nil ?_
    refine St.weak [(10, _), (11, _)] ⟨rfl, rfl, trivial⟩ ?_
    refine St.then_n ?_
    refine St.go hK5 ?_
    clear hK5
    refine St.seq fun K6 hK6 => ?_
    refine St.block ?_
    refine St.seq fun K7 hK7 => ?_
    refine St.region ?_
    refine St.r (R.move rfl) rfl rfl ?_
    refine St.r (R.lenSl Tryz.underlying73 rfl) rfl rfl ?_
    refine St.r (R.gtr rfl rfl) rfl rfl ?_
    refine St.r (R.assign rfl) rfl rfl ?_
    refine St.nil ?_
    refine St.weak [(10, _), (11, _), (27, _)] ⟨rfl, rfl, rfl, trivial⟩ ?_
    refine St.then_n ?_
    refine St.go hK7 ?_
    clear hK7
    refine St.condD rfl (fun h27 => ?_) (fun h27 => ?_)
    ·
      refine St.seq fun K8 hK8 => ?_
      refine St.region ?_
      refine St.r (R.move rfl) rfl rfl ?_
      refine St.r (R.iface Tryz.underlying119 rfl rfl) rfl rfl ?_
      refine St.r (R.assign rfl) rfl rfl ?_
      refine St.r (R.assign rfl) rfl rfl ?_
      refine St.r (R.assign rfl) rfl rfl ?_
      refine St.nil ?_
      refine St.weak [(6, _), (7, _), (8, _)] ⟨rfl, rfl, rfl, trivial⟩ ?_
      refine St.then_n ?_
      refine St.go hK8 ?_
      clear hK8
      refine St.ret ?_
      refine St.in_r ?_
      refine St.then_r ?_
      refine St.ret3 Tryz.results34 rfl rfl rfl ?_
      have hm : mergeL base a b ks = ([], clashL base a b ks, some 9) := by simp only [mergeL, hR]; rw [if_pos (by omega)]
      exact ⟨_, rfl, _, _, ks, by rw [hm]; rfl, fun _ => hIP, by rw [hm]; exact RSl.nil _ _ _, by rw [hm]; exact oq.reads encClash_len, E⟩
    ·
      refine St.seq fun K9 hK9 => ?_
      refine St.region ?_
      refine St.r (R.move rfl) rfl rfl ?_
      refine St.r (R.lenSl Tryz.underlying22 rfl) rfl rfl ?_
      refine St.r (R.gtr rfl rfl) rfl rfl ?_
      refine St.r (R.assign rfl) rfl rfl ?_
      refine St.nil ?_
      refine St.weak [(10, _), (33, _)] ⟨rfl, rfl, trivial⟩ ?_
      refine St.then_n ?_
      refine St.go hK9 ?_
      clear hK9
      refine St.condD rfl (fun h33 => ?_) (fun h33 => ?_)
      ·
        refine St.seq fun K10 hK10 => ?_
        refine St.region ?_
        refine St.r (R.iface Tryz.underlying119 rfl rfl) rfl rfl ?_
        refine St.r (R.assign rfl) rfl rfl ?_
        refine St.r (R.assign rfl) rfl rfl ?_
        refine St.r (R.assign rfl) rfl rfl ?_
        refine St.nil ?_
        refine St.weak [(6, _), (7, _), (8, _)] ⟨rfl, rfl, rfl, trivial⟩ ?_
        refine St.then_n ?_
        refine St.go hK10 ?_
        clear hK10
        refine St.ret ?_
        refine St.in_r ?_
        refine St.then_r ?_
        refine St.ret3 Tryz.results34 rfl rfl rfl ?_
        have hm : mergeL base a b ks = ([], [], some 4) := by simp only [mergeL, hR]; rw [if_neg (by omega), if_pos (by omega)]
        exact ⟨_, rfl, _, _, ks, by rw [hm]; rfl, fun _ => hIP, by rw [hm]; exact RSl.nil _ _ _, by rw [hm]; exact RSl.nil _ _ _, E⟩
      ·
        refine St.skip ?_
        refine St.in_n ?_
        refine St.then_n ?_
        refine St.go hK6 ?_
        clear hK6
        refine St.seq fun K11 hK11 => ?_
        refine St.region ?_
        refine St.r (R.move rfl) rfl rfl ?_
        refine St.r (R.assign rfl) rfl rfl ?_
        refine St.r (R.assign rfl) rfl rfl ?_
        refine St.r (R.assign rfl) rfl rfl ?_
        refine St.nil ?_
        refine St.weak [(6, _), (7, _), (8, _)] ⟨rfl, rfl, rfl, trivial⟩ ?_
        refine St.then_n ?_
        refine St.go hK11 ?_
        clear hK11
        refine St.ret ?_
        refine St.ret3 Tryz.results34 rfl rfl rfl ?_
        have hm : mergeL base a b ks = (outL base a b true ks, [], none) := by simp only [mergeL, hR]; rw [if_neg (by omega), if_neg (by omega)]
        exact ⟨_, rfl, _, _, ks, by rw [hm]; rfl, fun _ => hIP, by rw [hm]; exact op.reads encTriple_len, by rw [hm]; exact RSl.nil _ _ _, E⟩


theorem RTL.pair {w : World} {b : Nat} {t : TypeId} {v u : Value} {p q : List Triple} (hk : Blk w b t [v, u]) (hv : RTriples w v p) (hu : RTriples w u q) : RSl RTL 1 w (.slice (some ⟨b, 0, none⟩) 2 2) [p, q] :=
  ⟨some ⟨b, 0, none⟩, 2, rfl, by simp, by omega, fun _ => ⟨b, 0, rfl, fun k y hy => by
    match k, hy with
    | 0, hy => injection hy with hy; subst hy; exact ⟨[v], rfl, fun i a ha => by match i, ha with | 0, ha => injection ha with ha; subst ha; exact hk.cells.at 0 rfl, v, rfl, hv⟩
    | 1, hy => injection hy with hy; subst hy; exact ⟨[u], rfl, fun i a ha => by match i, ha with | 0, ha => injection ha with ha; subst ha; exact hk.cells.at 1 rfl, u, rfl, hu⟩⟩⟩

theorem sClashes_ret {xs ys : List Clash} {v u : Value} (w0 : World) (hv : RClashes w0 v xs) (hu : RClashes w0 u ys) : Ret Tryz.prog 36 [v, u] w0 fun r w' => r = .bool (decide (xs = ys)) ∧ Ext w0 w' := by
  obtain ⟨A, c, rfl, hc1, hc2⟩ := hv.form
  obtain ⟨A2, c2, rfl, hd1, hd2⟩ := hu.form
  have E : Ext w0 w0 := Ext.refl w0
  refine St.enter (N := 26) Tryz.func36 rfl Tryz.ntmps36 rfl ?_
  refine St.seq fun K0 hK0 => ?_
  refine St.region ?_
  refine St.r (R.assign rfl) rfl rfl ?_
  refine St.nil ?_
  refine St.weak [(0, _), (1, _)] ⟨rfl, rfl, trivial⟩ ?_
  refine St.then_n ?_
  refine St.go hK0 ?_
  clear hK0
  refine St.seq fun K1 hK1 => ?_
  refine St.seq fun K2 hK2 => ?_
  refine St.region ?_
  refine St.r (R.move rfl) rfl rfl ?_
  refine St.r (R.lenSl Tryz.underlying73 rfl) rfl rfl ?_
  refine St.r (R.move rfl) rfl rfl ?_
  refine St.r (R.lenSl Tryz.underlying73 rfl) rfl rfl ?_
  refine St.r (R.neq rfl rfl) rfl rfl ?_
  refine St.nil ?_
  refine St.weak [(0, _), (1, _), (10, _)] ⟨rfl, rfl, rfl, trivial⟩ ?_
  refine St.then_n ?_
  refine St.go hK2 ?_
  clear hK2
  refine St.condD rfl (fun h10 => ?_) (fun h10 => ?_)
  ·
    refine St.seq fun K3 hK3 => ?_
    refine St.region ?_
    refine St.r (R.assign rfl) rfl rfl ?_
    refine St.nil ?_
    refine St.weak [(4, _)] ⟨rfl, trivial⟩ ?_
    refine St.then_n ?_
    refine St.go hK3 ?_
    clear hK3
    refine St.ret ?_
    refine St.then_r ?_
    refine St.ret1 Tryz.results36 rfl ?_
    exact ⟨_, rfl, by rw [decide_eq_false (fun e => h10 (by rw [e]))], E⟩
  ·
    refine St.skip ?_
    refine St.then_n ?_
    refine St.go hK1 ?_
    clear hK1
    refine St.seq fun K4 hK4 => ?_
    refine St.seq fun K5 hK5 => ?_
    refine St.region ?_
    refine St.r (R.assign rfl) rfl rfl ?_
    refine St.nil ?_
    refine St.weak [(0, _), (1, _), (5, _)] ⟨rfl, rfl, rfl, trivial⟩ ?_
    refine St.then_n ?_
    refine St.go hK5 ?_
    clear hK5
    refine St.block ?_
    refine St.loop (fun (k : Nat) => [(0, .slice A xs.length c), (1, .slice A2 ys.length c2), (5, .int .i64 (k : Int))])
        (fun (k : Nat) w => k ≤ xs.length ∧ Ext w0 w ∧ xs.take k = ys.take k)
        (fun (k : Nat) => xs.length - k) 0 ⟨rfl, rfl, rfl, trivial⟩ ?_ ?_
    · exact ⟨Nat.zero_le _, E, by simp⟩
    rintro k w ⟨hk, E, hall⟩
    show St _ _ [(0, .slice A xs.length c), (1, .slice A2 ys.length c2), (5, .int .i64 (k : Int))] _ _
    refine St.seq fun K6 hK6 => ?_
    refine St.seq fun K7 hK7 => ?_
    refine St.region ?_
    refine St.r (R.move rfl) rfl rfl ?_
    refine St.r (R.move rfl) rfl rfl ?_
    refine St.r (R.lenSl Tryz.underlying73 rfl) rfl rfl ?_
    refine St.r (R.lss rfl rfl) rfl rfl ?_
    refine St.nil ?_
    refine St.weak [(0, _), (1, _), (5, _), (14, _)] ⟨rfl, rfl, rfl, rfl, trivial⟩ ?_
    refine St.then_n ?_
    refine St.go hK7 ?_
    clear hK7
    refine St.condD rfl (fun h14 => ?_) (fun h14 => ?_)
    ·
      obtain ⟨x, hx⟩ := get_of_lt (xs := xs) (k := k) (by omega)
      obtain ⟨y, hy⟩ := get_of_lt (xs := ys) (k := k) (by omega)
      obtain ⟨b, o, rfl, hxc⟩ := hv.get' hx
      obtain ⟨b2, o2, rfl, hyc⟩ := hu.get' hy
      refine St.skip ?_
      refine St.then_n ?_
      refine St.go hK6 ?_
      clear hK6
      refine St.seq fun K8 hK8 => ?_
      refine St.block ?_
      refine St.seq fun K9 hK9 => ?_
      refine St.weak [(0, _), (1, _), (5, _)] ⟨rfl, rfl, rfl, trivial⟩ ?_
      refine St.draw mixed rfl rfl rfl rfl ?_
      replace E := Ext.trans E (Ext.drew _)
      refine ⟨_, OpOk.r (R.move rfl) rfl, ?_⟩
      refine ⟨_, OpOk.r (R.move rfl) rfl, ?_⟩
      refine ⟨_, OpOk.r (R.indexS k Tryz.underlying73 Tryz.sizeOf176 rfl rfl rfl (by omega)) rfl, ?_⟩
      refine ⟨_, OpOk.r (R.loadA Tryz.isAgg176 Tryz.sizeOf176 rfl (E.cells hxc) rfl) rfl, ?_⟩
      refine ⟨_, OpOk.r (R.move rfl) rfl, ?_⟩
      refine ⟨_, OpOk.r (R.move rfl) rfl, ?_⟩
      refine ⟨_, OpOk.r (R.indexS k Tryz.underlying73 Tryz.sizeOf176 rfl rfl rfl (by omega)) rfl, ?_⟩
      refine ⟨_, OpOk.r (R.loadA Tryz.isAgg176 Tryz.sizeOf176 rfl (E.cells hyc) rfl) rfl, ?_⟩
      refine ⟨_, OpOk.r (R.neAgg Tryz.eqGuardType176 (eqClash x y) rfl rfl) rfl, ?_⟩
      show St _ _ _ _ _
      refine St.weak [(0, _), (1, _), (5, _), (25, _)] ⟨rfl, rfl, rfl, rfl, trivial⟩ ?_
      refine St.then_n ?_
      refine St.go hK9 ?_
      clear hK9
      refine St.cond rfl (fun h25 => ?_) (fun h25 => ?_)
      ·
        refine St.seq fun K10 hK10 => ?_
        refine St.region ?_
        refine St.r (R.assign rfl) rfl rfl ?_
        refine St.nil ?_
        refine St.weak [(4, _)] ⟨rfl, trivial⟩ ?_
        refine St.then_n ?_
        refine St.go hK10 ?_
        clear hK10
        refine St.ret ?_
        refine St.in_r ?_
        refine St.then_r ?_
        refine St.then_r ?_
        refine St.in_r ?_
        refine St.then_r ?_
        refine St.ret1 Tryz.results36 rfl ?_
        exact ⟨_, rfl, by rw [decide_eq_false (fun e => (by simpa using h25 : ¬ x = y) (by subst e; rw [hx] at hy; injection hy))], E⟩
      ·
        refine St.skip ?_
        refine St.in_n ?_
        refine St.then_n ?_
        refine St.go hK8 ?_
        clear hK8
        refine St.region ?_
        refine St.r (R.move rfl) rfl rfl ?_
        refine St.r (R.add rfl rfl (by omega) (by omega)) rfl rfl ?_
        refine St.r (R.assign rfl) rfl rfl ?_
        refine St.nil ?_
        refine St.weak [(0, _), (1, _), (5, _)] ⟨rfl, rfl, rfl, trivial⟩ ?_
        refine St.then_n ?_
        refine St.round (k + 1) ⟨rfl, rfl, rfl, trivial⟩ ?_ ?_
        · refine ⟨by omega, E, ?_⟩
          rw [take_snoc hx, take_snoc hy, hall]
          congr 2
          simpa using h25
        · omega
    ·
      refine St.exit ?_
      refine St.then_x ?_
      refine St.then_x ?_
      refine St.in_x ?_
      refine St.then_n ?_
      refine St.go hK4 ?_
      clear hK4
      refine St.seq fun K11 hK11 => ?_
      refine St.region ?_
      refine St.r (R.assign rfl) rfl rfl ?_
      refine St.nil ?_
      refine St.weak [(4, _)] ⟨rfl, trivial⟩ ?_
      refine St.then_n ?_
      refine St.go hK11 ?_
      clear hK11
      refine St.ret ?_
      refine St.ret1 Tryz.results36 rfl ?_
      rw [List.take_of_length_le (by omega), List.take_of_length_le (by omega)] at hall
      exact ⟨_, rfl, by rw [decide_eq_true hall], E⟩

end Go.Proofs.YtjgcmpondbocfaaGreatDoor

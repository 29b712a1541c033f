/- What solve.All comes to. Walked, under the reading of the arguments. -/
import Derived.Test.YtjgcmpondbocfaaGreatDoorProg
import Derived.Test.YtjgcmpondbocfaaGreatDoorSolveW
namespace Go.Proofs.YtjgcmpondbocfaaGreatDoor
open Go.RowKit 
theorem ent56 : Ent Tryz.prog 56 := Ent.of Tryz.func56 (by kernel_rfl) rfl
theorem places210 : ∀ fs, Tryz.prog.underlying 210 = some (.struct fs) → Places Tryz.prog fs [(0, 1), (1, 1), (2, 1), (3, 1), (4, 1)] := by
  intro fs h
  rw [Tryz.underlying210] at h
  cases h
  intro w
  simp [go_sem, Tryz.sizeOf122, Tryz.sizeOf22, Tryz.sizeOf24, Tryz.sizeOf27, Tryz.sizeOf3]

theorem query_few {q : Query} (h : queryErr q = none) : q.parts.length ≤ 6 ∧ 0 < q.parts.length ∧ partsErr q.parts = none := by
  unfold queryErr at h
  split at h
  · cases h
  · split at h
    · cases h
    · split at h
      · cases h
      · rename_i h1 h2 h3; exact ⟨by omega, by omega, h3⟩
theorem flat_zero (n : Nat) : (List.replicate n 0).flatMap encNat = List.replicate n (.int .i64 0) := by
  induction n with
  | zero => rfl
  | succ n ih => rw [List.replicate_succ, List.flatMap_cons, ih]; rfl
theorem zeros_le (n : Nat) : AllLe (List.replicate n 0) := fun x hx => by rw [List.eq_of_mem_replicate hx]; omega
theorem sum_zero (n : Nat) : (List.replicate n 0).sum = 0 := by simp

set_option maxHeartbeats 4000000 in
set_option maxRecDepth 100000 in
theorem All_ret {l : List Triple} {q : Query} {cs : List Value} {v : Value} (w0 : World) (hv : RTriples w0 v l) (hq : RQuery w0 cs q) : Ret Tryz.prog 68 [v, .agg cs.toArray] w0 fun r w' => ∃ fv bs, r = .tuple #[fv, .int .i64 (if (allErr l q).isSome then 0 else (lookedN l [[]] q.parts : Int)), errV 119 (allErr l q)] ∧ Own encMp 1 w0.heap.size 189 w' fv bs ∧ MapsB w' bs (if (allErr l q).isSome then [] else ansL l q) ∧ Ext w0 w' := by
  have hq0 := hq
  obtain ⟨vv, pv, rfl, hvv, hpv⟩ := hq
  obtain ⟨QA, QC, rfl, -, -⟩ := hvv.form
  obtain ⟨PA, PC, rfl, -, -⟩ := hpv.form
  obtain ⟨VA, VC, rfl, -, -⟩ := hv.form
  have E : Ext w0 w0 := Ext.refl w0
  refine St.enter (N := 43) Tryz.func68 rfl Tryz.ntmps68 rfl ?_
  refine St.seq fun K0 hK0 => ?_
  refine St.region ?_
  refine St.box rfl rfl ?_
  intro w3 b3 hb3 hs3 e3 k3
  have qE3 := E.size
  replace E := Ext.trans E e3
  refine St.r (R.assign rfl) rfl rfl ?_
  refine St.r (R.assign rfl) rfl rfl ?_
  refine St.r (R.assign rfl) rfl rfl ?_
  refine St.nil ?_
  refine St.weak [(0, _), (3, _)] ⟨rfl, rfl, trivial⟩ ?_
  refine St.then_n ?_
  refine St.go hK0 ?_
  clear hK0
  refine St.seq fun K1 hK1 => ?_
  refine St.seq fun K2 hK2 => ?_
  refine St.region ?_
  refine St.r (R.move rfl) rfl rfl ?_
  refine St.call rfl rfl ent55 (Sorted_ret _ (hv.ext (REnc.firm _) E)) rfl ?_
  rintro r11 w11 ⟨rfl, e11⟩
  replace E := Ext.trans E e11
  replace k3 := k3.ext e11
  refine St.r (R.assign rfl) rfl rfl ?_
  refine St.nil ?_
  refine St.weak [(0, _), (3, _), (7, _)] ⟨rfl, rfl, rfl, trivial⟩ ?_
  refine St.then_n ?_
  refine St.go hK2 ?_
  clear hK2
  refine St.seq fun K3 hK3 => ?_
  refine St.region ?_
  refine St.r (R.move rfl) rfl rfl ?_
  refine St.r (R.notNil (et := 119) (e := _) Tryz.underlying32 rfl) rfl rfl ?_
  refine St.nil ?_
  refine St.weak [(0, _), (3, _), (7, _), (13, _)] ⟨rfl, rfl, rfl, rfl, trivial⟩ ?_
  refine St.then_n ?_
  refine St.go hK3 ?_
  clear hK3
  refine St.cond rfl (fun h13 => ?_) (fun h13 => ?_)
  ·
    obtain ⟨er, her⟩ := Option.isSome_iff_exists.1 h13
    have hae : allErr l q = some er := by simp only [allErr, her]
    refine St.seq fun K4 hK4 => ?_
    refine St.region ?_
    refine St.r (R.move rfl) rfl rfl ?_
    refine St.r (R.assign rfl) rfl rfl ?_
    refine St.r (R.assign rfl) rfl rfl ?_
    refine St.r (R.assign rfl) rfl rfl ?_
    refine St.nil ?_
    refine St.weak [(4, _), (5, _), (6, _)] ⟨rfl, rfl, rfl, trivial⟩ ?_
    refine St.then_n ?_
    refine St.go hK4 ?_
    clear hK4
    refine St.ret ?_
    refine St.then_r ?_
    refine St.ret3 Tryz.results68 rfl rfl rfl ?_
    exact ⟨_, rfl, _, [], by rw [hae, her]; rfl, Own.nil _ _ _ _ _, by rw [hae]; exact ⟨rfl, fun k b a h => by simp at h⟩, E⟩
  ·
    have hS := isSome_false h13
    have hset := setErr_iff.1 hS
    refine St.skip ?_
    refine St.then_n ?_
    refine St.go hK1 ?_
    clear hK1
    refine St.seq fun K5 hK5 => ?_
    refine St.seq fun K6 hK6 => ?_
    refine St.region ?_
    refine St.r (R.loadA Tryz.isAgg26 Tryz.sizeOf26 rfl k3.cells rfl) rfl rfl ?_
    refine St.call rfl rfl ent56 (aCheck_ret _ (RQuery.firm _ _ _ _ E hq0)) rfl ?_
    rintro r16 w16 ⟨rfl, e16⟩
    replace E := Ext.trans E e16
    replace k3 := k3.ext e16
    refine St.r (R.assign rfl) rfl rfl ?_
    refine St.nil ?_
    refine St.weak [(0, _), (3, _), (8, _)] ⟨rfl, rfl, rfl, trivial⟩ ?_
    refine St.then_n ?_
    refine St.go hK6 ?_
    clear hK6
    refine St.seq fun K7 hK7 => ?_
    refine St.region ?_
    refine St.r (R.move rfl) rfl rfl ?_
    refine St.r (R.notNil (et := 119) (e := _) Tryz.underlying32 rfl) rfl rfl ?_
    refine St.nil ?_
    refine St.weak [(0, _), (3, _), (8, _), (18, _)] ⟨rfl, rfl, rfl, rfl, trivial⟩ ?_
    refine St.then_n ?_
    refine St.go hK7 ?_
    clear hK7
    refine St.cond rfl (fun h18 => ?_) (fun h18 => ?_)
    ·
      obtain ⟨er, her⟩ := Option.isSome_iff_exists.1 h18
      have hae : allErr l q = some er := by simp only [allErr, hS, her]
      refine St.seq fun K8 hK8 => ?_
      refine St.region ?_
      refine St.r (R.move rfl) rfl rfl ?_
      refine St.r (R.assign rfl) rfl rfl ?_
      refine St.r (R.assign rfl) rfl rfl ?_
      refine St.r (R.assign rfl) rfl rfl ?_
      refine St.nil ?_
      refine St.weak [(4, _), (5, _), (6, _)] ⟨rfl, rfl, rfl, trivial⟩ ?_
      refine St.then_n ?_
      refine St.go hK8 ?_
      clear hK8
      refine St.ret ?_
      refine St.then_r ?_
      refine St.ret3 Tryz.results68 rfl rfl rfl ?_
      exact ⟨_, rfl, _, [], by rw [hae, her]; rfl, Own.nil _ _ _ _ _, by rw [hae]; exact ⟨rfl, fun k b a h => by simp at h⟩, E⟩
    ·
      have hQ := isSome_false h18
      obtain ⟨hp6, hp0, hpe⟩ := query_few hQ
      refine St.skip ?_
      refine St.then_n ?_
      refine St.go hK5 ?_
      clear hK5
      refine St.seq fun K9 hK9 => ?_
      refine St.weak [(0, _), (3, _)] ⟨rfl, rfl, trivial⟩ ?_
      refine St.drawT (S := fun _ => False) (eff := [7, 9]) mixed rfl rfl rfl rfl ?_
      replace E := Ext.trans E (Ext.drew _)
      replace k3 := k3.ext (Ext.drew _)
      refine DrawT.quiet 0 rfl rfl (fun W eW => OpOk.r (R.move rfl) rfl) ?_
      refine DrawT.quiet 1 rfl rfl (fun W eW => OpOk.r (R.fieldA Tryz.underlying26 rfl Tryz.sizeOf24 rfl rfl rfl) rfl) ?_
      refine DrawT.quiet 2 rfl rfl (fun W eW => OpOk.r (R.load1 Tryz.isAgg24 rfl ((k3.ext eW).cells.at 1 rfl)) rfl) ?_
      refine DrawT.quiet 3 rfl rfl (fun W eW => OpOk.r (R.fieldA Tryz.underlying26 rfl Tryz.sizeOf24 rfl rfl rfl) rfl) ?_
      refine DrawT.quiet 4 rfl rfl (fun W eW => OpOk.r (R.load1 Tryz.isAgg24 rfl ((k3.ext eW).cells.at 1 rfl)) rfl) ?_
      refine DrawT.quiet 5 rfl rfl (fun W eW => OpOk.r (R.lenSl Tryz.underlying24 rfl) rfl) ?_
      refine DrawT.quiet 6 rfl rfl (fun W eW => OpOk.r (R.add rfl rfl (by omega) (by omega)) rfl) ?_
      have yE := E.size
      refine DrawT.one (n := 7) [] rfl rfl rfl (by kernel_rfl) (OpC.plain (Eff.makeSl (n := (q.parts.length + 1)) Tryz.underlying27 info3 rfl rfl rfl (by omega) (by omega) (by omega)) rfl) ?_ ?_
      · rintro _ _ ⟨_, _, _, _, e, _⟩
        refine ⟨?_, trivial⟩
        exact Chg.mono e (fun _ _ h => h.elim)
      rintro _ w27 ⟨b27, rfl, hb27, hs27, e27, k27⟩
      have qE27 := E.size
      replace E := Ext.trans E e27
      replace k3 := k3.ext e27
      refine DrawT.quiet 8 rfl rfl (fun W eW => OpOk.r (R.build Tryz.underlying210 (places210 _ Tryz.underlying210) Tryz.zeroValue210 rfl rfl rfl) rfl) ?_
      have y27 := k27.lt
      refine DrawT.one (n := 9) [] rfl rfl rfl (by kernel_rfl) (OpC.plain (Eff.box rfl) rfl) ?_ ?_
      · rintro _ _ ⟨_, _, _, _, e, _⟩
        refine ⟨?_, trivial⟩
        exact Chg.mono e (fun _ _ h => h.elim)
      rintro _ w29 ⟨b29, rfl, hb29, hs29, e29, k29⟩
      have qE29 := E.size
      replace E := Ext.trans E e29
      replace k3 := k3.ext e29
      replace k27 := k27.ext e29
      refine DrawT.quiet 10 rfl rfl (fun W eW => OpOk.r (R.assign rfl) rfl) ?_
      refine DrawT.fin rfl ?_
      show St _ _ _ _ _
      refine St.weak [(9, _)] ⟨rfl, trivial⟩ ?_
      refine St.then_n ?_
      refine St.go hK9 ?_
      clear hK9
      refine St.seq fun K10 hK10 => ?_
      refine St.seq fun K11 hK11 => ?_
      refine St.region ?_
      refine St.r (R.move rfl) rfl rfl ?_
      refine St.turn (Eff.makeMap (fun s : ByteArray => Value.string s) (vf44)) rfl rfl ?_
      rintro _ w31 ⟨b31, rfl, hb31, hs31, e31, m31⟩
      have qE31 := E.size
      replace E := Ext.trans E e31
      replace k3 := k3.ext e31
      replace k27 := k27.ext e31
      replace k29 := k29.ext e31
      have yE2 := E.size
      have y27b := k27.lt
      have y29b := k29.lt
      have hsd : 0 < l.length → ∀ k, (Value.slice VA l.length VC).ownBlock = some k → k < w0.heap.size := fun h0 k hk => hv.lt (fun x => by rw [encTriple_len]; omega) h0 hk
      have hpd : 0 < q.parts.length → ∀ k, (Value.slice PA q.parts.length PC).ownBlock = some k → k < w0.heap.size := fun h0 k hk => hpv.lt (fun x => by rw [encPat_len]; omega) h0 hk
      have hadd : addAt (List.replicate (q.parts.length + 1) 0) 0 (counts l [[]] q.parts) = counts l [[]] q.parts := by have := addAt_start (counts l [[]] q.parts); rwa [counts_len] at this
      refine St.call rfl rfl ent137 (walk_all (set := l) (parts := q.parts) (B := w0.heap.size) hset.few hp6 hsd hpd q.parts 0 rfl (by simp) (.slice none 0 0) (List.replicate (q.parts.length + 1) 0) 0 [] [] b31 _ (hv.ext (REnc.firm _) E) (hpv.ext (REnc.firm _) E)
        ⟨by rw [List.length_replicate]; exact k29, by rw [flat_zero]; exact k27, ⟨[], Own.nil _ _ _ _ _, ⟨rfl, fun k b a h => by simp at h⟩⟩, by omega, ⟨by omega, by omega⟩, fun k h => (by cases h), by rw [sum_zero]; omega, by rw [sum_zero]; exact Nat.le_refl _⟩ (by simp) (zeros_le _) m31 E.size) rfl ?_
      rintro r32 w32 ⟨b32, rfl, hw⟩
      replace E := Ext.then E hw.chg (by rintro j hj (h | h | h); omega; omega; cases h)
      have hok := hw.ok
      rw [hadd] at hok
      refine St.r (R.not rfl) rfl rfl ?_
      refine St.nil ?_
      refine St.weak [(9, _), (33, _)] ⟨rfl, rfl, trivial⟩ ?_
      refine St.then_n ?_
      refine St.go hK11 ?_
      clear hK11
      refine St.cond rfl (fun h33 => ?_) (fun h33 => ?_)
      ·
        have hae : allErr l q = some 4 := by
          have hb : b32 = false := by cases b32 <;> simp at h33 ⊢
          rw [hb] at hok
          simp only [allErr, hS, hQ]
          rw [if_neg (show ¬ fullQ l q from of_decide_eq_false hok.symm)]
        refine St.seq fun K12 hK12 => ?_
        refine St.region ?_
        refine St.r (R.iface Tryz.underlying119 rfl rfl) rfl rfl ?_
        refine St.r (R.assign rfl) rfl rfl ?_
        refine St.r (R.assign rfl) rfl rfl ?_
        refine St.r (R.assign rfl) rfl rfl ?_
        refine St.nil ?_
        refine St.weak [(4, _), (5, _), (6, _)] ⟨rfl, rfl, rfl, trivial⟩ ?_
        refine St.then_n ?_
        refine St.go hK12 ?_
        clear hK12
        refine St.ret ?_
        refine St.then_r ?_
        refine St.ret3 Tryz.results68 rfl rfl rfl ?_
        exact ⟨_, rfl, _, [], by rw [hae]; rfl, Own.nil _ _ _ _ _, by rw [hae]; exact ⟨rfl, fun k b a h => by simp at h⟩, E⟩
      ·
        have hb : b32 = true := by cases b32 <;> simp at h33 ⊢
        rw [hb] at hok
        have hae : allErr l q = none := by
          simp only [allErr, hS, hQ]
          rw [if_pos (show fullQ l q from of_decide_eq_true hok.symm)]
        obtain ⟨fv', many', looked', found', g1, g2, g3⟩ := hw.mem
        obtain ⟨q1, q2, q3⟩ := g3 hb
        have kG := g1.blk
        obtain ⟨bs, oG, qG⟩ := g1.row
        refine St.skip ?_
        refine St.then_n ?_
        refine St.go hK10 ?_
        clear hK10
        refine St.seq fun K13 hK13 => ?_
        refine St.weak [(9, _)] ⟨rfl, trivial⟩ ?_
        refine St.draw mixed rfl rfl rfl rfl ?_
        replace E := Ext.trans E (Ext.drew _)
        replace kG := kG.ext (Ext.drew _)
        replace oG := oG.ext (Ext.drew _)
        replace qG := qG.ext (Ext.drew _)
        refine ⟨_, OpOk.r (R.move rfl) rfl, ?_⟩
        refine ⟨_, OpOk.r (R.nilOk rfl) rfl, ?_⟩
        refine ⟨_, OpOk.r (R.fieldA Tryz.underlying210 rfl Tryz.sizeOf122 rfl rfl rfl) rfl, ?_⟩
        refine ⟨_, OpOk.r (R.load1 Tryz.isAgg122 rfl (kG.cells.at 4 rfl)) rfl, ?_⟩
        refine ⟨_, OpOk.r (R.move rfl) rfl, ?_⟩
        refine ⟨_, OpOk.r (R.nilOk rfl) rfl, ?_⟩
        refine ⟨_, OpOk.r (R.fieldA Tryz.underlying210 rfl Tryz.sizeOf3 rfl rfl rfl) rfl, ?_⟩
        refine ⟨_, OpOk.r (R.load1 Tryz.isAgg3 rfl (kG.cells.at 3 rfl)) rfl, ?_⟩
        refine ⟨_, OpOk.r (R.assign rfl) rfl, ?_⟩
        refine ⟨_, OpOk.r (R.assign rfl) rfl, ?_⟩
        refine ⟨_, OpOk.r (R.assign rfl) rfl, ?_⟩
        show St _ _ _ _ _
        refine St.weak [(4, _), (5, _), (6, _)] ⟨rfl, rfl, rfl, trivial⟩ ?_
        refine St.then_n ?_
        refine St.go hK13 ?_
        clear hK13
        refine St.ret ?_
        refine St.ret3 Tryz.results68 rfl rfl rfl ?_
        exact ⟨_, rfl, _, bs, by rw [hae, q2, Nat.zero_add]; rfl, oG, by rw [hae, if_neg (by simp)]; rw [q3] at qG; exact qG, E⟩

end Go.Proofs.YtjgcmpondbocfaaGreatDoor

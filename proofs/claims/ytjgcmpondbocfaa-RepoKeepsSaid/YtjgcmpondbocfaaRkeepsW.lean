/- The law RepoKeeps walked: whatever it reads, it comes to true. Under the reading of the arguments. -/
import Derived.Test.YtjgcmpondbocfaaProg
import Derived.Test.YtjgcmpondbocfaaAddW
import Derived.Test.YtjgcmpondbocfaaRepoLaw
import Derived.Test.YtjgcmpondbocfaaDagW
namespace Go.Proofs.Ytjgcmpondbocfaa
open Go.RowKit 
theorem ent12 : Ent Try.prog 12 := Ent.of Try.func12 (by kernel_rfl) rfl
theorem ent13 : Ent Try.prog 13 := Ent.of Try.func13 (by kernel_rfl) rfl
theorem ent14 : Ent Try.prog 14 := Ent.of Try.func14 (by kernel_rfl) rfl
theorem ent15 : Ent Try.prog 15 := Ent.of Try.func15 (by kernel_rfl) rfl
theorem ent16 : Ent Try.prog 16 := Ent.of Try.func16 (by kernel_rfl) rfl
theorem ent17 : Ent Try.prog 17 := Ent.of Try.func17 (by kernel_rfl) rfl
theorem sTriples_ret {xs ys : List Triple} {v u : Value} (w0 : World) (hv : RTriples w0 v xs) (hu : RTriples w0 u ys) : Ret Try.prog 17 [v, u] w0 fun r w' => r = .bool (decide (xs = ys)) ∧ Ext w0 w' := by
  obtain ⟨A, c, rfl, hc1, hc2⟩ := hv.form
  obtain ⟨A2, c2, rfl, hd1, hd2⟩ := hu.form
  have E : Ext w0 w0 := Ext.refl w0
  refine St.enter (N := 26) Try.func17 rfl Try.ntmps17 rfl ?_
  refine St.seq fun K0 hK0 => ?_
  refine St.region ?_
  refine St.r (R.assign rfl) rfl rfl ?_
  refine St.nil ?_
  refine St.weak [(0, _), (1, _)] ⟨rfl, rfl, trivial⟩ ?_
  refine St.then_n ?_
  refine St.go hK0 ?_
  clear hK0
  refine St.seq fun K1 hK1 => ?_
  refine St.seq fun K2 hK2 => ?_
  refine St.region ?_
  refine St.r (R.move rfl) rfl rfl ?_
  refine St.r (R.lenSl Try.underlying44 rfl) rfl rfl ?_
  refine St.r (R.move rfl) rfl rfl ?_
  refine St.r (R.lenSl Try.underlying44 rfl) rfl rfl ?_
  refine St.r (R.neq rfl rfl) rfl rfl ?_
  refine St.nil ?_
  refine St.weak [(0, _), (1, _), (10, _)] ⟨rfl, rfl, rfl, trivial⟩ ?_
  refine St.then_n ?_
  refine St.go hK2 ?_
  clear hK2
  refine St.condD rfl (fun h10 => ?_) (fun h10 => ?_)
  ·
    refine St.seq fun K3 hK3 => ?_
    refine St.region ?_
    refine St.r (R.assign rfl) rfl rfl ?_
    refine St.nil ?_
    refine St.weak [(4, _)] ⟨rfl, trivial⟩ ?_
    refine St.then_n ?_
    refine St.go hK3 ?_
    clear hK3
    refine St.ret ?_
    refine St.then_r ?_
    refine St.ret1 Try.results17 rfl ?_
    exact ⟨_, rfl, by rw [decide_eq_false (fun e => h10 (by rw [e]))], E⟩
  ·
    refine St.skip ?_
    refine St.then_n ?_
    refine St.go hK1 ?_
    clear hK1
    refine St.seq fun K4 hK4 => ?_
    refine St.seq fun K5 hK5 => ?_
    refine St.region ?_
    refine St.r (R.assign rfl) rfl rfl ?_
    refine St.nil ?_
    refine St.weak [(0, _), (1, _), (5, _)] ⟨rfl, rfl, rfl, trivial⟩ ?_
    refine St.then_n ?_
    refine St.go hK5 ?_
    clear hK5
    refine St.block ?_
    refine St.loop (fun (k : Nat) => [(0, .slice A xs.length c), (1, .slice A2 ys.length c2), (5, .int .i64 (k : Int))])
        (fun (k : Nat) w => k ≤ xs.length ∧ Ext w0 w ∧ xs.take k = ys.take k)
        (fun (k : Nat) => xs.length - k) 0 ⟨rfl, rfl, rfl, trivial⟩ ?_ ?_
    · exact ⟨Nat.zero_le _, E, by simp⟩
    rintro k w ⟨hk, E, hall⟩
    show St _ _ [(0, .slice A xs.length c), (1, .slice A2 ys.length c2), (5, .int .i64 (k : Int))] _ _
    refine St.seq fun K6 hK6 => ?_
    refine St.seq fun K7 hK7 => ?_
    refine St.region ?_
    refine St.r (R.move rfl) rfl rfl ?_
    refine St.r (R.move rfl) rfl rfl ?_
    refine St.r (R.lenSl Try.underlying44 rfl) rfl rfl ?_
    refine St.r (R.lss rfl rfl) rfl rfl ?_
    refine St.nil ?_
    refine St.weak [(0, _), (1, _), (5, _), (14, _)] ⟨rfl, rfl, rfl, rfl, trivial⟩ ?_
    refine St.then_n ?_
    refine St.go hK7 ?_
    clear hK7
    refine St.condD rfl (fun h14 => ?_) (fun h14 => ?_)
    ·
      obtain ⟨x, hx⟩ := get_of_lt (xs := xs) (k := k) (by omega)
      obtain ⟨y, hy⟩ := get_of_lt (xs := ys) (k := k) (by omega)
      obtain ⟨b, o, rfl, hxc⟩ := hv.get' hx
      obtain ⟨b2, o2, rfl, hyc⟩ := hu.get' hy
      refine St.skip ?_
      refine St.then_n ?_
      refine St.go hK6 ?_
      clear hK6
      refine St.seq fun K8 hK8 => ?_
      refine St.block ?_
      refine St.seq fun K9 hK9 => ?_
      refine St.weak [(0, _), (1, _), (5, _)] ⟨rfl, rfl, rfl, trivial⟩ ?_
      refine St.draw mixed rfl rfl rfl rfl ?_
      replace E := Ext.trans E (Ext.drew _)
      refine ⟨_, OpOk.r (R.move rfl) rfl, ?_⟩
      refine ⟨_, OpOk.r (R.move rfl) rfl, ?_⟩
      refine ⟨_, OpOk.r (R.indexS k Try.underlying44 Try.sizeOf64 rfl rfl rfl (by omega)) rfl, ?_⟩
      refine ⟨_, OpOk.r (R.loadA Try.isAgg64 Try.sizeOf64 rfl (E.cells hxc) rfl) rfl, ?_⟩
      refine ⟨_, OpOk.r (R.move rfl) rfl, ?_⟩
      refine ⟨_, OpOk.r (R.move rfl) rfl, ?_⟩
      refine ⟨_, OpOk.r (R.indexS k Try.underlying44 Try.sizeOf64 rfl rfl rfl (by omega)) rfl, ?_⟩
      refine ⟨_, OpOk.r (R.loadA Try.isAgg64 Try.sizeOf64 rfl (E.cells hyc) rfl) rfl, ?_⟩
      refine ⟨_, OpOk.r (R.neAgg Try.eqGuardType64 (eqTriple x y) rfl rfl) rfl, ?_⟩
      show St _ _ _ _ _
      refine St.weak [(0, _), (1, _), (5, _), (25, _)] ⟨rfl, rfl, rfl, rfl, trivial⟩ ?_
      refine St.then_n ?_
      refine St.go hK9 ?_
      clear hK9
      refine St.cond rfl (fun h25 => ?_) (fun h25 => ?_)
      ·
        refine St.seq fun K10 hK10 => ?_
        refine St.region ?_
        refine St.r (R.assign rfl) rfl rfl ?_
        refine St.nil ?_
        refine St.weak [(4, _)] ⟨rfl, trivial⟩ ?_
        refine St.then_n ?_
        refine St.go hK10 ?_
        clear hK10
        refine St.ret ?_
        refine St.in_r ?_
        refine St.then_r ?_
        refine St.then_r ?_
        refine St.in_r ?_
        refine St.then_r ?_
        refine St.ret1 Try.results17 rfl ?_
        exact ⟨_, rfl, by rw [decide_eq_false (fun e => (by simpa using h25 : ¬ x = y) (by subst e; rw [hx] at hy; injection hy))], E⟩
      ·
        refine St.skip ?_
        refine St.in_n ?_
        refine St.then_n ?_
        refine St.go hK8 ?_
        clear hK8
        refine St.region ?_
        refine St.r (R.move rfl) rfl rfl ?_
        refine St.r (R.add rfl rfl (by omega) (by omega)) rfl rfl ?_
        refine St.r (R.assign rfl) rfl rfl ?_
        refine St.nil ?_
        refine St.weak [(0, _), (1, _), (5, _)] ⟨rfl, rfl, rfl, trivial⟩ ?_
        refine St.then_n ?_
        refine St.round (k + 1) ⟨rfl, rfl, rfl, trivial⟩ ?_ ?_
        · refine ⟨by omega, E, ?_⟩
          rw [take_snoc hx, take_snoc hy, hall]
          congr 2
          simpa using h25
        · omega
    ·
      refine St.exit ?_
      refine St.then_x ?_
      refine St.then_x ?_
      refine St.in_x ?_
      refine St.then_n ?_
      refine St.go hK4 ?_
      clear hK4
      refine St.seq fun K11 hK11 => ?_
      refine St.region ?_
      refine St.r (R.assign rfl) rfl rfl ?_
      refine St.nil ?_
      refine St.weak [(4, _)] ⟨rfl, trivial⟩ ?_
      refine St.then_n ?_
      refine St.go hK11 ?_
      clear hK11
      refine St.ret ?_
      refine St.ret1 Try.results17 rfl ?_
      rw [List.take_of_length_le (by omega), List.take_of_length_le (by omega)] at hall
      exact ⟨_, rfl, by rw [decide_eq_true hall], E⟩


/-- What the law keeps of what it did. -/
structure Kp (r : Repo) (ids : List Int) (kept : List (List Triple)) : Prop where
  len : kept.length = ids.length
  at_ : ∀ (j : Nat) x, ids[j]? = some x → ∃ (k : Nat) (t : List Triple), x = (k : Int) ∧ k < r.cs.length ∧ kept[j]? = some t ∧ r.gs[k]? = some t
  few : r.cs.length ≤ ids.length + 1
theorem Kp.snoc {r r' : Repo} {ids : List Int} {kept : List (List Triple)} (h : Kp r ids kept) (hk : Keeps r r') {n : Nat} {t : List Triple} (hn : n < r'.cs.length) (ht : r'.gs[n]? = some t) : Kp r' (ids ++ [(n : Int)]) (kept ++ [t]) := by
  have hl := h.len
  refine ⟨by simp [hl], fun j x hx => ?_, by have := h.few; have := hk.hi; simp; omega⟩
  rcases get_snoc hx with ⟨hx, hj⟩ | ⟨rfl, rfl⟩
  · obtain ⟨k, t', h1, h2, h3, h4⟩ := h.at_ j x hx
    exact ⟨k, t', h1, Nat.lt_of_lt_of_le h2 hk.lo, get_app h3, hk.gs k t' h4⟩
  · refine ⟨n, t, rfl, hn, ?_, ht⟩
    rw [← hl, List.getElem?_append_right (Nat.le_refl _), Nat.sub_self]; rfl
theorem first_ok : (comR codeL Repo.empty ⟨#[97]⟩ [] ⟨#[109]⟩).2.1 = none ∧ (comR codeL Repo.empty ⟨#[97]⟩ [] ⟨#[109]⟩).1 = 0 := by
  have h1 : wordErr ⟨#[97]⟩ = none := by decide
  have h2 : chkErr [] ⟨#[109]⟩ = none := by decide
  have h3 : fullB Repo.empty ⟨#[97]⟩ = false := rfl
  have h4 : (codeL [] []).size ≤ 40000 := codeL_size IsSet.nil IsSet.nil
  have h5 : (putS Sto.empty (codeL [] [])).2.1 = none := by
    have hr : roomB Sto.empty (codeL [] []) = true := by
      simp [roomB, roomN, roomL, Sto.empty, getM_nil]; omega
    rw [putS, if_neg (by simp [Sto.empty, getM_nil]), if_pos hr]
  have h6 : addR codeL Repo.empty (parR Repo.empty ⟨#[97]⟩) [] ⟨#[109]⟩ = (0, none, { Repo.empty with st := (putS Sto.empty (codeL [] [])).2.2, cs := [⟨[], (putS Sto.empty (codeL [] [])).1, ⟨#[109]⟩⟩], gs := [[]] }) := by
    have e : partL [] (baseR Repo.empty []) false = [] := rfl
    have e2 : partL (baseR Repo.empty []) [] false = [] := rfl
    show addR codeL Repo.empty [] [] ⟨#[109]⟩ = _
    rw [addR, if_neg (by simp [Repo.empty, idxOf]), if_neg (by simp [Repo.empty]), e, e2, if_neg (by show ¬ (putS Sto.empty (codeL [] [])).2.1.isSome = true; rw [h5]; simp)]
    rfl
  rw [comR, h1, if_neg (by simp), h2, if_neg (by simp), h3, if_neg (by simp), h6]
  exact ⟨rfl, rfl⟩

set_option maxRecDepth 100000 in
theorem RepoKeeps_ret {sets : List (List Triple)} {names : List ByteArray} {v u : Value} (w0 : World) (hv : RSl RTL 1 w0 v sets) (hu : RStrs w0 u names) :
    Ret Try.prog 4 [v, u] w0 fun r w' => r = .bool true ∧ Ext w0 w' := by
  obtain ⟨A, c, rfl, hc1, hc2⟩ := hv.form
  obtain ⟨A2, c2, rfl, hd1, hd2⟩ := hu.form
  have E : Ext w0 w0 := Ext.refl w0
  refine St.enter (N := 160) Try.func4 rfl Try.ntmps4 rfl ?_
  refine St.seq fun K0 hK0 => ?_
  refine St.region ?_
  refine St.r (R.assign rfl) rfl rfl ?_
  refine St.nil ?_
  refine St.weak [(0, _), (1, _)] ⟨rfl, rfl, trivial⟩ ?_
  refine St.then_n ?_
  refine St.go hK0 ?_
  clear hK0
  refine St.seq fun K1 hK1 => ?_
  refine St.region ?_
  refine St.call rfl rfl ent12 (repoNew_ret _) rfl ?_
  rintro r25 w25 ⟨n, rfl, q0, hv0, e25⟩
  replace E := Ext.trans E e25
  refine St.r (R.assign rfl) rfl rfl ?_
  refine St.nil ?_
  refine St.weak [(0, _), (1, _), (5, _)] ⟨rfl, rfl, rfl, trivial⟩ ?_
  refine St.then_n ?_
  refine St.go hK1 ?_
  clear hK1
  refine St.seq fun K2 hK2 => ?_
  refine St.region ?_
  refine St.r (R.move rfl) rfl rfl ?_
  refine St.call rfl rfl ent13 (Commit_ret Repo.Ok.empty _ q0 (RSl.nil _ _ _) (by simp)) rfl ?_
  rintro r28 w28 ⟨n1, rfl, q1, hG, g28⟩
  replace E := Ext.then E g28 (fun j hj hu => by have := hv0 j (q0.sub j hu); omega)
  have z0 := g28.size
  have hv1 : ∀ k, n1.V k → w0.heap.size ≤ k := fun k hk => (hG.2.1 k hk).elim (hv0 k) (fun h => by have := e25.size; omega)
  obtain ⟨k0, r1, hc, hok, hgk, hk0, hh, hkp⟩ : ∃ (k : Nat) (r' : Repo), comR codeL Repo.empty ⟨#[97]⟩ [] ⟨#[109]⟩ = ((k : Int), none, r') ∧ r'.Ok ∧ r'.gs[k]? = some [] ∧ k < r'.cs.length ∧ headR r' ⟨#[97]⟩ = ((k : Int), none) ∧ Keeps Repo.empty r' := by
    rcases comR_cases (code := codeL) Repo.Ok.empty ⟨#[97]⟩ [] ⟨#[109]⟩ with ⟨e, he⟩ | h
    · have := first_ok.1; rw [he] at this; cases this
    · exact h
  have hz := first_ok.2
  rw [hc] at hz
  obtain rfl : k0 = 0 := by simpa using hz
  rw [hc] at q1 ⊢
  dsimp only at q1 ⊢
  rw [← hG.1]
  have hfew := hkp.hi
  clear q0
  refine St.r (R.move rfl) rfl rfl ?_
  refine St.r (R.extract rfl rfl) rfl rfl ?_
  refine St.r (R.extract rfl rfl) rfl rfl ?_
  refine St.r (R.assign rfl) rfl rfl ?_
  refine St.r (R.assign rfl) rfl rfl ?_
  refine St.nil ?_
  refine St.weak [(0, _), (1, _), (5, _), (6, _), (7, _)] ⟨rfl, rfl, rfl, rfl, rfl, trivial⟩ ?_
  refine St.then_n ?_
  refine St.go hK2 ?_
  clear hK2
  refine St.seq fun K3 hK3 => ?_
  refine St.region ?_
  refine St.r (R.move rfl) rfl rfl ?_
  refine St.call rfl rfl ent14 (Head_ret _ q1) rfl ?_
  rintro r33 w33 ⟨hx33, e33⟩
  replace E := Ext.trans E e33
  replace q1 := q1.ext e33
  rw [hh] at hx33
  subst hx33
  refine St.r (R.move rfl) rfl rfl ?_
  refine St.r (R.extract rfl rfl) rfl rfl ?_
  refine St.r (R.extract rfl rfl) rfl rfl ?_
  refine St.r (R.assign rfl) rfl rfl ?_
  refine St.r (R.assign rfl) rfl rfl ?_
  refine St.nil ?_
  refine St.weak [(0, _), (1, _), (5, _), (6, _), (7, _), (8, _), (9, _)] ⟨rfl, rfl, rfl, rfl, rfl, rfl, rfl, trivial⟩ ?_
  refine St.then_n ?_
  refine St.go hK3 ?_
  clear hK3
  refine St.seq fun K4 hK4 => ?_
  refine St.seq fun K5 hK5 => ?_
  refine St.region ?_
  refine St.r (R.move rfl) rfl rfl ?_
  refine St.r (Runs.lit (c := false) (R.notNil (et := 91) (e := _) Try.underlying27 rfl) (rfl)) rfl rfl ?_
  refine St.r (R.move rfl) rfl rfl ?_
  refine St.take (dg := 38) rfl rfl ?_ rfl
  refine St.r (R.move rfl) rfl rfl ?_
  refine St.take (dg := 38) rfl rfl ?_ rfl
  refine St.r (Runs.lit (c := false) (R.notNil (et := 91) (e := _) Try.underlying27 rfl) (rfl)) rfl rfl ?_
  refine St.r (R.pickF rfl rfl) rfl rfl ?_
  refine St.r (R.move rfl) rfl rfl ?_
  refine St.take (dg := 42) rfl rfl ?_ rfl
  refine St.r (R.move rfl) rfl rfl ?_
  refine St.take (dg := 42) rfl rfl ?_ rfl
  refine St.r (Runs.lit (c := false) (R.neq rfl rfl) (decide_eq_false (by simp))) rfl rfl ?_
  refine St.r (R.pickF rfl rfl) rfl rfl ?_
  refine St.r (R.move rfl) rfl rfl ?_
  refine St.take (dg := 46) rfl rfl ?_ rfl
  refine St.r (R.move rfl) rfl rfl ?_
  refine St.take (dg := 46) rfl rfl ?_ rfl
  refine St.r (Runs.lit (c := false) (R.neq rfl rfl) (decide_eq_false (by simp))) rfl rfl ?_
  refine St.r (R.pickF rfl rfl) rfl rfl ?_
  refine St.nil ?_
  refine St.weak [(0, _), (1, _), (5, _), (49, _)] ⟨rfl, rfl, rfl, rfl, trivial⟩ ?_
  refine St.then_n ?_
  refine St.go hK5 ?_
  clear hK5
  refine St.condF rfl ?_
  refine St.skip ?_
  refine St.then_n ?_
  refine St.go hK4 ?_
  clear hK4
  refine St.seq fun K6 hK6 => ?_
  refine St.region ?_
  refine St.r (R.assign rfl) rfl rfl ?_
  refine St.nil ?_
  refine St.weak [(0, _), (1, _), (5, _), (10, _)] ⟨rfl, rfl, rfl, rfl, trivial⟩ ?_
  refine St.then_n ?_
  refine St.go hK6 ?_
  clear hK6
  refine St.seq fun K7 hK7 => ?_
  refine St.region ?_
  refine St.r (R.assign rfl) rfl rfl ?_
  refine St.nil ?_
  refine St.weak [(0, _), (1, _), (5, _), (10, _), (11, _)] ⟨rfl, rfl, rfl, rfl, rfl, trivial⟩ ?_
  refine St.then_n ?_
  refine St.go hK7 ?_
  clear hK7
  refine St.seq fun K8 hK8 => ?_
  refine St.seq fun K9 hK9 => ?_
  refine St.region ?_
  refine St.r (R.assign rfl) rfl rfl ?_
  refine St.nil ?_
  refine St.weak [(0, _), (1, _), (5, _), (10, _), (11, _), (12, _)] ⟨rfl, rfl, rfl, rfl, rfl, rfl, trivial⟩ ?_
  refine St.then_n ?_
  refine St.go hK9 ?_
  clear hK9
  refine St.block ?_
  refine St.loop (fun (x : Nat × RNames × Repo × List Int × List Hd × List (List Triple) × Value × Value) => match x with | (i, n, r, ids, ks, kept, idv, kv) => [(0, .slice A sets.length c), (1, .slice A2 names.length c2), (5, .pointer (some ⟨n.g, 0, none⟩)), (10, idv), (11, kv), (12, .int .i64 (i : Int))])
      (fun (x : Nat × RNames × Repo × List Int × List Hd × List (List Triple) × Value × Value) w => match x with | (i, n, r, ids, ks, kept, idv, kv) => i ≤ 30 ∧ Ext w0 w ∧ RepoB rt w n r ∧ r.Ok ∧ Own encInt 1 w0.heap.size 3 w idv ids ∧ Own encHd 1 w0.heap.size 44 w kv ks ∧ Kp r ids kept ∧ ids.length ≤ i ∧ ks.length = kept.length ∧ (∀ (j : Nat) x t, ks[j]? = some x → kept[j]? = some t → RTriples w0 x.val t) ∧ (∀ k, n.V k → w0.heap.size ≤ k) ∧ (∀ k, idv.ownBlock = some k → ¬ n.V k ∧ kv.ownBlock ≠ some k) ∧ (∀ k, kv.ownBlock = some k → ¬ n.V k))
      (fun (x : Nat × RNames × Repo × List Int × List Hd × List (List Triple) × Value × Value) => match x with | (i, n, r, ids, ks, kept, idv, kv) => 30 - i) (0, n1, r1, [], [], [], .slice none 0 0, .slice none 0 0) ⟨rfl, rfl, rfl, rfl, rfl, rfl, trivial⟩ ?_ ?_
  · exact ⟨Nat.zero_le _, E, q1, hok, Own.nil _ _ _ _ _, Own.nil _ _ _ _ _, ⟨rfl, fun j x h => (by simp at h), (by simpa [Repo.empty] using hfew)⟩, Nat.le_refl _, rfl, fun j x t h => (by simp at h), hv1, fun k h => (by cases h), fun k h => (by cases h)⟩
  rintro ⟨i, n, r, ids, ks, kept, idv, kv⟩ w ⟨hi30, E, q0, hok, o10, o11, kp, hil, hkl, hkr, hv0, hs1, hs2⟩
  show St _ _ [(0, .slice A sets.length c), (1, .slice A2 names.length c2), (5, .pointer (some ⟨n.g, 0, none⟩)), (10, idv), (11, kv), (12, .int .i64 (i : Int))] _ _
  obtain ⟨IA, IC, rfl, -, -⟩ := o10.form
  obtain ⟨KA, KC, rfl, -, -⟩ := o11.form
  refine St.seq fun K10 hK10 => ?_
  refine St.seq fun K11 hK11 => ?_
  by_cases h53 : (i : Int) < (sets.length : Int)
  ·
    by_cases h58 : (i : Int) < (names.length : Int)
    ·
      refine St.region ?_
      refine St.r (R.move rfl) rfl rfl ?_
      refine St.r (R.move rfl) rfl rfl ?_
      refine St.r (R.lenSl Try.underlying36 rfl) rfl rfl ?_
      refine St.r (Runs.lit (c := true) (R.lss rfl rfl) (decide_eq_true h53)) rfl rfl ?_
      refine St.r (R.move rfl) rfl rfl ?_
      refine St.take (dg := 54) rfl rfl ?_ rfl
      refine St.r (R.move rfl) rfl rfl ?_
      refine St.take (dg := 54) rfl rfl ?_ rfl
      refine St.r (R.move rfl) rfl rfl ?_
      refine St.take (dg := 54) rfl rfl ?_ rfl
      refine St.r (R.lenSl Try.underlying37 rfl) rfl rfl ?_
      refine St.take (dg := 54) rfl rfl ?_ rfl
      refine St.r (Runs.lit (c := true) (R.lss rfl rfl) (decide_eq_true h58)) rfl rfl ?_
      refine St.r (R.pickT rfl rfl) rfl rfl ?_
      refine St.r (R.move rfl) rfl rfl ?_
      refine St.take (dg := 60) rfl rfl ?_ rfl
      refine St.r (R.move rfl) rfl rfl ?_
      refine St.take (dg := 60) rfl rfl ?_ rfl
      refine St.r (R.lss rfl rfl) rfl rfl ?_
      refine St.r (R.pickT rfl rfl) rfl rfl ?_
      refine St.nil ?_
      refine St.weak [(0, _), (1, _), (5, _), (10, _), (11, _), (12, _), (63, _)] ⟨rfl, rfl, rfl, rfl, rfl, rfl, rfl, trivial⟩ ?_
      refine St.then_n ?_
      refine St.go hK11 ?_
      clear hK11
      refine St.condD rfl (fun h63 => ?_) (fun h63 => ?_)
      ·
        obtain ⟨ts, hx⟩ := get_of_lt (xs := sets) (k := i) (by omega)
        obtain ⟨xb, xo, xv, rfl, hxc, hxv⟩ := hv.getT hx
        obtain ⟨TA, TC, rfl, -, -⟩ := hxv.form
        obtain ⟨b, hb⟩ := get_of_lt (xs := names) (k := i) (by omega)
        obtain ⟨yb, yo, rfl, hyc⟩ := hu.get' hb
        have hVw := q0.lt
        have htu : 0 < ts.length → ∀ k, (Value.slice TA ts.length TC).ownBlock = some k → ¬ n.V k := fun h0 k hk hV => by
          have h1 := hxv.lt (fun x => by rw [encTriple_len]; omega) h0 hk
          have h2 := hv0 k hV
          omega
        refine St.skip ?_
        refine St.then_n ?_
        refine St.go hK10 ?_
        clear hK10
        refine St.seq fun K12 hK12 => ?_
        refine St.block ?_
        refine St.seq fun K13 hK13 => ?_
        refine St.region ?_
        refine St.r (R.move rfl) rfl rfl ?_
        refine St.call rfl rfl ent15 (Commits_ret hok.few hok.par _ q0) rfl ?_
        rintro r67 w67 ⟨c67, e67⟩
        replace E := Ext.trans E e67
        replace q0 := q0.ext e67
        replace o10 := o10.ext e67
        replace o11 := o11.ext e67
        obtain ⟨LA, LC, rfl, -, -⟩ := c67.form
        refine St.r (R.lenSl Try.underlying22 rfl) rfl rfl ?_
        refine St.r (R.assign rfl) rfl rfl ?_
        refine St.nil ?_
        refine St.weak [(0, _), (1, _), (5, _), (10, _), (11, _), (12, _), (13, _)] ⟨rfl, rfl, rfl, rfl, rfl, rfl, rfl, trivial⟩ ?_
        refine St.then_n ?_
        refine St.go hK13 ?_
        clear hK13
        refine St.seq fun K14 hK14 => ?_
        refine St.weak [(0, _), (1, _), (5, _), (10, _), (11, _), (12, _), (13, _)] ⟨rfl, rfl, rfl, rfl, rfl, rfl, rfl, trivial⟩ ?_
        refine St.drawT (S := n.U) (eff := [9]) mixed rfl rfl rfl rfl ?_
        replace E := Ext.trans E (Ext.drew _)
        replace q0 := q0.ext (Ext.drew _)
        replace o10 := o10.ext (Ext.drew _)
        replace o11 := o11.ext (Ext.drew _)
        refine DrawT.quiet 0 rfl rfl (fun W eW => OpOk.r (R.move rfl) rfl) ?_
        refine DrawT.quiet 1 rfl rfl (fun W eW => OpOk.r (R.move rfl) rfl) ?_
        refine DrawT.quiet 2 rfl rfl (fun W eW => OpOk.r (R.move rfl) rfl) ?_
        refine DrawT.quiet 3 rfl rfl (fun W eW => OpOk.r (R.indexS i Try.underlying37 Try.sizeOf9 rfl rfl rfl (by omega)) rfl) ?_
        have hp74 := ((E.cells hyc).at 0 rfl)
        refine DrawT.pinL 4 rfl rfl Try.isAgg9 rfl hp74 ?_
        refine DrawT.quiet 5 rfl rfl (fun W eW => OpOk.r (R.move rfl) rfl) ?_
        refine DrawT.quiet 6 rfl rfl (fun W eW => OpOk.r (R.move rfl) rfl) ?_
        refine DrawT.quiet 7 rfl rfl (fun W eW => OpOk.r (R.indexS i Try.underlying36 Try.sizeOf44 rfl rfl rfl (by omega)) rfl) ?_
        have hp78 := (E.cell hxc)
        refine DrawT.pinL 8 rfl rfl Try.isAgg44 rfl hp78 ?_
        refine DrawT.one (n := 9) [] rfl rfl rfl (by kernel_rfl) (OpC.plain (Eff.call rfl rfl ent13 (Commit_ret (b := b) (ts := ts) hok _ q0 (hxv.ext (REnc.firm _) E) (fun h0 k hk hU => htu h0 k hk (q0.sub k hU)))) rfl) ?_ ?_
        · rintro r79 w79 ⟨n1, rfl, q1, hG, g79⟩
          refine ⟨?_, trivial⟩
          exact g79
        rintro r79 w79 ⟨n1, rfl, q1, hG, g79⟩
        have hz79 := E.size
        have hbI : ∀ k, (Value.slice IA ids.length IC).ownBlock = some k → k < w67.drew.heap.size := fun k hk => (o10.base hk).2
        have hbK : ∀ k, (Value.slice KA ks.length KC).ownBlock = some k → k < w67.drew.heap.size := fun k hk => (o11.base hk).2
        have hv1 : ∀ k, n1.V k → w0.heap.size ≤ k := fun k hk => (hG.2.1 k hk).elim (hv0 k) (fun h => by omega)
        have hs3 : ∀ k, (Value.slice IA ids.length IC).ownBlock = some k → ¬ n1.V k ∧ (Value.slice KA ks.length KC).ownBlock ≠ some k := fun k hk => ⟨fun h => (hG.2.1 k h).elim (hs1 k hk).1 (fun h => by have := hbI k hk; omega), (hs1 k hk).2⟩
        have hs4 : ∀ k, (Value.slice KA ks.length KC).ownBlock = some k → ¬ n1.V k := fun k hk h => (hG.2.1 k h).elim (hs2 k hk) (fun h => by have := hbK k hk; omega)
        replace o10 := o10.chg g79 (fun k hk hU => (hs1 k hk).1 (q0.sub k hU))
        replace o11 := o11.chg g79 (fun k hk hU => hs2 k hk (q0.sub k hU))
        replace E := Ext.then E g79 (fun j hj hU => by have := hv0 j (q0.sub j hU); omega)
        have hgg := hG.1
        clear q0
        refine DrawT.quiet 10 rfl rfl (fun W eW => OpOk.r (R.move rfl) rfl) ?_
        refine DrawT.quiet 11 rfl rfl (fun W eW => OpOk.r (R.extract rfl rfl) rfl) ?_
        refine DrawT.quiet 12 rfl rfl (fun W eW => OpOk.r (R.extract rfl rfl) rfl) ?_
        refine DrawT.quiet 13 rfl rfl (fun W eW => OpOk.r (R.assign rfl) rfl) ?_
        refine DrawT.quiet 14 rfl rfl (fun W eW => OpOk.r (R.assign rfl) rfl) ?_
        refine DrawT.fin rfl ?_
        show St _ _ _ _ _
        refine St.weak [(0, _), (1, _), (5, _), (10, _), (11, _), (12, _), (13, _), (14, _), (15, _)] ⟨rfl, rfl, rfl, rfl, rfl, rfl, rfl, rfl, rfl, trivial⟩ ?_
        refine St.then_n ?_
        refine St.go hK14 ?_
        clear hK14
        refine St.seq fun K15 hK15 => ?_
        refine St.seq fun K16 hK16 => ?_
        refine St.region ?_
        refine St.r (R.move rfl) rfl rfl ?_
        refine St.r (R.notNil (et := 91) (e := _) Try.underlying27 rfl) rfl rfl ?_
        refine St.nil ?_
        refine St.weak [(0, _), (1, _), (5, _), (10, _), (11, _), (12, _), (13, _), (14, _), (83, _)] ⟨rfl, rfl, rfl, rfl, rfl, rfl, rfl, rfl, rfl, trivial⟩ ?_
        refine St.then_n ?_
        refine St.go hK16 ?_
        clear hK16
        refine St.cond rfl (fun h83 => ?_) (fun h83 => ?_)
        ·
          obtain ⟨e, hc⟩ : ∃ e, comR codeL r b ts ⟨#[109]⟩ = (0, some e, r) := by
            rcases comR_cases (code := codeL) hok b ts ⟨#[109]⟩ with h | ⟨k, r', h, _⟩
            · exact h
            · rw [h] at h83; cases h83
          rw [hc] at q1
          rw [← hgg]
          refine St.seq fun K17 hK17 => ?_
          refine St.seq fun K18 hK18 => ?_
          refine St.region ?_
          refine St.r (R.move rfl) rfl rfl ?_
          refine St.call rfl rfl ent15 (Commits_ret hok.few hok.par _ q1) rfl ?_
          rintro r85 w85 ⟨c85, e85⟩
          replace E := Ext.trans E e85
          replace o10 := o10.ext e85
          replace o11 := o11.ext e85
          replace q1 := q1.ext e85
          obtain ⟨LA5, LC5, rfl, -, -⟩ := c85.form
          refine St.r (R.lenSl Try.underlying22 rfl) rfl rfl ?_
          refine St.r (R.move rfl) rfl rfl ?_
          refine St.r (Runs.lit (c := false) (R.neq rfl rfl) (decide_eq_false (fun h => h rfl))) rfl rfl ?_
          refine St.nil ?_
          refine St.weak [(0, _), (1, _), (5, _), (10, _), (11, _), (12, _), (88, _)] ⟨rfl, rfl, rfl, rfl, rfl, rfl, rfl, trivial⟩ ?_
          refine St.then_n ?_
          refine St.go hK18 ?_
          clear hK18
          refine St.condF rfl ?_
          refine St.skip ?_
          refine St.then_n ?_
          refine St.go hK17 ?_
          clear hK17
          refine St.exit ?_
          refine St.then_x ?_
          refine St.in_x ?_
          refine St.then_n ?_
          refine St.go hK12 ?_
          clear hK12
          refine St.region ?_
          refine St.r (R.move rfl) rfl rfl ?_
          refine St.r (R.add rfl rfl (by omega) (by omega)) rfl rfl ?_
          refine St.r (R.assign rfl) rfl rfl ?_
          refine St.nil ?_
          refine St.weak [(0, _), (1, _), (5, _), (10, _), (11, _), (12, _)] ⟨rfl, rfl, rfl, rfl, rfl, rfl, trivial⟩ ?_
          refine St.then_n ?_
          refine St.round (i + 1, n1, r, ids, ks, kept, .slice IA ids.length IC, .slice KA ks.length KC) ⟨rfl, rfl, (look_eq rfl (by rw [hG.1])), rfl, rfl, rfl, trivial⟩ ?_ ?_
          · try dsimp only
            exact ⟨by omega, E, q1, hok, o10, o11, kp, by omega, hkl, hkr, hv1, hs3, hs4⟩
          · try dsimp only
            omega
        ·
          obtain ⟨k1, r1, hc, hok1, hgk, hk1, hh, hkp⟩ : ∃ (k : Nat) (r' : Repo), comR codeL r b ts ⟨#[109]⟩ = ((k : Int), none, r') ∧ r'.Ok ∧ r'.gs[k]? = some ts ∧ k < r'.cs.length ∧ headR r' b = ((k : Int), none) ∧ Keeps r r' := by
            rcases comR_cases (code := codeL) hok b ts ⟨#[109]⟩ with ⟨e, h⟩ | h
            · rw [h] at h83; cases h83
            · exact h
          rw [hc] at q1 ⊢
          dsimp only at q1 ⊢
          rw [← hgg]
          have kp1 := kp.snoc hkp hk1 hgk
          have hkeptl := kp.len
          have hfl := hok1.few
          have h60 := hok1.sets
          refine St.skip ?_
          refine St.then_n ?_
          refine St.go hK15 ?_
          clear hK15
          refine St.seq fun K19 hK19 => ?_
          refine St.region ?_
          refine St.r (R.move rfl) rfl rfl ?_
          refine St.r (R.move rfl) rfl rfl ?_
          refine St.buildSl Try.underlying23 Try.sizeOf3 Try.zeroValue3 rfl rfl rfl rfl (by intro u hu; simp only [List.mem_cons, List.not_mem_nil, or_false] at hu; first | (subst hu; rfl) | (rcases hu with rfl | rfl <;> rfl) | (rcases hu with rfl | rfl | rfl <;> rfl) | (rcases hu with rfl | rfl | rfl | rfl <;> rfl)) rfl ?_
          intro w91 b91 hb91 hs91 e91 k91
          have qE91 := E.size
          replace E := Ext.trans E e91
          replace o10 := o10.ext e91
          replace o11 := o11.ext e91
          replace q1 := q1.ext e91
          have hqV := q1.lt
          have hqK := fun k (hk : (Value.slice KA ks.length KC).ownBlock = some k) => (o11.base hk).2
          refine St.append (enc := encInt) (fun _ => rfl) one_int Try.underlying23 info3 rfl rfl rfl rfl o10 (RSl.mk (enc := encInt) (xs := [(k1 : Int)]) encInt_len k91.cells (fun i u hu => hu) (by simp) (by simp)) (by simp; omega) (by simp; omega) E.size rfl ?_
          intro v92 w92 a92 g92 at92
          replace E := Ext.then E g92 (by intro j hj hk; have := (o10.base hk).1; omega)
          replace o11 := o11.chg g92 (fun k hk e => (hs3 k e).2 hk)
          replace q1 := q1.chg g92 (fun k hV hk => (hs3 k hk).1 hV)
          clear o10; have o10 := a92; clear a92
          have hs5 : ∀ k, v92.ownBlock = some k → ¬ n1.V k ∧ (Value.slice KA ks.length KC).ownBlock ≠ some k := fun k hk => by
            rcases at92 with e | e
            · exact hs3 k (e ▸ hk)
            · have hk2 := e.symm.trans hk
              injection hk2 with hk2
              subst hk2
              exact ⟨fun h => by have := hqV _ h; omega, fun h => by have := hqK _ h; omega⟩
          have hw92 := g92.size
          refine St.r (R.assign rfl) rfl rfl ?_
          refine St.nil ?_
          refine St.weak [(0, _), (1, _), (5, _), (10, _), (11, _), (12, _), (14, _)] ⟨rfl, rfl, rfl, rfl, rfl, rfl, rfl, trivial⟩ ?_
          refine St.then_n ?_
          refine St.go hK19 ?_
          clear hK19
          refine St.seq fun K20 hK20 => ?_
          refine St.region ?_
          refine St.r (R.move rfl) rfl rfl ?_
          refine St.r (R.move rfl) rfl rfl ?_
          refine St.r (R.move rfl) rfl rfl ?_
          refine St.r (R.indexS i Try.underlying36 Try.sizeOf44 rfl rfl rfl (by omega)) rfl rfl ?_
          refine St.r (R.load1 Try.isAgg44 rfl (E.cell hxc)) rfl rfl ?_
          refine St.buildSl Try.underlying36 Try.sizeOf44 Try.zeroValue44 rfl rfl rfl rfl (by intro u hu; simp only [List.mem_cons, List.not_mem_nil, or_false] at hu; first | (subst hu; rfl) | (rcases hu with rfl | rfl <;> rfl) | (rcases hu with rfl | rfl | rfl <;> rfl) | (rcases hu with rfl | rfl | rfl | rfl <;> rfl)) rfl ?_
          intro w98 b98 hb98 hs98 e98 k98
          have qE98 := E.size
          replace E := Ext.trans E e98
          replace o10 := o10.ext e98
          replace o11 := o11.ext e98
          replace q1 := q1.ext e98
          have hqV2 := q1.lt
          have hqI := fun k (hk : v92.ownBlock = some k) => (o10.base hk).2
          refine St.append (enc := encHd) (fun _ => rfl) one_hd Try.underlying36 info44 rfl rfl rfl rfl o11 (RSl.mk (enc := encHd) (xs := [⟨TA, ts.length, TC⟩]) encHd_len k98.cells (fun i u hu => hu) (by simp) (by simp)) (by simp; omega) (by simp; omega) E.size rfl ?_
          intro v99 w99 a99 g99 at99
          replace E := Ext.then E g99 (by intro j hj hk; have := (o11.base hk).1; omega)
          replace o10 := o10.chg g99 (fun k hk e => (hs5 k hk).2 e)
          replace q1 := q1.chg g99 (fun k hV hk => hs4 k hk hV)
          clear o11; have o11 := a99; clear a99
          have hs7 : ∀ k, v92.ownBlock = some k → ¬ n1.V k ∧ v99.ownBlock ≠ some k := fun k hk => ⟨(hs5 k hk).1, fun h => by
            rcases at99 with e | e
            · exact (hs5 k hk).2 (e ▸ h)
            · have h2 := e.symm.trans h
              injection h2 with h2
              have := hqI k hk
              omega⟩
          have hs8 : ∀ k, v99.ownBlock = some k → ¬ n1.V k := fun k hk hV => by
            rcases at99 with e | e
            · exact hs4 k (e ▸ hk) hV
            · have h2 := e.symm.trans hk
              injection h2 with h2
              have := hqV2 k hV
              omega
          have hkr1 : ∀ (j : Nat) x t, (ks ++ [⟨TA, ts.length, TC⟩])[j]? = some x → (kept ++ [ts])[j]? = some t → RTriples w0 x.val t := fun j x t hx ht => by
            rcases get_snoc hx with ⟨hx, hj⟩ | ⟨rfl, rfl⟩
            · rcases get_snoc ht with ⟨ht, _⟩ | ⟨h, _⟩
              · exact hkr j x t hx ht
              · omega
            · rcases get_snoc ht with ⟨_, h⟩ | ⟨_, rfl⟩
              · omega
              · exact hxv
          obtain ⟨A92, c92, rfl, -, -⟩ := o10.form
          obtain ⟨A99, c99, rfl, -, -⟩ := o11.form
          have hLi : (ids ++ [(k1 : Int)]).length = ids.length + 1 := by simp
          have hLk : (ks ++ [(⟨TA, ts.length, TC⟩ : Hd)]).length = ids.length + 1 := by simp [hkl, hkeptl]
          refine St.r (R.assign rfl) rfl rfl ?_
          refine St.nil ?_
          refine St.weak [(0, _), (1, _), (5, _), (10, _), (11, _), (12, _), (14, _)] ⟨rfl, rfl, rfl, rfl, rfl, rfl, rfl, trivial⟩ ?_
          refine St.then_n ?_
          refine St.go hK20 ?_
          clear hK20
          refine St.seq fun K21 hK21 => ?_
          refine St.region ?_
          refine St.r (R.move rfl) rfl rfl ?_
          refine St.r (R.move rfl) rfl rfl ?_
          refine St.r (R.move rfl) rfl rfl ?_
          refine St.r (R.indexS i Try.underlying37 Try.sizeOf9 rfl rfl rfl (by omega)) rfl rfl ?_
          refine St.r (R.load1 Try.isAgg9 rfl ((E.cells hyc).at 0 rfl)) rfl rfl ?_
          refine St.call rfl rfl ent14 (Head_ret _ q1) rfl ?_
          rintro r106 w106 ⟨hx106, e106⟩
          replace E := Ext.trans E e106
          replace o10 := o10.ext e106
          replace o11 := o11.ext e106
          replace q1 := q1.ext e106
          rw [hh] at hx106
          subst hx106
          refine St.r (R.move rfl) rfl rfl ?_
          refine St.r (R.extract rfl rfl) rfl rfl ?_
          refine St.r (R.extract rfl rfl) rfl rfl ?_
          refine St.r (R.assign rfl) rfl rfl ?_
          refine St.r (R.assign rfl) rfl rfl ?_
          refine St.nil ?_
          refine St.weak [(0, _), (1, _), (5, _), (10, _), (11, _), (12, _), (14, _), (16, _), (17, _)] ⟨rfl, rfl, rfl, rfl, rfl, rfl, rfl, rfl, rfl, trivial⟩ ?_
          refine St.then_n ?_
          refine St.go hK21 ?_
          clear hK21
          refine St.seq fun K22 hK22 => ?_
          refine St.seq fun K23 hK23 => ?_
          refine St.region ?_
          refine St.r (R.move rfl) rfl rfl ?_
          refine St.r (Runs.lit (c := false) (R.notNil (et := 91) (e := _) Try.underlying27 rfl) (rfl)) rfl rfl ?_
          refine St.r (R.move rfl) rfl rfl ?_
          refine St.take (dg := 111) rfl rfl ?_ rfl
          refine St.r (R.move rfl) rfl rfl ?_
          refine St.take (dg := 111) rfl rfl ?_ rfl
          refine St.r (R.move rfl) rfl rfl ?_
          refine St.take (dg := 111) rfl rfl ?_ rfl
          refine St.r (Runs.lit (c := false) (R.neq rfl rfl) (decide_eq_false (fun h => h rfl))) rfl rfl ?_
          refine St.r (R.pickF rfl rfl) rfl rfl ?_
          refine St.nil ?_
          refine St.weak [(0, _), (1, _), (5, _), (10, _), (11, _), (12, _), (115, _)] ⟨rfl, rfl, rfl, rfl, rfl, rfl, rfl, trivial⟩ ?_
          refine St.then_n ?_
          refine St.go hK23 ?_
          clear hK23
          refine St.condF rfl ?_
          refine St.skip ?_
          refine St.then_n ?_
          refine St.go hK22 ?_
          clear hK22
          refine St.seq fun K24 hK24 => ?_
          refine St.region ?_
          refine St.r (R.assign rfl) rfl rfl ?_
          refine St.nil ?_
          refine St.weak [(0, _), (1, _), (5, _), (10, _), (11, _), (12, _), (18, _)] ⟨rfl, rfl, rfl, rfl, rfl, rfl, rfl, trivial⟩ ?_
          refine St.then_n ?_
          refine St.go hK24 ?_
          clear hK24
          refine St.block ?_
          refine St.loop (fun (j : Nat) => [(0, .slice (some ⟨xb, xo, none⟩) sets.length c), (1, .slice (some ⟨yb, yo, none⟩) names.length c2), (5, .pointer (some ⟨n1.g, 0, none⟩)), (10, .slice A92 (ids ++ [(k1 : Int)]).length c92), (11, .slice A99 (ks ++ [(⟨TA, ts.length, TC⟩ : Hd)]).length c99), (12, .int .i64 (i : Int)), (18, .int .i64 (j : Int))])
              (fun (j : Nat) w => j ≤ ids.length + 1 ∧ Ext w0 w ∧ RepoB rt w n1 r1 ∧ Own encInt 1 w0.heap.size 3 w (.slice A92 (ids ++ [(k1 : Int)]).length c92) (ids ++ [(k1 : Int)]) ∧ Own encHd 1 w0.heap.size 44 w (.slice A99 (ks ++ [(⟨TA, ts.length, TC⟩ : Hd)]).length c99) (ks ++ [⟨TA, ts.length, TC⟩]))
              (fun (j : Nat) => ids.length + 1 - j) 0 ⟨rfl, rfl, rfl, rfl, rfl, rfl, rfl, trivial⟩ ?_ ?_
          · exact ⟨Nat.zero_le _, E, q1, o10, o11⟩
          rintro j w ⟨hj, E, q1, o10, o11⟩
          show St _ _ [(0, .slice (some ⟨xb, xo, none⟩) sets.length c), (1, .slice (some ⟨yb, yo, none⟩) names.length c2), (5, .pointer (some ⟨n1.g, 0, none⟩)), (10, .slice A92 (ids ++ [(k1 : Int)]).length c92), (11, .slice A99 (ks ++ [(⟨TA, ts.length, TC⟩ : Hd)]).length c99), (12, .int .i64 (i : Int)), (18, .int .i64 (j : Int))] _ _
          refine St.seq fun K25 hK25 => ?_
          refine St.seq fun K26 hK26 => ?_
          refine St.region ?_
          refine St.r (R.move rfl) rfl rfl ?_
          refine St.r (R.move rfl) rfl rfl ?_
          refine St.r (R.lenSl Try.underlying23 rfl) rfl rfl ?_
          refine St.r (R.lss rfl rfl) rfl rfl ?_
          refine St.nil ?_
          refine St.weak [(0, _), (1, _), (5, _), (10, _), (11, _), (12, _), (18, _), (119, _)] ⟨rfl, rfl, rfl, rfl, rfl, rfl, rfl, rfl, trivial⟩ ?_
          refine St.then_n ?_
          refine St.go hK26 ?_
          clear hK26
          refine St.condD rfl (fun h119 => ?_) (fun h119 => ?_)
          ·
            obtain ⟨x, hx2⟩ := get_of_lt (xs := ids ++ [(k1 : Int)]) (k := j) (by omega)
            obtain ⟨k2, t2, rfl, hk2, ht2, hg2⟩ := kp1.at_ j x hx2
            obtain ⟨hd, hd2⟩ := get_of_lt (xs := ks ++ [(⟨TA, ts.length, TC⟩ : Hd)]) (k := j) (by omega)
            obtain ⟨ib, io, rfl, hic⟩ := (o10.reads encInt_len).get' hx2
            obtain ⟨kb, ko, rfl, -⟩ := (o11.reads encHd_len).get' hd2
            have hh2 : hasB r1 (k2 : Int) = true := by simp [hasB]; omega
            refine St.skip ?_
            refine St.then_n ?_
            refine St.go hK25 ?_
            clear hK25
            refine St.seq fun K27 hK27 => ?_
            refine St.block ?_
            refine St.seq fun K28 hK28 => ?_
            refine St.region ?_
            refine St.r (R.move rfl) rfl rfl ?_
            refine St.r (R.move rfl) rfl rfl ?_
            refine St.r (R.move rfl) rfl rfl ?_
            refine St.r (R.indexS j Try.underlying23 Try.sizeOf3 rfl rfl rfl (by omega)) rfl rfl ?_
            refine St.r (R.load1 Try.isAgg3 rfl (hic.at 0 rfl)) rfl rfl ?_
            refine St.call rfl rfl ent16 (Graph_ret _ q1 hok1.same (fun g hg => by have := (h60 g hg).few; omega)) rfl ?_
            rintro r128 w128 ⟨y, rfl, hy, e128⟩
            replace E := Ext.trans E e128
            replace q1 := q1.ext e128
            replace o10 := o10.ext e128
            replace o11 := o11.ext e128
            rw [hh2, if_pos rfl, Int.toNat_natCast, hg2, Option.getD_some] at hy
            rw [hh2, if_pos rfl]
            refine St.r (R.move rfl) rfl rfl ?_
            refine St.r (R.extract rfl rfl) rfl rfl ?_
            refine St.r (R.extract rfl rfl) rfl rfl ?_
            refine St.r (R.assign rfl) rfl rfl ?_
            refine St.r (R.assign rfl) rfl rfl ?_
            refine St.nil ?_
            refine St.weak [(0, _), (1, _), (5, _), (10, _), (11, _), (12, _), (18, _), (19, _), (20, _)] ⟨rfl, rfl, rfl, rfl, rfl, rfl, rfl, rfl, rfl, trivial⟩ ?_
            refine St.then_n ?_
            refine St.go hK28 ?_
            clear hK28
            refine St.seq fun K29 hK29 => ?_
            refine St.region ?_
            refine St.r (R.move rfl) rfl rfl ?_
            refine St.r (R.move rfl) rfl rfl ?_
            refine St.r (R.move rfl) rfl rfl ?_
            refine St.r (R.indexS j Try.underlying36 Try.sizeOf44 rfl rfl rfl (by omega)) rfl rfl ?_
            refine St.r (R.load1 Try.isAgg44 rfl (((o11.reads encHd_len).get hd2).at 0 rfl)) rfl rfl ?_
            refine St.call rfl rfl ent17 (sTriples_ret _ hy ((hkr1 j hd t2 hd2 ht2).ext (REnc.firm _) E)) rfl ?_
            rintro r136 w136 ⟨rfl, e136⟩
            replace E := Ext.trans E e136
            replace q1 := q1.ext e136
            replace o10 := o10.ext e136
            replace o11 := o11.ext e136
            refine St.r (R.assign rfl) rfl rfl ?_
            refine St.nil ?_
            refine St.weak [(0, _), (1, _), (5, _), (10, _), (11, _), (12, _), (18, _), (20, _), (21, _)] ⟨rfl, rfl, rfl, rfl, rfl, rfl, rfl, rfl, rfl, trivial⟩ ?_
            refine St.then_n ?_
            refine St.go hK29 ?_
            clear hK29
            refine St.seq fun K30 hK30 => ?_
            refine St.region ?_
            refine St.r (R.move rfl) rfl rfl ?_
            refine St.r (Runs.lit (c := false) (R.notNil (et := 91) (e := _) Try.underlying27 rfl) (rfl)) rfl rfl ?_
            refine St.r (R.move rfl) rfl rfl ?_
            refine St.take (dg := 139) rfl rfl ?_ rfl
            refine St.r (R.move rfl) rfl rfl ?_
            refine St.take (dg := 139) rfl rfl ?_ rfl
            refine St.r (Runs.lit (c := false) (R.not rfl) (by simp)) rfl rfl ?_
            refine St.r (R.pickF rfl rfl) rfl rfl ?_
            refine St.nil ?_
            refine St.weak [(0, _), (1, _), (5, _), (10, _), (11, _), (12, _), (18, _), (142, _)] ⟨rfl, rfl, rfl, rfl, rfl, rfl, rfl, rfl, trivial⟩ ?_
            refine St.then_n ?_
            refine St.go hK30 ?_
            clear hK30
            refine St.condF rfl ?_
            refine St.skip ?_
            refine St.in_n ?_
            refine St.then_n ?_
            refine St.go hK27 ?_
            clear hK27
            refine St.region ?_
            refine St.r (R.move rfl) rfl rfl ?_
            refine St.r (R.add rfl rfl (by omega) (by omega)) rfl rfl ?_
            refine St.r (R.assign rfl) rfl rfl ?_
            refine St.nil ?_
            refine St.weak [(0, _), (1, _), (5, _), (10, _), (11, _), (12, _), (18, _)] ⟨rfl, rfl, rfl, rfl, rfl, rfl, rfl, trivial⟩ ?_
            refine St.then_n ?_
            refine St.round (j + 1) ⟨rfl, rfl, rfl, rfl, rfl, rfl, rfl, trivial⟩ ?_ ?_
            · exact ⟨by omega, E, q1, o10, o11⟩
            · omega
          ·
            refine St.exit ?_
            refine St.then_x ?_
            refine St.then_x ?_
            refine St.in_x ?_
            refine St.in_n ?_
            refine St.then_n ?_
            refine St.go hK12 ?_
            clear hK12
            refine St.region ?_
            refine St.r (R.move rfl) rfl rfl ?_
            refine St.r (R.add rfl rfl (by omega) (by omega)) rfl rfl ?_
            refine St.r (R.assign rfl) rfl rfl ?_
            refine St.nil ?_
            refine St.weak [(0, _), (1, _), (5, _), (10, _), (11, _), (12, _)] ⟨rfl, rfl, rfl, rfl, rfl, rfl, trivial⟩ ?_
            refine St.then_n ?_
            refine St.round (i + 1, n1, r1, ids ++ [(k1 : Int)], ks ++ [⟨TA, ts.length, TC⟩], kept ++ [ts], .slice A92 (ids ++ [(k1 : Int)]).length c92, .slice A99 (ks ++ [(⟨TA, ts.length, TC⟩ : Hd)]).length c99) ⟨rfl, rfl, (look_eq rfl (by rw [hG.1])), rfl, rfl, rfl, trivial⟩ ?_ ?_
            · try dsimp only
              exact ⟨by omega, E, q1, hok1, o10, o11, kp1, by simp; omega, by simp [hkl], hkr1, hv1, hs7, hs8⟩
            · try dsimp only
              omega
      ·
        refine St.exit ?_
        refine St.then_x ?_
        refine St.then_x ?_
        refine St.in_x ?_
        refine St.then_n ?_
        refine St.go hK8 ?_
        clear hK8
        refine St.seq fun K31 hK31 => ?_
        refine St.region ?_
        refine St.r (R.move rfl) rfl rfl ?_
        refine St.call rfl rfl ent15 (Commits_ret hok.few hok.par _ q0) rfl ?_
        rintro r144 w144 ⟨c144, e144⟩
        replace E := Ext.trans E e144
        replace q0 := q0.ext e144
        replace o10 := o10.ext e144
        replace o11 := o11.ext e144
        obtain ⟨LA4, LC4, rfl, -, -⟩ := c144.form
        refine St.r (R.assign rfl) rfl rfl ?_
        refine St.nil ?_
        refine St.weak [(10, _), (22, _)] ⟨rfl, rfl, trivial⟩ ?_
        refine St.then_n ?_
        refine St.go hK31 ?_
        clear hK31
        refine St.seq fun K32 hK32 => ?_
        refine St.region ?_
        refine St.r (R.move rfl) rfl rfl ?_
        refine St.call rfl rfl ent18 (Check_ret _ c144) rfl ?_
        rintro r147 w147 ⟨hx147, e147⟩
        replace E := Ext.trans E e147
        replace q0 := q0.ext e147
        replace o10 := o10.ext e147
        replace o11 := o11.ext e147
        rw [hok.check] at hx147
        subst hx147
        refine St.r (R.move rfl) rfl rfl ?_
        refine St.r (R.extract rfl rfl) rfl rfl ?_
        refine St.r (R.extract rfl rfl) rfl rfl ?_
        refine St.r (R.assign rfl) rfl rfl ?_
        refine St.r (R.assign rfl) rfl rfl ?_
        refine St.nil ?_
        refine St.weak [(10, _), (22, _), (24, _)] ⟨rfl, rfl, rfl, trivial⟩ ?_
        refine St.then_n ?_
        refine St.go hK32 ?_
        clear hK32
        refine St.seq fun K33 hK33 => ?_
        refine St.region ?_
        refine St.r (R.move rfl) rfl rfl ?_
        refine St.r (Runs.lit (c := true) (R.isNil (et := 91) (e := _) Try.underlying27 rfl) (rfl)) rfl rfl ?_
        refine St.r (R.move rfl) rfl rfl ?_
        refine St.take (dg := 152) rfl rfl ?_ rfl
        refine St.r (R.move rfl) rfl rfl ?_
        refine St.take (dg := 152) rfl rfl ?_ rfl
        refine St.r (R.lenSl Try.underlying22 rfl) rfl rfl ?_
        refine St.take (dg := 152) rfl rfl ?_ rfl
        refine St.r (R.move rfl) rfl rfl ?_
        refine St.take (dg := 152) rfl rfl ?_ rfl
        refine St.r (R.lenSl Try.underlying23 rfl) rfl rfl ?_
        refine St.take (dg := 152) rfl rfl ?_ rfl
        refine St.r (R.add rfl rfl (by omega) (by omega)) rfl rfl ?_
        refine St.take (dg := 152) rfl rfl ?_ rfl
        refine St.r (Runs.lit (c := true) (R.leq rfl rfl) (decide_eq_true (by have := kp.few; omega))) rfl rfl ?_
        refine St.r (R.pickT rfl rfl) rfl rfl ?_
        refine St.r (R.assign rfl) rfl rfl ?_
        refine St.nil ?_
        refine St.weak [(4, _)] ⟨rfl, trivial⟩ ?_
        refine St.then_n ?_
        refine St.go hK33 ?_
        clear hK33
        refine St.ret ?_
        refine St.ret1 Try.results4 rfl ?_
        exact ⟨_, rfl, rfl, E⟩
    ·
      refine St.region ?_
      refine St.r (R.move rfl) rfl rfl ?_
      refine St.r (R.move rfl) rfl rfl ?_
      refine St.r (R.lenSl Try.underlying36 rfl) rfl rfl ?_
      refine St.r (Runs.lit (c := true) (R.lss rfl rfl) (decide_eq_true h53)) rfl rfl ?_
      refine St.r (R.move rfl) rfl rfl ?_
      refine St.take (dg := 54) rfl rfl ?_ rfl
      refine St.r (R.move rfl) rfl rfl ?_
      refine St.take (dg := 54) rfl rfl ?_ rfl
      refine St.r (R.move rfl) rfl rfl ?_
      refine St.take (dg := 54) rfl rfl ?_ rfl
      refine St.r (R.lenSl Try.underlying37 rfl) rfl rfl ?_
      refine St.take (dg := 54) rfl rfl ?_ rfl
      refine St.r (Runs.lit (c := false) (R.lss rfl rfl) (decide_eq_false h58)) rfl rfl ?_
      refine St.r (R.pickT rfl rfl) rfl rfl ?_
      refine St.r (R.move rfl) rfl rfl ?_
      refine St.pass (dg := 60) rfl rfl rfl rfl rfl ?_
      refine St.pass (dg := 60) rfl rfl rfl rfl rfl ?_
      refine St.r (R.pickF rfl rfl) rfl rfl ?_
      refine St.nil ?_
      refine St.weak [(0, _), (1, _), (5, _), (10, _), (11, _), (12, _), (63, _)] ⟨rfl, rfl, rfl, rfl, rfl, rfl, rfl, trivial⟩ ?_
      refine St.then_n ?_
      refine St.go hK11 ?_
      clear hK11
      refine St.condF rfl ?_
      refine St.exit ?_
      refine St.then_x ?_
      refine St.then_x ?_
      refine St.in_x ?_
      refine St.then_n ?_
      refine St.go hK8 ?_
      clear hK8
      refine St.seq fun K34 hK34 => ?_
      refine St.region ?_
      refine St.r (R.move rfl) rfl rfl ?_
      refine St.call rfl rfl ent15 (Commits_ret hok.few hok.par _ q0) rfl ?_
      rintro r144 w144 ⟨c144, e144⟩
      replace E := Ext.trans E e144
      replace q0 := q0.ext e144
      replace o10 := o10.ext e144
      replace o11 := o11.ext e144
      obtain ⟨LA4, LC4, rfl, -, -⟩ := c144.form
      refine St.r (R.assign rfl) rfl rfl ?_
      refine St.nil ?_
      refine St.weak [(10, _), (22, _)] ⟨rfl, rfl, trivial⟩ ?_
      refine St.then_n ?_
      refine St.go hK34 ?_
      clear hK34
      refine St.seq fun K35 hK35 => ?_
      refine St.region ?_
      refine St.r (R.move rfl) rfl rfl ?_
      refine St.call rfl rfl ent18 (Check_ret _ c144) rfl ?_
      rintro r147 w147 ⟨hx147, e147⟩
      replace E := Ext.trans E e147
      replace q0 := q0.ext e147
      replace o10 := o10.ext e147
      replace o11 := o11.ext e147
      rw [hok.check] at hx147
      subst hx147
      refine St.r (R.move rfl) rfl rfl ?_
      refine St.r (R.extract rfl rfl) rfl rfl ?_
      refine St.r (R.extract rfl rfl) rfl rfl ?_
      refine St.r (R.assign rfl) rfl rfl ?_
      refine St.r (R.assign rfl) rfl rfl ?_
      refine St.nil ?_
      refine St.weak [(10, _), (22, _), (24, _)] ⟨rfl, rfl, rfl, trivial⟩ ?_
      refine St.then_n ?_
      refine St.go hK35 ?_
      clear hK35
      refine St.seq fun K36 hK36 => ?_
      refine St.region ?_
      refine St.r (R.move rfl) rfl rfl ?_
      refine St.r (Runs.lit (c := true) (R.isNil (et := 91) (e := _) Try.underlying27 rfl) (rfl)) rfl rfl ?_
      refine St.r (R.move rfl) rfl rfl ?_
      refine St.take (dg := 152) rfl rfl ?_ rfl
      refine St.r (R.move rfl) rfl rfl ?_
      refine St.take (dg := 152) rfl rfl ?_ rfl
      refine St.r (R.lenSl Try.underlying22 rfl) rfl rfl ?_
      refine St.take (dg := 152) rfl rfl ?_ rfl
      refine St.r (R.move rfl) rfl rfl ?_
      refine St.take (dg := 152) rfl rfl ?_ rfl
      refine St.r (R.lenSl Try.underlying23 rfl) rfl rfl ?_
      refine St.take (dg := 152) rfl rfl ?_ rfl
      refine St.r (R.add rfl rfl (by omega) (by omega)) rfl rfl ?_
      refine St.take (dg := 152) rfl rfl ?_ rfl
      refine St.r (Runs.lit (c := true) (R.leq rfl rfl) (decide_eq_true (by have := kp.few; omega))) rfl rfl ?_
      refine St.r (R.pickT rfl rfl) rfl rfl ?_
      refine St.r (R.assign rfl) rfl rfl ?_
      refine St.nil ?_
      refine St.weak [(4, _)] ⟨rfl, trivial⟩ ?_
      refine St.then_n ?_
      refine St.go hK36 ?_
      clear hK36
      refine St.ret ?_
      refine St.ret1 Try.results4 rfl ?_
      exact ⟨_, rfl, rfl, E⟩
  ·
    refine St.region ?_
    refine St.r (R.move rfl) rfl rfl ?_
    refine St.r (R.move rfl) rfl rfl ?_
    refine St.r (R.lenSl Try.underlying36 rfl) rfl rfl ?_
    refine St.r (Runs.lit (c := false) (R.lss rfl rfl) (decide_eq_false h53)) rfl rfl ?_
    refine St.r (R.move rfl) rfl rfl ?_
    refine St.pass (dg := 54) rfl rfl rfl rfl rfl ?_
    refine St.pass (dg := 54) rfl rfl rfl rfl rfl ?_
    refine St.pass (dg := 54) rfl rfl rfl rfl rfl ?_
    refine St.pass (dg := 54) rfl rfl rfl rfl rfl ?_
    refine St.r (R.pickF rfl rfl) rfl rfl ?_
    refine St.r (R.move rfl) rfl rfl ?_
    refine St.pass (dg := 60) rfl rfl rfl rfl rfl ?_
    refine St.pass (dg := 60) rfl rfl rfl rfl rfl ?_
    refine St.r (R.pickF rfl rfl) rfl rfl ?_
    refine St.nil ?_
    refine St.weak [(0, _), (1, _), (5, _), (10, _), (11, _), (12, _), (63, _)] ⟨rfl, rfl, rfl, rfl, rfl, rfl, rfl, trivial⟩ ?_
    refine St.then_n ?_
    refine St.go hK11 ?_
    clear hK11
    refine St.condF rfl ?_
    refine St.exit ?_
    refine St.then_x ?_
    refine St.then_x ?_
    refine St.in_x ?_
    refine St.then_n ?_
    refine St.go hK8 ?_
    clear hK8
    refine St.seq fun K37 hK37 => ?_
    refine St.region ?_
    refine St.r (R.move rfl) rfl rfl ?_
    refine St.call rfl rfl ent15 (Commits_ret hok.few hok.par _ q0) rfl ?_
    rintro r144 w144 ⟨c144, e144⟩
    replace E := Ext.trans E e144
    replace q0 := q0.ext e144
    replace o10 := o10.ext e144
    replace o11 := o11.ext e144
    obtain ⟨LA4, LC4, rfl, -, -⟩ := c144.form
    refine St.r (R.assign rfl) rfl rfl ?_
    refine St.nil ?_
    refine St.weak [(10, _), (22, _)] ⟨rfl, rfl, trivial⟩ ?_
    refine St.then_n ?_
    refine St.go hK37 ?_
    clear hK37
    refine St.seq fun K38 hK38 => ?_
    refine St.region ?_
    refine St.r (R.move rfl) rfl rfl ?_
    refine St.call rfl rfl ent18 (Check_ret _ c144) rfl ?_
    rintro r147 w147 ⟨hx147, e147⟩
    replace E := Ext.trans E e147
    replace q0 := q0.ext e147
    replace o10 := o10.ext e147
    replace o11 := o11.ext e147
    rw [hok.check] at hx147
    subst hx147
    refine St.r (R.move rfl) rfl rfl ?_
    refine St.r (R.extract rfl rfl) rfl rfl ?_
    refine St.r (R.extract rfl rfl) rfl rfl ?_
    refine St.r (R.assign rfl) rfl rfl ?_
    refine St.r (R.assign rfl) rfl rfl ?_
    refine St.nil ?_
    refine St.weak [(10, _), (22, _), (24, _)] ⟨rfl, rfl, rfl, trivial⟩ ?_
    refine St.then_n ?_
    refine St.go hK38 ?_
    clear hK38
    refine St.seq fun K39 hK39 => ?_
    refine St.region ?_
    refine St.r (R.move rfl) rfl rfl ?_
    refine St.r (Runs.lit (c := true) (R.isNil (et := 91) (e := _) Try.underlying27 rfl) (rfl)) rfl rfl ?_
    refine St.r (R.move rfl) rfl rfl ?_
    refine St.take (dg := 152) rfl rfl ?_ rfl
    refine St.r (R.move rfl) rfl rfl ?_
    refine St.take (dg := 152) rfl rfl ?_ rfl
    refine St.r (R.lenSl Try.underlying22 rfl) rfl rfl ?_
    refine St.take (dg := 152) rfl rfl ?_ rfl
    refine St.r (R.move rfl) rfl rfl ?_
    refine St.take (dg := 152) rfl rfl ?_ rfl
    refine St.r (R.lenSl Try.underlying23 rfl) rfl rfl ?_
    refine St.take (dg := 152) rfl rfl ?_ rfl
    refine St.r (R.add rfl rfl (by omega) (by omega)) rfl rfl ?_
    refine St.take (dg := 152) rfl rfl ?_ rfl
    refine St.r (Runs.lit (c := true) (R.leq rfl rfl) (decide_eq_true (by have := kp.few; omega))) rfl rfl ?_
    refine St.r (R.pickT rfl rfl) rfl rfl ?_
    refine St.r (R.assign rfl) rfl rfl ?_
    refine St.nil ?_
    refine St.weak [(4, _)] ⟨rfl, trivial⟩ ?_
    refine St.then_n ?_
    refine St.go hK39 ?_
    clear hK39
    refine St.ret ?_
    refine St.ret1 Try.results4 rfl ?_
    exact ⟨_, rfl, rfl, E⟩

end Go.Proofs.Ytjgcmpondbocfaa

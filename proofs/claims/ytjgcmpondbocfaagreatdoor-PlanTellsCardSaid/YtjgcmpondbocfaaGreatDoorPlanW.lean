/- In which order the parts of a question are taken: what plan.Order comes to. Walked, under the reading of the arguments. -/
import Derived.Test.YtjgcmpondbocfaaGreatDoorProg
import Derived.Test.YtjgcmpondbocfaaGreatDoorAllW
import Derived.Test.YtjgcmpondbocfaaGreatDoorOrderPure
namespace Go.Proofs.YtjgcmpondbocfaaGreatDoor
open Go.RowKit 
theorem ent57 : Ent Tryz.prog 57 := Ent.of Tryz.func57 (by kernel_rfl) rfl
theorem ent58 : Ent Tryz.prog 58 := Ent.of Tryz.func58 (by kernel_rfl) rfl
theorem ent61 : Ent Tryz.prog 61 := Ent.of Tryz.func61 (by kernel_rfl) rfl
theorem ent64 : Ent Tryz.prog 64 := Ent.of Tryz.func64 (by kernel_rfl) rfl
theorem ent65 : Ent Tryz.prog 65 := Ent.of Tryz.func65 (by kernel_rfl) rfl

theorem filter_len_snoc {α : Type} {f : α → Bool} {l : List α} {k : Nat} {s : α} (hs : l[k]? = some s) : ((l.take (k + 1)).filter f).length = ((l.take k).filter f).length + if f s then 1 else 0 := by
  rw [take_snoc hs, filter_snoc, List.length_append]
  split <;> rfl
def planErr (l : List Triple) (q : Query) : Option Int := match setErr l with | some e => some e | none => queryErr q

theorem int_DeleteFuncB {xs : List Int} {v : Value} {g : FuncId} {caps : Array Value} {p : Int → Bool} {base : Nat} (w0 : World) (ho : Own encInt 1 base 3 w0 v xs) (he : Ent Tryz.prog g)
    (hp : ∀ W x, Chg (fun k => v.ownBlock = some k) w0 W → x ∈ xs → Ret Tryz.prog g ([.int .i64 x] ++ caps.toList) W fun r W' => r = .bool (p x) ∧ Ext W W') :
    Ret Tryz.prog 64 [v, .func (.func g) #[] caps] w0 fun r w' => Own encInt 1 base 3 w' r (xs.filter fun x => !p x) ∧ (∀ k, r.ownBlock = some k → v.ownBlock = some k) ∧ Chg (fun k => v.ownBlock = some k) w0 w' := by
  refine St.enter (N := 42) Tryz.func64 rfl Tryz.ntmps64 rfl ?_
  refine St.seq fun K0 hK0 => ?_
  refine St.region ?_
  refine St.r (R.assign rfl) rfl rfl ?_
  refine St.nil ?_
  refine St.weak [(0, _), (1, _)] ⟨rfl, rfl, trivial⟩ ?_
  refine St.then_n ?_
  refine St.go hK0 ?_
  clear hK0
  refine St.seq fun K1 hK1 => ?_
  refine St.region ?_
  refine St.r (R.move rfl) rfl rfl ?_
  refine St.r (R.move rfl) rfl rfl ?_
  refine St.call rfl rfl ent135 (int_IndexFunc w0 (ho.reads encInt_len) he (fun W x eW hx => hp W x (Chg.mono eW fun _ _ h => h.elim) hx)) rfl ?_
  rintro r10 w10 ⟨rfl, e10⟩
  have C : Chg (fun k => v.ownBlock = some k) w0 w10 := Chg.mono e10 fun _ _ h => h.elim
  refine St.r (R.assign rfl) rfl rfl ?_
  refine St.nil ?_
  refine St.weak [(0, _), (1, _), (5, _)] ⟨rfl, rfl, rfl, trivial⟩ ?_
  refine St.then_n ?_
  refine St.go hK1 ?_
  clear hK1
  refine St.seq fun K2 hK2 => ?_
  refine St.seq fun K3 hK3 => ?_
  refine St.region ?_
  refine St.r (R.move rfl) rfl rfl ?_
  refine St.r (R.eql rfl rfl) rfl rfl ?_
  refine St.nil ?_
  refine St.weak [(0, _), (1, _), (5, _), (12, _)] ⟨rfl, rfl, rfl, rfl, trivial⟩ ?_
  refine St.then_n ?_
  refine St.go hK3 ?_
  clear hK3
  refine St.condD rfl (fun h12 => ?_) (fun h12 => ?_)
  ·
    have hno : ∀ x ∈ xs, p x = false := by
      rcases idxOf_cases p xs with ⟨_, h⟩ | ⟨k, x, h, _⟩
      · exact h
      · omega
    have hfil : (xs.filter fun x => !p x) = xs := List.filter_eq_self.2 (fun x hx => by rw [hno x hx]; rfl)
    refine St.seq fun K4 hK4 => ?_
    refine St.region ?_
    refine St.r (R.move rfl) rfl rfl ?_
    refine St.r (R.assign rfl) rfl rfl ?_
    refine St.nil ?_
    refine St.weak [(4, _)] ⟨rfl, trivial⟩ ?_
    refine St.then_n ?_
    refine St.go hK4 ?_
    clear hK4
    refine St.ret ?_
    refine St.then_r ?_
    refine St.ret1 Tryz.results64 rfl ?_
    exact ⟨_, rfl, by rw [hfil]; exact ho.ext e10, fun _ h => h, C⟩
  ·
    obtain ⟨i0, x0, hi1, hx0, hpx0, hi2⟩ : ∃ (k : Nat) (x : Int), idxOf p xs = (k : Int) ∧ xs[k]? = some x ∧ p x = true ∧ ∀ y ∈ xs.take k, p y = false := by
      rcases idxOf_cases p xs with ⟨h, _⟩ | h
      · omega
      · exact h
    have hn0 := lt_of_get hx0
    obtain ⟨gb, c, sp, rfl, hgb, kS, hc1, hc2, hlen⟩ := ho.blk (by omega)
    rw [hi1]
    have C' : Chg (fun k => k = gb) w0 w10 := Chg.mono e10 fun _ _ h => h.elim
    replace kS := kS.ext e10
    refine St.skip ?_
    refine St.then_n ?_
    refine St.go hK2 ?_
    clear hK2
    refine St.seq fun K5 hK5 => ?_
    refine St.seq fun K6 hK6 => ?_
    refine St.region ?_
    refine St.r (R.move rfl) rfl rfl ?_
    refine St.r (R.add rfl rfl (by omega) (by omega)) rfl rfl ?_
    refine St.r (R.assign rfl) rfl rfl ?_
    refine St.nil ?_
    refine St.weak [(0, _), (1, _), (5, _), (6, _)] ⟨rfl, rfl, rfl, rfl, trivial⟩ ?_
    refine St.then_n ?_
    refine St.go hK6 ?_
    clear hK6
    refine St.block ?_
    refine St.loop (fun (x : Nat × Nat × List Int) => match x with | (j, i, ys) => [(0, .slice (some ⟨gb, 0, none⟩) xs.length c), (1, .func (.func g) #[] caps), (5, .int .i64 (i : Int)), (6, .int .i64 (j : Int))])
        (fun (x : Nat × Nat × List Int) w => match x with | (j, i, ys) => i < j ∧ j ≤ xs.length ∧ ys.length = xs.length ∧ (ys.take i = (xs.take j).filter fun x => !p x) ∧ ys.drop j = xs.drop j ∧ Chg (fun k => k = gb) w0 w ∧ Blk w gb 3 (ys.flatMap encInt ++ sp))
        (fun (x : Nat × Nat × List Int) => match x with | (j, i, ys) => xs.length - j) (i0 + 1, i0, xs) ⟨rfl, rfl, rfl, rfl, trivial⟩ ?_ ?_
    · refine ⟨by omega, by omega, rfl, ?_, rfl, C', kS⟩
      rw [take_snoc hx0, filter_snoc, hpx0]
      simp only [Bool.not_true, Bool.false_eq_true, if_false, List.append_nil]
      exact (List.filter_eq_self.2 (fun x hx => by rw [hi2 x hx]; rfl)).symm
    rintro ⟨j, i, ys⟩ w ⟨hij, hjn, hys, htk, hdr, C, kS⟩
    show St _ _ [(0, .slice (some ⟨gb, 0, none⟩) xs.length c), (1, .func (.func g) #[] caps), (5, .int .i64 (i : Int)), (6, .int .i64 (j : Int))] _ _
    refine St.seq fun K7 hK7 => ?_
    refine St.seq fun K8 hK8 => ?_
    refine St.region ?_
    refine St.r (R.move rfl) rfl rfl ?_
    refine St.r (R.move rfl) rfl rfl ?_
    refine St.r (R.lenSl Tryz.underlying27 rfl) rfl rfl ?_
    refine St.r (R.lss rfl rfl) rfl rfl ?_
    refine St.nil ?_
    refine St.weak [(0, _), (1, _), (5, _), (6, _), (19, _)] ⟨rfl, rfl, rfl, rfl, rfl, trivial⟩ ?_
    refine St.then_n ?_
    refine St.go hK8 ?_
    clear hK8
    refine St.condD rfl (fun h19 => ?_) (fun h19 => ?_)
    ·
      obtain ⟨x, hx⟩ := get_of_lt (xs := xs) (k := j) (by omega)
      have hyx : ys[j]? = some x := by
        have h := congrArg (fun l => l[0]?) hdr
        simp only [List.getElem?_drop, Nat.add_zero] at h
        rw [h, hx]
      refine St.skip ?_
      refine St.then_n ?_
      refine St.go hK7 ?_
      clear hK7
      refine St.seq fun K9 hK9 => ?_
      refine St.block ?_
      refine St.seq fun K10 hK10 => ?_
      refine St.region ?_
      refine St.r (R.move rfl) rfl rfl ?_
      refine St.r (R.move rfl) rfl rfl ?_
      refine St.r (R.indexS _ Tryz.underlying27 Tryz.sizeOf3 rfl rfl rfl (by omega)) rfl rfl ?_
      refine St.r (R.load1 Tryz.isAgg3 rfl ((kS.elem encInt_len hyx).at 0 rfl)) rfl rfl ?_
      refine St.r (R.assign rfl) rfl rfl ?_
      refine St.nil ?_
      refine St.weak [(0, _), (1, _), (5, _), (6, _), (7, _)] ⟨rfl, rfl, rfl, rfl, rfl, trivial⟩ ?_
      refine St.then_n ?_
      refine St.go hK10 ?_
      clear hK10
      refine St.seq fun K11 hK11 => ?_
      refine St.region ?_
      refine St.r (R.move rfl) rfl rfl ?_
      refine St.r (R.move rfl) rfl rfl ?_
      refine St.call rfl rfl he (hp _ x (Chg.mono C fun _ _ h => by subst h; rfl) (List.mem_of_getElem? hx)) rfl ?_
      rintro r28 w28 ⟨rfl, e28⟩
      replace kS := kS.ext e28
      refine St.r (R.not rfl) rfl rfl ?_
      refine St.nil ?_
      refine St.weak [(0, _), (1, _), (5, _), (6, _), (7, _), (29, _)] ⟨rfl, rfl, rfl, rfl, rfl, rfl, trivial⟩ ?_
      refine St.then_n ?_
      refine St.go hK11 ?_
      clear hK11
      refine St.cond rfl (fun h29 => ?_) (fun h29 => ?_)
      ·
        have hpx : p x = false := by cases h : p x <;> simp [h] at h29 <;> rfl
        refine St.seq fun K12 hK12 => ?_
        refine St.region ?_
        refine St.r (R.move rfl) rfl rfl ?_
        refine St.r (R.move rfl) rfl rfl ?_
        refine St.r (R.move rfl) rfl rfl ?_
        refine St.r (R.indexS _ Tryz.underlying27 Tryz.sizeOf3 rfl rfl rfl (by omega)) rfl rfl ?_
        refine St.store Tryz.sizeOf3 rfl rfl kS rfl (by simp only [List.length_append, flat_length encInt_len]; simp [Value.cells]; omega) (by intro u hu; simp [Value.cells] at hu; subst hu; rfl) ?_
        intro ws0 ks0 gs0 zs0
        clear kS; have kS := ks0; clear ks0
        refine St.nil ?_
        refine St.weak [(0, _), (1, _), (5, _), (6, _)] ⟨rfl, rfl, rfl, rfl, trivial⟩ ?_
        refine St.then_n ?_
        refine St.go hK12 ?_
        clear hK12
        refine St.region ?_
        refine St.r (R.move rfl) rfl rfl ?_
        refine St.r (R.add rfl rfl (by omega) (by omega)) rfl rfl ?_
        refine St.r (R.assign rfl) rfl rfl ?_
        refine St.nil ?_
        refine St.weak [(0, _), (1, _), (5, _), (6, _)] ⟨rfl, rfl, rfl, rfl, trivial⟩ ?_
        refine St.in_n ?_
        refine St.then_n ?_
        refine St.go hK9 ?_
        clear hK9
        refine St.region ?_
        refine St.r (R.move rfl) rfl rfl ?_
        refine St.r (R.add rfl rfl (by omega) (by omega)) rfl rfl ?_
        refine St.r (R.assign rfl) rfl rfl ?_
        refine St.nil ?_
        refine St.weak [(0, _), (1, _), (5, _), (6, _)] ⟨rfl, rfl, rfl, rfl, trivial⟩ ?_
        refine St.then_n ?_
        refine St.round (j + 1, i + 1, ys.set i x) ⟨rfl, rfl, rfl, rfl, trivial⟩ ?_ ?_
        · try dsimp only
          have hd1 : (ys.set i x).drop (j + 1) = xs.drop (j + 1) := by
            rw [List.drop_set_of_lt (by omega), ← List.drop_drop, hdr, List.drop_drop]
          refine ⟨by omega, by omega, by rw [List.length_set]; exact hys, ?_, hd1, (C.then e28 (fun _ _ h => h.elim)).trans gs0, ?_⟩
          · rw [List.take_succ_eq_append_getElem (by rw [List.length_set]; omega), List.take_set_of_le (Nat.le_refl _), htk, take_snoc hx, filter_snoc, hpx]
            simp
          · have h := kS
            rw [Nat.zero_add] at h
            rw [← splice_flat encInt_len (by omega)]
            exact h
        · try dsimp only
          omega
      ·
        have hpx : p x = true := by cases h : p x <;> simp [h] at h29 <;> rfl
        refine St.skip ?_
        refine St.in_n ?_
        refine St.then_n ?_
        refine St.go hK9 ?_
        clear hK9
        refine St.region ?_
        refine St.r (R.move rfl) rfl rfl ?_
        refine St.r (R.add rfl rfl (by omega) (by omega)) rfl rfl ?_
        refine St.r (R.assign rfl) rfl rfl ?_
        refine St.nil ?_
        refine St.weak [(0, _), (1, _), (5, _), (6, _)] ⟨rfl, rfl, rfl, rfl, trivial⟩ ?_
        refine St.then_n ?_
        refine St.round (j + 1, i, ys) ⟨rfl, rfl, rfl, rfl, trivial⟩ ?_ ?_
        · try dsimp only
          have hd1 : ys.drop (j + 1) = xs.drop (j + 1) := by rw [← List.drop_drop, hdr, List.drop_drop]
          refine ⟨by omega, by omega, hys, ?_, hd1, C.then e28 (fun _ _ h => h.elim), kS⟩
          rw [htk, take_snoc hx, filter_snoc, hpx]
          simp
        · try dsimp only
          omega
    ·
      obtain rfl : j = xs.length := by omega
      rw [List.take_length] at htk
      refine St.exit ?_
      refine St.then_x ?_
      refine St.then_x ?_
      refine St.in_x ?_
      refine St.then_n ?_
      refine St.go hK5 ?_
      clear hK5
      refine St.seq fun K13 hK13 => ?_
      refine St.region ?_
      refine St.r (R.move rfl) rfl rfl ?_
      refine St.r (R.move rfl) rfl rfl ?_
      refine St.r (R.cutLo i Tryz.underlying27 Tryz.sizeOf3 rfl rfl rfl (by omega) (by omega)) rfl rfl ?_
      refine St.clear Tryz.underlying27 Tryz.zeroValue3 rfl (by omega) kS (by simp only [List.length_append, flat_length encInt_len]; simp [Value.cells]; omega) (zeroCells_one (by decide) (by intro u hu; simp [Value.cells] at hu; subst hu; rfl) _) ?_
      intro wc kC gC zC
      refine St.nil ?_
      refine St.weak [(0, _), (5, _)] ⟨rfl, rfl, trivial⟩ ?_
      refine St.then_n ?_
      refine St.go hK13 ?_
      clear hK13
      refine St.seq fun K14 hK14 => ?_
      refine St.region ?_
      refine St.r (R.move rfl) rfl rfl ?_
      refine St.r (R.move rfl) rfl rfl ?_
      refine St.r (R.cutHi i Tryz.underlying27 Tryz.sizeOf3 rfl rfl rfl (by omega)) rfl rfl ?_
      refine St.r (R.assign rfl) rfl rfl ?_
      refine St.nil ?_
      refine St.weak [(4, _)] ⟨rfl, trivial⟩ ?_
      refine St.then_n ?_
      refine St.go hK14 ?_
      clear hK14
      refine St.ret ?_
      refine St.ret1 Tryz.results64 rfl ?_
      have hfl : i = (xs.filter fun x => !p x).length := by rw [← htk, List.length_take]; omega
      refine ⟨_, rfl, ?_, fun _ h => h, Chg.mono (C.trans gC) fun _ _ h => by subst h; rfl⟩
      have hz : (Builtin.zeroCells (Value.cells (.int .i64 0)) (xs.length - i)).toList.length = (xs.length - i) * 1 := by simp [Builtin.zeroCells, Value.cells]
      rw [splice_eq (by simp only [Nat.zero_add, hz, List.length_append, flat_length encInt_len]; omega), Nat.zero_add, flat_take encInt_len ys sp (by omega), htk, List.append_assoc] at kC
      rw [hfl]
      refine Own.of_blk encInt_len kC hgb (by omega) hc2 ?_
      rw [← hlen]
      have h1 := congrArg List.length htk
      simp only [List.length_append, flat_length encInt_len, hz, List.length_drop]
      omega

theorem int_MinFunc {xs : List Int} {v : Value} {g : FuncId} {caps : Array Value} {f : Int → Int → Int} (w0 : World) (hv : RInts w0 v xs) (he : Ent Tryz.prog g) (h0 : 0 < xs.length)
    (hp : ∀ W x y, Ext w0 W → x ∈ xs → y ∈ xs → Ret Tryz.prog g ([.int .i64 x, .int .i64 y] ++ caps.toList) W fun r W' => r = .int .i64 (f x y) ∧ Ext W W') :
    Ret Tryz.prog 57 [v, .func (.func g) #[] caps] w0 fun r w' => r = .int .i64 (minL f xs) ∧ Ext w0 w' := by
  obtain ⟨x0, r, rfl⟩ : ∃ x0 r, xs = x0 :: r := by
    cases xs with
    | nil => simp at h0
    | cons a b => exact ⟨a, b, rfl⟩
  obtain ⟨A, c, rfl, hc1, hc2⟩ := hv.form
  obtain ⟨b, o, rfl, hxc⟩ := hv.get' (k := 0) (x := x0) rfl
  have E : Ext w0 w0 := Ext.refl w0
  refine St.enter (N := 33) Tryz.func57 rfl Tryz.ntmps57 rfl ?_
  refine St.seq fun K0 hK0 => ?_
  refine St.region ?_
  refine St.r (R.assign rfl) rfl rfl ?_
  refine St.nil ?_
  refine St.weak [(0, _), (1, _)] ⟨rfl, rfl, trivial⟩ ?_
  refine St.then_n ?_
  refine St.go hK0 ?_
  clear hK0
  refine St.seq fun K1 hK1 => ?_
  refine St.seq fun K2 hK2 => ?_
  refine St.region ?_
  refine St.r (R.move rfl) rfl rfl ?_
  refine St.r (R.lenSl Tryz.underlying27 rfl) rfl rfl ?_
  refine St.r (R.lss rfl rfl) rfl rfl ?_
  refine St.nil ?_
  refine St.weak [(0, _), (1, _), (9, _)] ⟨rfl, rfl, rfl, trivial⟩ ?_
  refine St.then_n ?_
  refine St.go hK2 ?_
  clear hK2
  refine St.condD rfl (fun h9 => ?_) (fun h9 => ?_)
  ·
    exact absurd h9 (by omega)
  ·
    refine St.skip ?_
    refine St.then_n ?_
    refine St.go hK1 ?_
    clear hK1
    refine St.seq fun K3 hK3 => ?_
    refine St.region ?_
    refine St.r (R.move rfl) rfl rfl ?_
    refine St.r (R.indexS 0 Tryz.underlying27 Tryz.sizeOf3 rfl rfl rfl (by omega)) rfl rfl ?_
    refine St.r (R.load1 Tryz.isAgg3 rfl ((E.cells hxc).at 0 rfl)) rfl rfl ?_
    refine St.r (R.assign rfl) rfl rfl ?_
    refine St.nil ?_
    refine St.weak [(0, _), (1, _), (5, _)] ⟨rfl, rfl, rfl, trivial⟩ ?_
    refine St.then_n ?_
    refine St.go hK3 ?_
    clear hK3
    refine St.seq fun K4 hK4 => ?_
    refine St.seq fun K5 hK5 => ?_
    refine St.region ?_
    refine St.r (R.assign rfl) rfl rfl ?_
    refine St.nil ?_
    refine St.weak [(0, _), (1, _), (5, _), (6, _)] ⟨rfl, rfl, rfl, rfl, trivial⟩ ?_
    refine St.then_n ?_
    refine St.go hK5 ?_
    clear hK5
    refine St.block ?_
    refine St.loop (fun (x : Nat × Int) => match x with | (k, m) => [(0, .slice (some ⟨b, o, none⟩) (x0 :: r).length c), (1, .func (.func g) #[] caps), (5, .int .i64 m), (6, .int .i64 (k : Int))])
        (fun (x : Nat × Int) w => match x with | (k, m) => 1 ≤ k ∧ k ≤ (x0 :: r).length ∧ m ∈ x0 :: r ∧ Ext w0 w ∧ m = minF f x0 (r.take (k - 1)))
        (fun (x : Nat × Int) => match x with | (k, m) => (x0 :: r).length - k) (1, x0) ⟨rfl, rfl, rfl, rfl, trivial⟩ ?_ ?_
    · exact ⟨Nat.le_refl _, by omega, List.mem_cons_self, E, by simp [minF]⟩
    rintro ⟨k, m⟩ w ⟨hk1, hk, hm, E, hmm⟩
    show St _ _ [(0, .slice (some ⟨b, o, none⟩) (x0 :: r).length c), (1, .func (.func g) #[] caps), (5, .int .i64 m), (6, .int .i64 (k : Int))] _ _
    refine St.seq fun K6 hK6 => ?_
    refine St.seq fun K7 hK7 => ?_
    refine St.region ?_
    refine St.r (R.move rfl) rfl rfl ?_
    refine St.r (R.move rfl) rfl rfl ?_
    refine St.r (R.lenSl Tryz.underlying27 rfl) rfl rfl ?_
    refine St.r (R.lss rfl rfl) rfl rfl ?_
    refine St.nil ?_
    refine St.weak [(0, _), (1, _), (5, _), (6, _), (17, _)] ⟨rfl, rfl, rfl, rfl, rfl, trivial⟩ ?_
    refine St.then_n ?_
    refine St.go hK7 ?_
    clear hK7
    refine St.condD rfl (fun h17 => ?_) (fun h17 => ?_)
    ·
      obtain ⟨x, hx⟩ := get_of_lt (xs := x0 :: r) (k := k) (by omega)
      have hxk := hv.get hx
      have hxr : r[k - 1]? = some x := by
        have hx' := hx
        rw [show k = (k - 1) + 1 by omega, List.getElem?_cons_succ] at hx'
        exact hx'
      have hT : r.take (k + 1 - 1) = r.take (k - 1) ++ [x] := by rw [← take_snoc hxr]; congr 1; omega
      refine St.skip ?_
      refine St.then_n ?_
      refine St.go hK6 ?_
      clear hK6
      refine St.seq fun K8 hK8 => ?_
      refine St.block ?_
      refine St.seq fun K9 hK9 => ?_
      refine St.region ?_
      refine St.r (R.move rfl) rfl rfl ?_
      refine St.r (R.move rfl) rfl rfl ?_
      refine St.r (R.move rfl) rfl rfl ?_
      refine St.r (R.indexS k Tryz.underlying27 Tryz.sizeOf3 rfl rfl rfl (by omega)) rfl rfl ?_
      refine St.r (R.load1 Tryz.isAgg3 rfl ((E.cells hxk).at 0 rfl)) rfl rfl ?_
      refine St.r (R.move rfl) rfl rfl ?_
      refine St.call rfl rfl he (hp _ x m E (List.mem_of_getElem? hx) hm) rfl ?_
      rintro r26 w26 ⟨rfl, e26⟩
      replace E := Ext.trans E e26
      refine St.r (R.lss rfl rfl) rfl rfl ?_
      refine St.nil ?_
      refine St.weak [(0, _), (1, _), (5, _), (6, _), (27, _)] ⟨rfl, rfl, rfl, rfl, rfl, trivial⟩ ?_
      refine St.then_n ?_
      refine St.go hK9 ?_
      clear hK9
      refine St.condD rfl (fun h27 => ?_) (fun h27 => ?_)
      ·
        refine St.region ?_
        refine St.r (R.move rfl) rfl rfl ?_
        refine St.r (R.move rfl) rfl rfl ?_
        refine St.r (R.indexS k Tryz.underlying27 Tryz.sizeOf3 rfl rfl rfl (by omega)) rfl rfl ?_
        refine St.r (R.load1 Tryz.isAgg3 rfl ((E.cells hxk).at 0 rfl)) rfl rfl ?_
        refine St.r (R.assign rfl) rfl rfl ?_
        refine St.nil ?_
        refine St.weak [(0, _), (1, _), (5, _), (6, _)] ⟨rfl, rfl, rfl, rfl, trivial⟩ ?_
        refine St.in_n ?_
        refine St.then_n ?_
        refine St.go hK8 ?_
        clear hK8
        refine St.region ?_
        refine St.r (R.move rfl) rfl rfl ?_
        refine St.r (R.add rfl rfl (by omega) (by omega)) rfl rfl ?_
        refine St.r (R.assign rfl) rfl rfl ?_
        refine St.nil ?_
        refine St.weak [(0, _), (1, _), (5, _), (6, _)] ⟨rfl, rfl, rfl, rfl, trivial⟩ ?_
        refine St.then_n ?_
        refine St.round (k + 1, x) ⟨rfl, rfl, rfl, rfl, trivial⟩ ?_ ?_
        · try dsimp only
          refine ⟨by omega, by omega, List.mem_of_getElem? hx, E, ?_⟩
          rw [hT, minF_snoc, ← hmm, if_pos h27]
        · try dsimp only
          omega
      ·
        refine St.skip ?_
        refine St.in_n ?_
        refine St.then_n ?_
        refine St.go hK8 ?_
        clear hK8
        refine St.region ?_
        refine St.r (R.move rfl) rfl rfl ?_
        refine St.r (R.add rfl rfl (by omega) (by omega)) rfl rfl ?_
        refine St.r (R.assign rfl) rfl rfl ?_
        refine St.nil ?_
        refine St.weak [(0, _), (1, _), (5, _), (6, _)] ⟨rfl, rfl, rfl, rfl, trivial⟩ ?_
        refine St.then_n ?_
        refine St.round (k + 1, m) ⟨rfl, rfl, rfl, rfl, trivial⟩ ?_ ?_
        · try dsimp only
          refine ⟨by omega, by omega, hm, E, ?_⟩
          rw [hT, minF_snoc, ← hmm, if_neg h27]
        · try dsimp only
          omega
    ·
      refine St.exit ?_
      refine St.then_x ?_
      refine St.then_x ?_
      refine St.in_x ?_
      refine St.then_n ?_
      refine St.go hK4 ?_
      clear hK4
      refine St.seq fun K10 hK10 => ?_
      refine St.region ?_
      refine St.r (R.move rfl) rfl rfl ?_
      refine St.r (R.assign rfl) rfl rfl ?_
      refine St.nil ?_
      refine St.weak [(4, _)] ⟨rfl, trivial⟩ ?_
      refine St.then_n ?_
      refine St.go hK10 ?_
      clear hK10
      refine St.ret ?_
      refine St.ret1 Tryz.results57 rfl ?_
      exact ⟨_, rfl, by rw [hmm, List.take_of_length_le (by simp only [List.length_cons] at *; omega)]; rfl, E⟩

set_option maxHeartbeats 1000000 in
theorem pterms_ret {p : Pat} {m : Nat} {ms : List (ByteArray × Bool)} {kl : List ByteArray} (w0 : World) (hm : MapB (fun s : ByteArray => Value.string s) (fun b : Bool => Value.bool b) w0 m ms) (hkn : KnownM ms kl) : Ret Tryz.prog 61 [.agg (encPat p).toArray, .map (some m)] w0 fun r w' => r = .int .i64 (termsN kl p : Int) ∧ Ext w0 w' := by
  have E : Ext w0 w0 := Ext.refl w0
  refine St.enter (N := 26) Tryz.func61 rfl Tryz.ntmps61 rfl ?_
  refine St.seq fun K0 hK0 => ?_
  refine St.region ?_
  refine St.box rfl rfl ?_
  intro w2 b2 hb2 hs2 e2 k2
  have qE2 := E.size
  replace E := Ext.trans E e2
  refine St.r (R.assign rfl) rfl rfl ?_
  refine St.nil ?_
  refine St.weak [(1, _), (2, _)] ⟨rfl, rfl, trivial⟩ ?_
  refine St.then_n ?_
  refine St.go hK0 ?_
  clear hK0
  refine St.seq fun K1 hK1 => ?_
  refine St.region ?_
  refine St.r (R.assign rfl) rfl rfl ?_
  refine St.nil ?_
  refine St.weak [(1, _), (2, _), (5, _)] ⟨rfl, rfl, rfl, trivial⟩ ?_
  refine St.then_n ?_
  refine St.go hK1 ?_
  clear hK1
  refine St.seq fun K2 hK2 => ?_
  refine St.seq fun K3 hK3 => ?_
  refine St.region ?_
  refine St.r (R.loadA Tryz.isAgg48 Tryz.sizeOf48 rfl k2.cells rfl) rfl rfl ?_
  refine St.call rfl rfl ent63 (mSlots_ret _) rfl ?_
  rintro r9 w9 ⟨rfl, e9⟩
  replace E := Ext.trans E e9
  replace k2 := k2.ext e9
  refine St.r (R.move rfl) rfl rfl ?_
  refine St.nil ?_
  refine St.weak [(1, _), (5, _), (9, _), (10, _)] ⟨rfl, rfl, rfl, rfl, trivial⟩ ?_
  refine St.then_n ?_
  refine St.go hK3 ?_
  clear hK3
  refine St.block ?_
  refine St.loop (fun (x : Nat × Nat) => match x with | (k, n) => [(1, .map (some m)), (5, .int .i64 (n : Int)), (9, .agg ((slotsOf p).flatMap encSlot).toArray), (10, .int .i64 (k : Int))])
      (fun (x : Nat × Nat) w => match x with | (k, n) => k ≤ 3 ∧ n ≤ k ∧ Ext w0 w ∧ n = (((slotsOf p).take k).filter fun s => decide (s.var = ⟨#[]⟩) || decide (s.var ∈ kl)).length)
      (fun (x : Nat × Nat) => match x with | (k, n) => 3 - k) (0, 0) ⟨rfl, rfl, rfl, rfl, trivial⟩ ?_ ?_
  · exact ⟨Nat.zero_le _, Nat.zero_le _, E, by simp⟩
  rintro ⟨k, n⟩ w ⟨hk, hnk, E, hn⟩
  show St _ _ [(1, .map (some m)), (5, .int .i64 (n : Int)), (9, .agg ((slotsOf p).flatMap encSlot).toArray), (10, .int .i64 (k : Int))] _ _
  refine St.seq fun K4 hK4 => ?_
  refine St.region ?_
  refine St.r (R.lss rfl rfl) rfl rfl ?_
  refine St.nil ?_
  refine St.weak [(1, _), (5, _), (9, _), (10, _), (11, _)] ⟨rfl, rfl, rfl, rfl, rfl, trivial⟩ ?_
  refine St.then_n ?_
  refine St.go hK4 ?_
  clear hK4
  refine St.seq fun K5 hK5 => ?_
  refine St.condD rfl (fun h11 => ?_) (fun h11 => ?_)
  ·
    obtain ⟨s, hs⟩ := slots_get (p := p) (i := k) (by omega)
    refine St.skip ?_
    refine St.then_n ?_
    refine St.go hK5 ?_
    clear hK5
    refine St.seq fun K6 hK6 => ?_
    refine St.block ?_
    refine St.seq fun K7 hK7 => ?_
    refine St.region ?_
    refine St.r (R.idxArr k Tryz.underlying115 Tryz.isAgg46 Tryz.sizeOf46 rfl rfl rfl (by omega) (flat_cut encSlot_len hs)) rfl rfl ?_
    refine St.alloc Tryz.zeroValue46 rfl ?_
    intro w7 b7 hb7 hs7 e7 k7
    have qE7 := E.size
    replace E := Ext.trans E e7
    refine St.store Tryz.sizeOf46 rfl rfl k7 rfl (by simp [Value.cells, encSlot, encTerm]) (one_slot s) ?_
    intro ws0 ks0 gs0 zs0
    replace E := Ext.then E gs0 (by intro j hj; omega)
    clear k7; have k7 := ks0; clear ks0
    replace k7 : Blk ws0 b7 46 (encSlot s) := k7
    refine St.nil ?_
    refine St.weak [(1, _), (5, _), (7, _), (9, _), (10, _)] ⟨rfl, rfl, rfl, rfl, rfl, trivial⟩ ?_
    refine St.then_n ?_
    refine St.go hK7 ?_
    clear hK7
    refine St.seq fun K8 hK8 => ?_
    by_cases h15 : s.var = ⟨#[]⟩
    ·
      refine St.region ?_
      refine St.r (R.fieldA Tryz.underlying46 rfl Tryz.sizeOf9 rfl rfl rfl) rfl rfl ?_
      refine St.r (R.load1 Tryz.isAgg9 rfl (k7.cells.at 0 rfl)) rfl rfl ?_
      refine St.r (Runs.lit (c := true) (R.eqS rfl rfl) (decide_eq_true h15)) rfl rfl ?_
      refine St.r (R.move rfl) rfl rfl ?_
      refine St.pass (dg := 16) rfl rfl rfl rfl rfl ?_
      refine St.pass (dg := 16) rfl rfl rfl rfl rfl ?_
      refine St.pass (dg := 16) rfl rfl rfl rfl rfl ?_
      refine St.pass (dg := 16) rfl rfl rfl rfl rfl ?_
      refine St.r (R.pickT rfl rfl) rfl rfl ?_
      refine St.nil ?_
      refine St.weak [(1, _), (5, _), (9, _), (10, _), (21, _)] ⟨rfl, rfl, rfl, rfl, rfl, trivial⟩ ?_
      refine St.then_n ?_
      refine St.go hK8 ?_
      clear hK8
      refine St.condT rfl ?_
      refine St.region ?_
      refine St.r (R.move rfl) rfl rfl ?_
      refine St.r (R.add rfl rfl (by omega) (by omega)) rfl rfl ?_
      refine St.r (R.assign rfl) rfl rfl ?_
      refine St.nil ?_
      refine St.weak [(1, _), (5, _), (9, _), (10, _)] ⟨rfl, rfl, rfl, rfl, trivial⟩ ?_
      refine St.in_n ?_
      refine St.then_n ?_
      refine St.go hK6 ?_
      clear hK6
      refine St.region ?_
      refine St.r (R.add rfl rfl (by omega) (by omega)) rfl rfl ?_
      refine St.r (R.move rfl) rfl rfl ?_
      refine St.nil ?_
      refine St.weak [(1, _), (5, _), (9, _), (10, _)] ⟨rfl, rfl, rfl, rfl, trivial⟩ ?_
      refine St.then_n ?_
      refine St.round (k + 1, n + 1) ⟨rfl, rfl, rfl, rfl, trivial⟩ ?_ ?_
      · try dsimp only
        refine ⟨by omega, by omega, E, ?_⟩
        rw [filter_len_snoc hs, ← hn, decide_eq_true h15, Bool.true_or, if_pos rfl]
      · try dsimp only
        omega
    ·
      refine St.region ?_
      refine St.r (R.fieldA Tryz.underlying46 rfl Tryz.sizeOf9 rfl rfl rfl) rfl rfl ?_
      refine St.r (R.load1 Tryz.isAgg9 rfl (k7.cells.at 0 rfl)) rfl rfl ?_
      refine St.r (Runs.lit (c := false) (R.eqS rfl rfl) (decide_eq_false h15)) rfl rfl ?_
      refine St.r (R.move rfl) rfl rfl ?_
      refine St.take (dg := 16) rfl rfl ?_ rfl
      refine St.r (R.move rfl) rfl rfl ?_
      refine St.take (dg := 16) rfl rfl ?_ rfl
      refine St.r (R.fieldA Tryz.underlying46 rfl Tryz.sizeOf9 rfl rfl rfl) rfl rfl ?_
      refine St.take (dg := 16) rfl rfl ?_ rfl
      refine St.r (R.load1 Tryz.isAgg9 rfl (k7.cells.at 0 rfl)) rfl rfl ?_
      refine St.take (dg := 16) rfl rfl ?_ rfl
      refine St.r (R.lookup (z := false) (KEnc.str Tryz.underlying9) Tryz.underlying110 Tryz.zeroValue4 (hm.ext E) rfl rfl) rfl rfl ?_
      refine St.r (R.pickF rfl rfl) rfl rfl ?_
      refine St.nil ?_
      refine St.weak [(1, _), (5, _), (9, _), (10, _), (21, _)] ⟨rfl, rfl, rfl, rfl, rfl, trivial⟩ ?_
      refine St.then_n ?_
      refine St.go hK8 ?_
      clear hK8
      refine St.cond rfl (fun h21 => ?_) (fun h21 => ?_)
      ·
        refine St.region ?_
        refine St.r (R.move rfl) rfl rfl ?_
        refine St.r (R.add rfl rfl (by omega) (by omega)) rfl rfl ?_
        refine St.r (R.assign rfl) rfl rfl ?_
        refine St.nil ?_
        refine St.weak [(1, _), (5, _), (9, _), (10, _)] ⟨rfl, rfl, rfl, rfl, trivial⟩ ?_
        refine St.in_n ?_
        refine St.then_n ?_
        refine St.go hK6 ?_
        clear hK6
        refine St.region ?_
        refine St.r (R.add rfl rfl (by omega) (by omega)) rfl rfl ?_
        refine St.r (R.move rfl) rfl rfl ?_
        refine St.nil ?_
        refine St.weak [(1, _), (5, _), (9, _), (10, _)] ⟨rfl, rfl, rfl, rfl, trivial⟩ ?_
        refine St.then_n ?_
        refine St.round (k + 1, n + 1) ⟨rfl, rfl, rfl, rfl, trivial⟩ ?_ ?_
        · try dsimp only
          refine ⟨by omega, by omega, E, ?_⟩
          rw [filter_len_snoc hs, ← hn, decide_eq_false h15, Bool.false_or, ← hkn s.var h15, h21, if_pos rfl]
        · try dsimp only
          omega
      ·
        refine St.skip ?_
        refine St.in_n ?_
        refine St.then_n ?_
        refine St.go hK6 ?_
        clear hK6
        refine St.region ?_
        refine St.r (R.add rfl rfl (by omega) (by omega)) rfl rfl ?_
        refine St.r (R.move rfl) rfl rfl ?_
        refine St.nil ?_
        refine St.weak [(1, _), (5, _), (9, _), (10, _)] ⟨rfl, rfl, rfl, rfl, trivial⟩ ?_
        refine St.then_n ?_
        refine St.round (k + 1, n) ⟨rfl, rfl, rfl, rfl, trivial⟩ ?_ ?_
        · try dsimp only
          refine ⟨by omega, by omega, E, ?_⟩
          rw [filter_len_snoc hs, ← hn, decide_eq_false h15, Bool.false_or, ← hkn s.var h15, h21, if_neg (by simp)]; rfl
        · try dsimp only
          omega
  ·
    refine St.exit ?_
    refine St.then_x ?_
    refine St.then_x ?_
    refine St.in_x ?_
    refine St.then_n ?_
    refine St.go hK2 ?_
    clear hK2
    refine St.seq fun K9 hK9 => ?_
    refine St.region ?_
    refine St.r (R.move rfl) rfl rfl ?_
    refine St.r (R.assign rfl) rfl rfl ?_
    refine St.nil ?_
    refine St.weak [(4, _)] ⟨rfl, trivial⟩ ?_
    refine St.then_n ?_
    refine St.go hK9 ?_
    clear hK9
    refine St.ret ?_
    refine St.ret1 Tryz.results61 rfl ?_
    have hk3 : k = 3 := by omega
    subst hk3
    exact ⟨_, rfl, by rw [hn]; rfl, E⟩


theorem partAt_get {parts : List Pat} {i : Int} {x : Pat} (h : parts[i.toNat]? = some x) : partAt parts i = x := by unfold partAt; rw [h]; rfl

set_option maxHeartbeats 4000000 in
set_option maxRecDepth 100000 in
theorem order1_ret {set : List Triple} {parts : List Pat} {ms : List (ByteArray × Bool)} {kl : List ByteArray} {m b2 b3 b4 : Nat} {pv sv : Value} {i k : Int} (w0 : World) (hb2l : b2 < w0.heap.size) (h2 : w0.cell? ⟨b2, 1, none⟩ = some pv) (hP : RPats w0 pv parts) (h3 : w0.cell? ⟨b3, 0, none⟩ = some (.map (some m))) (hm : MapB (fun s : ByteArray => Value.string s) (fun b : Bool => Value.bool b) w0 m ms) (hkn : KnownM ms kl) (h4 : w0.cell? ⟨b4, 0, none⟩ = some sv) (hS : RTriples w0 sv set) (hsn : set.length ≤ 200) (hi : 0 ≤ i ∧ i < (parts.length : Int)) (hk : 0 ≤ k ∧ k < (parts.length : Int)) :
    Ret Tryz.prog 58 [.int .i64 i, .int .i64 k, .pointer (some ⟨b2, 0, none⟩), .pointer (some ⟨b3, 0, none⟩), .pointer (some ⟨b4, 0, none⟩)] w0 fun r w' => r = .int .i64 (cmpP set parts kl i k) ∧ Ext w0 w' := by
  obtain ⟨PA, PC, rfl, -, -⟩ := hP.form
  obtain ⟨px, hxi⟩ := get_of_lt (xs := parts) (k := i.toNat) (by omega)
  obtain ⟨py, hyi⟩ := get_of_lt (xs := parts) (k := k.toNat) (by omega)
  obtain ⟨pb, po, rfl, hpx⟩ := hP.get' hxi
  have hpy := hP.get hyi
  have hpb : pb < w0.heap.size := hP.lt (fun x => by rw [encPat_len]; omega) (by omega) (k := pb) rfl
  have E : Ext w0 w0 := Ext.refl w0
  refine St.enter (N := 38) Tryz.func58 rfl Tryz.ntmps58 rfl ?_
  refine St.seq fun K0 hK0 => ?_
  refine St.region ?_
  refine St.r (R.assign rfl) rfl rfl ?_
  refine St.nil ?_
  refine St.weak [(0, _), (1, _), (2, _), (3, _), (4, _)] ⟨rfl, rfl, rfl, rfl, rfl, trivial⟩ ?_
  refine St.then_n ?_
  refine St.go hK0 ?_
  clear hK0
  refine St.seqJ (fun (x : Nat × Nat) => match x with | (b8, b9) => [(3, .pointer (some ⟨b3, 0, none⟩)), (4, .pointer (some ⟨b4, 0, none⟩)), (8, .pointer (some ⟨b8, 0, none⟩)), (9, .pointer (some ⟨b9, 0, none⟩))])
      (fun (x : Nat × Nat) w => match x with | (b8, b9) => Ext w0 w ∧ Blk w b8 48 (encPat px) ∧ Blk w b9 48 (encPat py)) ?_ ?_
  · rintro ⟨b8, b9⟩ w ⟨E, k8, k9⟩
    show St _ _ [(3, .pointer (some ⟨b3, 0, none⟩)), (4, .pointer (some ⟨b4, 0, none⟩)), (8, .pointer (some ⟨b8, 0, none⟩)), (9, .pointer (some ⟨b9, 0, none⟩))] _ _
    refine St.seq fun K2 hK2 => ?_
    refine St.weak [(3, _), (4, _), (8, _), (9, _)] ⟨rfl, rfl, rfl, rfl, trivial⟩ ?_
    refine St.drawT (S := fun _ => False) (eff := [2, 5, 6, 9, 13, 15, 16, 17]) mixed rfl rfl rfl rfl ?_
    replace E := Ext.trans E (Ext.drew _)
    replace k8 := k8.ext (Ext.drew _)
    replace k9 := k9.ext (Ext.drew _)
    refine DrawT.quiet 0 rfl rfl (fun W eW => OpOk.r (R.loadA Tryz.isAgg48 Tryz.sizeOf48 rfl (k9.ext eW).cells rfl) rfl) ?_
    refine DrawT.quiet 1 rfl rfl (fun W eW => OpOk.r (R.load1 Tryz.isAgg110 rfl ((Ext.trans E eW).cell h3)) rfl) ?_
    refine DrawT.quiet 3 rfl rfl (fun W eW => OpOk.r (R.loadA Tryz.isAgg48 Tryz.sizeOf48 rfl (k8.ext eW).cells rfl) rfl) ?_
    refine DrawT.quiet 4 rfl rfl (fun W eW => OpOk.r (R.load1 Tryz.isAgg110 rfl ((Ext.trans E eW).cell h3)) rfl) ?_
    refine DrawT.quiet 7 rfl rfl (fun W eW => OpOk.r (R.load1 Tryz.isAgg22 rfl ((Ext.trans E eW).cell h4)) rfl) ?_
    refine DrawT.quiet 8 rfl rfl (fun W eW => OpOk.r (R.loadA Tryz.isAgg48 Tryz.sizeOf48 rfl (k8.ext eW).cells rfl) rfl) ?_
    refine DrawT.quiet 11 rfl rfl (fun W eW => OpOk.r (R.load1 Tryz.isAgg22 rfl ((Ext.trans E eW).cell h4)) rfl) ?_
    refine DrawT.quiet 12 rfl rfl (fun W eW => OpOk.r (R.loadA Tryz.isAgg48 Tryz.sizeOf48 rfl (k9.ext eW).cells rfl) rfl) ?_
    refine DrawT.one (n := 2) [] rfl rfl rfl (by kernel_rfl) (OpC.plain (Eff.call rfl rfl ent61 (pterms_ret _ (hm.ext E) hkn)) rfl) ?_ ?_
    · rintro r22 w22 ⟨rfl, e22⟩
      refine ⟨?_, trivial⟩
      exact e22
    rintro r22 w22 ⟨rfl, e22⟩
    replace E := Ext.trans E e22
    replace k8 := k8.ext e22
    replace k9 := k9.ext e22
    refine DrawT.one (n := 5) [] rfl rfl rfl (by kernel_rfl) (OpC.plain (Eff.call rfl rfl ent61 (pterms_ret _ (hm.ext E) hkn)) rfl) ?_ ?_
    · rintro r25 w25 ⟨rfl, e25⟩
      refine ⟨?_, trivial⟩
      exact e25
    rintro r25 w25 ⟨rfl, e25⟩
    replace E := Ext.trans E e25
    replace k8 := k8.ext e25
    replace k9 := k9.ext e25
    refine DrawT.one (n := 6) [] rfl rfl rfl (by kernel_rfl) (OpC.plain (Eff.call rfl rfl ent60 (iCompare_ret _)) rfl) ?_ ?_
    · rintro r26 w26 ⟨rfl, e26⟩
      refine ⟨?_, trivial⟩
      exact e26
    rintro r26 w26 ⟨rfl, e26⟩
    replace E := Ext.trans E e26
    replace k8 := k8.ext e26
    replace k9 := k9.ext e26
    refine DrawT.one (n := 9) [] rfl rfl rfl (by kernel_rfl) (OpC.plain (Eff.call rfl rfl ent62 (mOf_ret _ (hS.ext (REnc.firm _) E) (by omega))) rfl) ?_ ?_
    · rintro r29 w29 ⟨o29, e29⟩
      refine ⟨?_, trivial⟩
      exact e29
    rintro r29 w29 ⟨o29, e29⟩
    replace E := Ext.trans E e29
    replace k8 := k8.ext e29
    replace k9 := k9.ext e29
    obtain ⟨A29, C29, rfl, -, -⟩ := o29.form
    refine DrawT.quiet 10 rfl rfl (fun W eW => OpOk.r (R.lenSl Tryz.underlying22 rfl) rfl) ?_
    refine DrawT.one (n := 13) [] rfl rfl rfl (by kernel_rfl) (OpC.plain (Eff.call rfl rfl ent62 (mOf_ret _ (hS.ext (REnc.firm _) E) (by omega))) rfl) ?_ ?_
    · rintro r33 w33 ⟨o33, e33⟩
      refine ⟨?_, trivial⟩
      exact e33
    rintro r33 w33 ⟨o33, e33⟩
    replace E := Ext.trans E e33
    replace k8 := k8.ext e33
    replace k9 := k9.ext e33
    obtain ⟨A33, C33, rfl, -, -⟩ := o33.form
    refine DrawT.quiet 14 rfl rfl (fun W eW => OpOk.r (R.lenSl Tryz.underlying22 rfl) rfl) ?_
    refine DrawT.one (n := 15) [] rfl rfl rfl (by kernel_rfl) (OpC.plain (Eff.call rfl rfl ent60 (iCompare_ret _)) rfl) ?_ ?_
    · rintro r35 w35 ⟨rfl, e35⟩
      refine ⟨?_, trivial⟩
      exact e35
    rintro r35 w35 ⟨rfl, e35⟩
    replace E := Ext.trans E e35
    replace k8 := k8.ext e35
    replace k9 := k9.ext e35
    refine DrawT.one (n := 16) [] rfl rfl rfl (by kernel_rfl) (OpC.plain (Eff.buildSl Tryz.underlying27 Tryz.sizeOf3 Tryz.zeroValue3 rfl rfl rfl rfl (by intro u hu; simp only [List.mem_cons, List.not_mem_nil, or_false] at hu; first | (subst hu; rfl) | (rcases hu with rfl | rfl <;> rfl) | (rcases hu with rfl | rfl | rfl <;> rfl))) rfl) ?_ ?_
    · rintro _ _ ⟨_, _, _, _, e, _⟩
      refine ⟨?_, trivial⟩
      exact Chg.mono e (fun _ _ h => h.elim)
    rintro _ w36 ⟨b36, rfl, hb36, hs36, e36, k36⟩
    have qE36 := E.size
    replace E := Ext.trans E e36
    replace k8 := k8.ext e36
    replace k9 := k9.ext e36
    refine DrawT.one (n := 17) [] rfl rfl rfl (by kernel_rfl) (OpC.plain (Eff.call rfl rfl ent59 (Or_ret _ (RSl.mk (enc := encInt) (xs := [cmpI (termsN kl py : Int) (termsN kl px : Int), cmpI ((ofL set px).length : Int) ((ofL set py).length : Int)]) encInt_len k36.cells (fun i u hu => hu) (by simp) (by simp)))) rfl) ?_ ?_
    · rintro r37 w37 ⟨rfl, e37⟩
      refine ⟨?_, trivial⟩
      exact e37
    rintro r37 w37 ⟨rfl, e37⟩
    replace E := Ext.trans E e37
    replace k8 := k8.ext e37
    replace k9 := k9.ext e37
    replace k36 := k36.ext e37
    refine DrawT.quiet 18 rfl rfl (fun W eW => OpOk.r (R.assign rfl) rfl) ?_
    refine DrawT.fin rfl ?_
    show St _ _ _ _ _
    refine St.weak [(7, _)] ⟨rfl, trivial⟩ ?_
    refine St.then_n ?_
    refine St.go hK2 ?_
    clear hK2
    refine St.ret ?_
    refine St.ret1 Tryz.results58 rfl ?_
    exact ⟨_, rfl, by rw [firstI2, cmpP, partAt_get hxi, partAt_get hyi], E⟩
  intro K1 hK1
  refine St.weak [(0, _), (1, _), (2, _), (3, _), (4, _)] ⟨rfl, rfl, rfl, rfl, rfl, trivial⟩ ?_
  refine St.drawT (S := fun k => w0.heap.size ≤ k) (eff := [10, 11, 12, 13]) mixed rfl rfl rfl rfl ?_
  replace E := Ext.trans E (Ext.drew _)
  refine DrawT.quiet 0 rfl rfl (fun W eW => OpOk.r (R.fieldA Tryz.underlying26 rfl Tryz.sizeOf24 rfl rfl rfl) rfl) ?_
  have hp11 := (E.cell h2)
  refine DrawT.pinL 1 rfl rfl Tryz.isAgg24 rfl hp11 ?_
  refine DrawT.quiet 2 rfl rfl (fun W eW => OpOk.r (R.move rfl) rfl) ?_
  refine DrawT.quiet 3 rfl rfl (fun W eW => OpOk.r (R.indexS i.toNat Tryz.underlying24 Tryz.sizeOf48 rfl rfl (by omega) (by omega)) rfl) ?_
  have hp14 := (E.cells hpx)
  refine DrawT.pinA 4 rfl rfl Tryz.isAgg48 Tryz.sizeOf48 rfl hp14 rfl ?_
  refine DrawT.quiet 5 rfl rfl (fun W eW => OpOk.r (R.fieldA Tryz.underlying26 rfl Tryz.sizeOf24 rfl rfl rfl) rfl) ?_
  have hp16 := (E.cell h2)
  refine DrawT.pinL 6 rfl rfl Tryz.isAgg24 rfl hp16 ?_
  refine DrawT.quiet 7 rfl rfl (fun W eW => OpOk.r (R.move rfl) rfl) ?_
  refine DrawT.quiet 8 rfl rfl (fun W eW => OpOk.r (R.indexS k.toNat Tryz.underlying24 Tryz.sizeOf48 rfl rfl (by omega) (by omega)) rfl) ?_
  have hp19 := (E.cells hpy)
  refine DrawT.pinA 9 rfl rfl Tryz.isAgg48 Tryz.sizeOf48 rfl hp19 rfl ?_
  refine DrawT.many (ns := [10, 11]) rfl rfl rfl ⟨⟨_, _, [9, 6, 4, 1], rfl, (by kernel_rfl), OpC.plain (Eff.alloc Tryz.zeroValue48) rfl, ?_, ?_⟩, ⟨_, _, [9, 6, 4, 1], rfl, (by kernel_rfl), OpC.plain (Eff.alloc Tryz.zeroValue48) rfl, ?_, ?_⟩, trivial⟩
  · rintro _ _ ⟨_, _, _, _, e, _⟩
    refine ⟨?_, ⟨e.cells hp19, e.cell hp16, e.cells hp14, e.cell hp11, trivial⟩⟩
    exact Chg.mono e (fun _ _ h => h.elim)
  · rintro _ w8 ⟨b8, rfl, hb8, hs8, e8, k8⟩
    replace hp19 := e8.cells hp19
    replace hp16 := e8.cell hp16
    replace hp14 := e8.cells hp14
    replace hp11 := e8.cell hp11
    have qE8 := E.size
    replace E := Ext.trans E e8
    refine DrawT.one (n := 11) [9, 6, 4, 1] rfl rfl rfl (by kernel_rfl) (OpC.plain (Eff.alloc Tryz.zeroValue48) rfl) ?_ ?_
    · rintro _ _ ⟨_, _, _, _, e, _⟩
      refine ⟨?_, ⟨e.cells hp19, e.cell hp16, e.cells hp14, e.cell hp11, trivial⟩⟩
      exact Chg.mono e (fun _ _ h => h.elim)
    rintro _ w9 ⟨b9, rfl, hb9, hs9, e9, k9⟩
    replace hp19 := e9.cells hp19
    replace hp16 := e9.cell hp16
    replace hp14 := e9.cells hp14
    replace hp11 := e9.cell hp11
    have qE9 := E.size
    replace E := Ext.trans E e9
    replace k8 := k8.ext e9
    refine DrawT.one (n := 12) [9, 6] rfl rfl rfl (by kernel_rfl) (OpC.plain (Eff.store Tryz.sizeOf48 rfl rfl k8 rfl (by simp [Value.cells, encPat, encSlot, encTerm]) (one_pat px)) rfl) ?_ ?_
    · rintro _ _ ⟨_, _, g, _⟩
      refine ⟨?_, ⟨g.cells hp19 (by first | omega | (dsimp only; omega)), g.cell hp16 (by first | omega | (dsimp only; omega)), trivial⟩⟩
      exact Chg.mono g (fun k _ h => by omega)
    rintro _ ws0 ⟨rfl, ks0, gs0, zs0⟩
    replace hp19 := gs0.cells hp19 (by first | omega | (dsimp only; omega))
    replace hp16 := gs0.cell hp16 (by first | omega | (dsimp only; omega))
    replace E := Ext.then E gs0 (by intro j hj; omega)
    replace k9 := k9.chg gs0 (by omega)
    clear k8; have k8 := ks0; clear ks0
    replace k8 : Blk ws0 b8 48 (encPat px) := k8
    refine DrawT.one (n := 13) [] rfl rfl rfl (by kernel_rfl) (OpC.plain (Eff.store Tryz.sizeOf48 rfl rfl k9 rfl (by simp [Value.cells, encPat, encSlot, encTerm]) (one_pat py)) rfl) ?_ ?_
    · rintro _ _ ⟨_, _, g, _⟩
      refine ⟨?_, trivial⟩
      exact Chg.mono g (fun k _ h => by omega)
    rintro _ ws1 ⟨rfl, ks1, gs1, zs1⟩
    replace E := Ext.then E gs1 (by intro j hj; omega)
    replace k8 := k8.chg gs1 (by omega)
    clear k9; have k9 := ks1; clear ks1
    replace k9 : Blk ws1 b9 48 (encPat py) := k9
    refine DrawT.fin rfl ?_
    show St _ _ _ _ _
    refine St.weak [(3, _), (4, _), (8, _), (9, _)] ⟨rfl, rfl, rfl, rfl, trivial⟩ ?_
    refine St.then_n ?_
    refine St.meet hK1 (b8, b9) ⟨rfl, rfl, rfl, rfl, trivial⟩ ?_
    · try dsimp only
      exact ⟨E, k8, k9⟩
  · rintro _ _ ⟨_, _, _, _, e, _⟩
    refine ⟨?_, ⟨e.cells hp19, e.cell hp16, e.cells hp14, e.cell hp11, trivial⟩⟩
    exact Chg.mono e (fun _ _ h => h.elim)
  · rintro _ w9 ⟨b9, rfl, hb9, hs9, e9, k9⟩
    replace hp19 := e9.cells hp19
    replace hp16 := e9.cell hp16
    replace hp14 := e9.cells hp14
    replace hp11 := e9.cell hp11
    have qE9 := E.size
    replace E := Ext.trans E e9
    refine DrawT.one (n := 10) [9, 6, 4, 1] rfl rfl rfl (by kernel_rfl) (OpC.plain (Eff.alloc Tryz.zeroValue48) rfl) ?_ ?_
    · rintro _ _ ⟨_, _, _, _, e, _⟩
      refine ⟨?_, ⟨e.cells hp19, e.cell hp16, e.cells hp14, e.cell hp11, trivial⟩⟩
      exact Chg.mono e (fun _ _ h => h.elim)
    rintro _ w8 ⟨b8, rfl, hb8, hs8, e8, k8⟩
    replace hp19 := e8.cells hp19
    replace hp16 := e8.cell hp16
    replace hp14 := e8.cells hp14
    replace hp11 := e8.cell hp11
    have qE8 := E.size
    replace E := Ext.trans E e8
    replace k9 := k9.ext e8
    refine DrawT.one (n := 12) [9, 6] rfl rfl rfl (by kernel_rfl) (OpC.plain (Eff.store Tryz.sizeOf48 rfl rfl k8 rfl (by simp [Value.cells, encPat, encSlot, encTerm]) (one_pat px)) rfl) ?_ ?_
    · rintro _ _ ⟨_, _, g, _⟩
      refine ⟨?_, ⟨g.cells hp19 (by first | omega | (dsimp only; omega)), g.cell hp16 (by first | omega | (dsimp only; omega)), trivial⟩⟩
      exact Chg.mono g (fun k _ h => by omega)
    rintro _ ws0 ⟨rfl, ks0, gs0, zs0⟩
    replace hp19 := gs0.cells hp19 (by first | omega | (dsimp only; omega))
    replace hp16 := gs0.cell hp16 (by first | omega | (dsimp only; omega))
    replace E := Ext.then E gs0 (by intro j hj; omega)
    replace k9 := k9.chg gs0 (by omega)
    clear k8; have k8 := ks0; clear ks0
    replace k8 : Blk ws0 b8 48 (encPat px) := k8
    refine DrawT.one (n := 13) [] rfl rfl rfl (by kernel_rfl) (OpC.plain (Eff.store Tryz.sizeOf48 rfl rfl k9 rfl (by simp [Value.cells, encPat, encSlot, encTerm]) (one_pat py)) rfl) ?_ ?_
    · rintro _ _ ⟨_, _, g, _⟩
      refine ⟨?_, trivial⟩
      exact Chg.mono g (fun k _ h => by omega)
    rintro _ ws1 ⟨rfl, ks1, gs1, zs1⟩
    replace E := Ext.then E gs1 (by intro j hj; omega)
    replace k8 := k8.chg gs1 (by omega)
    clear k9; have k9 := ks1; clear ks1
    replace k9 : Blk ws1 b9 48 (encPat py) := k9
    refine DrawT.fin rfl ?_
    show St _ _ _ _ _
    refine St.weak [(3, _), (4, _), (8, _), (9, _)] ⟨rfl, rfl, rfl, rfl, trivial⟩ ?_
    refine St.then_n ?_
    refine St.meet hK1 (b8, b9) ⟨rfl, rfl, rfl, rfl, trivial⟩ ?_
    · try dsimp only
      exact ⟨E, k8, k9⟩

theorem order2_ret {x n : Int} {B : Nat} (w0 : World) (hB : w0.cell? ⟨B, 0, none⟩ = some (.int .i64 n)) : Ret Tryz.prog 65 [.int .i64 x, .pointer (some ⟨B, 0, none⟩)] w0 fun r w' => r = .bool (decide (x = n)) ∧ Ext w0 w' := by
  have E : Ext w0 w0 := Ext.refl w0
  refine St.enter (N := 7) Tryz.func65 rfl Tryz.ntmps65 rfl ?_
  refine St.seq fun K0 hK0 => ?_
  refine St.region ?_
  refine St.r (R.assign rfl) rfl rfl ?_
  refine St.nil ?_
  refine St.weak [(0, _), (1, _)] ⟨rfl, rfl, trivial⟩ ?_
  refine St.then_n ?_
  refine St.go hK0 ?_
  clear hK0
  refine St.seq fun K1 hK1 => ?_
  refine St.region ?_
  refine St.r (R.move rfl) rfl rfl ?_
  refine St.r (R.load1 Tryz.isAgg3 rfl (E.cell hB)) rfl rfl ?_
  refine St.r (R.eql rfl rfl) rfl rfl ?_
  refine St.r (R.assign rfl) rfl rfl ?_
  refine St.nil ?_
  refine St.weak [(3, _)] ⟨rfl, trivial⟩ ?_
  refine St.then_n ?_
  refine St.go hK1 ?_
  clear hK1
  refine St.ret ?_
  refine St.ret1 Tryz.results65 rfl ?_
  exact ⟨_, rfl, rfl, E⟩

set_option maxHeartbeats 4000000 in
set_option maxRecDepth 100000 in
theorem Order_ret {l : List Triple} {q : Query} {cs : List Value} {v : Value} (w0 : World) (hv : RTriples w0 v l) (hq : RQuery w0 cs q) : Ret Tryz.prog 10 [v, .agg cs.toArray] w0 fun r w' => ∃ ov, r = .tuple #[ov, errV 119 (planErr l q)] ∧ RInts w' ov (if (planErr l q).isSome then [] else orderL l q) ∧ Ext w0 w' := by
  have hq0 := hq
  obtain ⟨vv, pv, rfl, hvv, hpv⟩ := hq
  obtain ⟨PA, PC, rfl, -, -⟩ := hpv.form
  obtain ⟨VA, VC, rfl, -, -⟩ := hv.form
  have E : Ext w0 w0 := Ext.refl w0
  refine St.enter (N := 67) Tryz.func10 rfl Tryz.ntmps10 rfl ?_
  refine St.seq fun K0 hK0 => ?_
  refine St.region ?_
  refine St.box rfl rfl ?_
  intro w2 b2 hb2 hs2 e2 k2
  have qE2 := E.size
  replace E := Ext.trans E e2
  refine St.box rfl rfl ?_
  intro w3 b3 hb3 hs3 e3 k3
  have qE3 := E.size
  replace E := Ext.trans E e3
  replace k2 := k2.ext e3
  refine St.r (R.assign rfl) rfl rfl ?_
  refine St.r (R.assign rfl) rfl rfl ?_
  refine St.nil ?_
  refine St.weak [(2, _), (3, _)] ⟨rfl, rfl, trivial⟩ ?_
  refine St.then_n ?_
  refine St.go hK0 ?_
  clear hK0
  refine St.seq fun K1 hK1 => ?_
  refine St.seq fun K2 hK2 => ?_
  refine St.region ?_
  refine St.r (R.load1 Tryz.isAgg22 rfl (k2.cells.at 0 rfl)) rfl rfl ?_
  refine St.call rfl rfl ent55 (Sorted_ret _ (hv.ext (REnc.firm _) E)) rfl ?_
  rintro r16 w16 ⟨rfl, e16⟩
  replace E := Ext.trans E e16
  replace k2 := k2.ext e16
  replace k3 := k3.ext e16
  refine St.r (R.assign rfl) rfl rfl ?_
  refine St.nil ?_
  refine St.weak [(2, _), (3, _), (6, _)] ⟨rfl, rfl, rfl, trivial⟩ ?_
  refine St.then_n ?_
  refine St.go hK2 ?_
  clear hK2
  refine St.seq fun K3 hK3 => ?_
  refine St.region ?_
  refine St.r (R.move rfl) rfl rfl ?_
  refine St.r (R.notNil (et := 119) (e := _) Tryz.underlying32 rfl) rfl rfl ?_
  refine St.nil ?_
  refine St.weak [(2, _), (3, _), (6, _), (18, _)] ⟨rfl, rfl, rfl, rfl, trivial⟩ ?_
  refine St.then_n ?_
  refine St.go hK3 ?_
  clear hK3
  refine St.cond rfl (fun h18 => ?_) (fun h18 => ?_)
  ·
    obtain ⟨er, her⟩ := Option.isSome_iff_exists.1 h18
    have hae : planErr l q = some er := by simp only [planErr, her]
    refine St.seq fun K4 hK4 => ?_
    refine St.region ?_
    refine St.r (R.move rfl) rfl rfl ?_
    refine St.r (R.assign rfl) rfl rfl ?_
    refine St.r (R.assign rfl) rfl rfl ?_
    refine St.nil ?_
    refine St.weak [(4, _), (5, _)] ⟨rfl, rfl, trivial⟩ ?_
    refine St.then_n ?_
    refine St.go hK4 ?_
    clear hK4
    refine St.ret ?_
    refine St.then_r ?_
    refine St.ret2 Tryz.results10 rfl rfl ?_
    exact ⟨_, rfl, _, by rw [hae, her], by rw [hae]; exact RSl.nil _ _ _, E⟩
  ·
    have hS := isSome_false h18
    have hset := setErr_iff.1 hS
    refine St.skip ?_
    refine St.then_n ?_
    refine St.go hK1 ?_
    clear hK1
    refine St.seq fun K5 hK5 => ?_
    refine St.seq fun K6 hK6 => ?_
    refine St.region ?_
    refine St.r (R.loadA Tryz.isAgg26 Tryz.sizeOf26 rfl k3.cells rfl) rfl rfl ?_
    refine St.call rfl rfl ent56 (aCheck_ret _ (RQuery.firm _ _ _ _ E hq0)) rfl ?_
    rintro r21 w21 ⟨rfl, e21⟩
    replace E := Ext.trans E e21
    replace k2 := k2.ext e21
    replace k3 := k3.ext e21
    refine St.r (R.assign rfl) rfl rfl ?_
    refine St.nil ?_
    refine St.weak [(2, _), (3, _), (7, _)] ⟨rfl, rfl, rfl, trivial⟩ ?_
    refine St.then_n ?_
    refine St.go hK6 ?_
    clear hK6
    refine St.seq fun K7 hK7 => ?_
    refine St.region ?_
    refine St.r (R.move rfl) rfl rfl ?_
    refine St.r (R.notNil (et := 119) (e := _) Tryz.underlying32 rfl) rfl rfl ?_
    refine St.nil ?_
    refine St.weak [(2, _), (3, _), (7, _), (23, _)] ⟨rfl, rfl, rfl, rfl, trivial⟩ ?_
    refine St.then_n ?_
    refine St.go hK7 ?_
    clear hK7
    refine St.cond rfl (fun h23 => ?_) (fun h23 => ?_)
    ·
      obtain ⟨er, her⟩ := Option.isSome_iff_exists.1 h23
      have hae : planErr l q = some er := by simp only [planErr, hS, her]
      refine St.seq fun K8 hK8 => ?_
      refine St.region ?_
      refine St.r (R.move rfl) rfl rfl ?_
      refine St.r (R.assign rfl) rfl rfl ?_
      refine St.r (R.assign rfl) rfl rfl ?_
      refine St.nil ?_
      refine St.weak [(4, _), (5, _)] ⟨rfl, rfl, trivial⟩ ?_
      refine St.then_n ?_
      refine St.go hK8 ?_
      clear hK8
      refine St.ret ?_
      refine St.then_r ?_
      refine St.ret2 Tryz.results10 rfl rfl ?_
      exact ⟨_, rfl, _, by rw [hae, her], by rw [hae]; exact RSl.nil _ _ _, E⟩
    ·
      have hQ := isSome_false h23
      obtain ⟨hp6, hp0, hpe⟩ := query_few hQ
      have hae : planErr l q = none := by simp only [planErr, hS, hQ]
      have hfew := hset.few
      obtain ⟨p0, hp00⟩ := get_of_lt (xs := q.parts) (k := 0) (by omega)
      obtain ⟨pb, po, rfl, -⟩ := hpv.get' hp00
      refine St.skip ?_
      refine St.then_n ?_
      refine St.go hK5 ?_
      clear hK5
      refine St.seq fun K9 hK9 => ?_
      refine St.region ?_
      refine St.r (R.assign rfl) rfl rfl ?_
      refine St.r (R.assign rfl) rfl rfl ?_
      refine St.nil ?_
      refine St.weak [(2, _), (3, _), (8, _), (9, _)] ⟨rfl, rfl, rfl, rfl, trivial⟩ ?_
      refine St.then_n ?_
      refine St.go hK9 ?_
      clear hK9
      refine St.seq fun K10 hK10 => ?_
      refine St.seq fun K11 hK11 => ?_
      refine St.region ?_
      refine St.r (R.fieldA Tryz.underlying26 rfl Tryz.sizeOf24 rfl rfl rfl) rfl rfl ?_
      refine St.r (R.load1 Tryz.isAgg24 rfl (k3.cells.at 1 rfl)) rfl rfl ?_
      refine St.r (R.lenSl Tryz.underlying24 rfl) rfl rfl ?_
      refine St.r (R.move rfl) rfl rfl ?_
      refine St.nil ?_
      refine St.weak [(2, _), (3, _), (8, _), (9, _), (27, _), (28, _)] ⟨rfl, rfl, rfl, rfl, rfl, rfl, trivial⟩ ?_
      refine St.then_n ?_
      refine St.go hK11 ?_
      clear hK11
      refine St.block ?_
      refine St.loop (fun (x : Nat × Value) => match x with | (k, lv) => [(2, .pointer (some ⟨b2, 0, none⟩)), (3, .pointer (some ⟨b3, 0, none⟩)), (8, lv), (9, .slice none 0 0), (27, .int .i64 (q.parts.length : Int)), (28, .int .i64 (k : Int))])
          (fun (x : Nat × Value) w => match x with | (k, lv) => k ≤ q.parts.length ∧ Ext w0 w ∧ Blk w b2 22 [.slice VA l.length VC] ∧ Blk w b3 26 [vv, .slice (some ⟨pb, po, none⟩) q.parts.length PC, .string q.order, .bool q.down, .bool q.distinct, .int .i64 q.limit] ∧ Own encInt 1 (w0.heap.size + 2) 3 w lv (rangeI k) ∧ w0.heap.size + 2 ≤ w.heap.size)
          (fun (x : Nat × Value) => match x with | (k, lv) => q.parts.length - k) (0, .slice none 0 0) ⟨rfl, rfl, rfl, rfl, rfl, rfl, trivial⟩ ?_ ?_
      · exact ⟨Nat.zero_le _, E, k2, k3, Own.nil _ _ _ _ _, by have := k3.lt; omega⟩
      rintro ⟨k, lv⟩ w ⟨hk, E, k2, k3, o8, zz⟩
      show St _ _ [(2, .pointer (some ⟨b2, 0, none⟩)), (3, .pointer (some ⟨b3, 0, none⟩)), (8, lv), (9, .slice none 0 0), (27, .int .i64 (q.parts.length : Int)), (28, .int .i64 (k : Int))] _ _
      refine St.seq fun K12 hK12 => ?_
      refine St.region ?_
      refine St.r (R.lss rfl rfl) rfl rfl ?_
      refine St.nil ?_
      refine St.weak [(2, _), (3, _), (8, _), (9, _), (27, _), (28, _), (29, _)] ⟨rfl, rfl, rfl, rfl, rfl, rfl, rfl, trivial⟩ ?_
      refine St.then_n ?_
      refine St.go hK12 ?_
      clear hK12
      refine St.seq fun K13 hK13 => ?_
      refine St.condD rfl (fun h29 => ?_) (fun h29 => ?_)
      ·
        have hrl := rangeI_len k
        have hzz := zz
        refine St.skip ?_
        refine St.then_n ?_
        refine St.go hK13 ?_
        clear hK13
        refine St.seq fun K14 hK14 => ?_
        refine St.block ?_
        refine St.seq fun K15 hK15 => ?_
        refine St.region ?_
        refine St.r (R.move rfl) rfl rfl ?_
        refine St.r (R.assign rfl) rfl rfl ?_
        refine St.nil ?_
        refine St.weak [(2, _), (3, _), (8, _), (9, _), (10, _), (27, _), (28, _)] ⟨rfl, rfl, rfl, rfl, rfl, rfl, rfl, trivial⟩ ?_
        refine St.then_n ?_
        refine St.go hK15 ?_
        clear hK15
        refine St.region ?_
        refine St.r (R.move rfl) rfl rfl ?_
        refine St.r (R.move rfl) rfl rfl ?_
        refine St.buildSl Tryz.underlying27 Tryz.sizeOf3 Tryz.zeroValue3 rfl rfl rfl rfl (by intro u hu; simp only [List.mem_cons, List.not_mem_nil, or_false] at hu; first | (subst hu; rfl) | (rcases hu with rfl | rfl <;> rfl) | (rcases hu with rfl | rfl | rfl <;> rfl) | (rcases hu with rfl | rfl | rfl | rfl <;> rfl)) rfl ?_
        intro w33 b33 hb33 hs33 e33 k33
        have qE33 := E.size
        replace E := Ext.trans E e33
        replace k2 := k2.ext e33
        replace k3 := k3.ext e33
        replace o8 := o8.ext e33
        replace zz := Nat.le_trans zz (Chg.size e33)
        refine St.append (enc := encInt) (fun _ => rfl) one_int Tryz.underlying27 info3 rfl rfl rfl rfl o8 (RSl.mk (enc := encInt) (xs := [(k : Int)]) encInt_len k33.cells (fun i u hu => hu) (by simp) (by simp)) (by simp; omega) (by simp; omega) (by omega) rfl ?_
        intro v34 w34 a34 g34 at34
        replace E := Ext.then E g34 (by intro j hj hk; have := (o8.base hk).1; omega)
        replace k2 := k2.chg g34 (by intro hk; have := (o8.base hk).1; omega)
        replace k3 := k3.chg g34 (by intro hk; have := (o8.base hk).1; omega)
        replace zz := Nat.le_trans zz (Chg.size g34)
        clear o8; have o8 := a34; clear a34
        refine St.r (R.assign rfl) rfl rfl ?_
        refine St.nil ?_
        refine St.weak [(2, _), (3, _), (8, _), (9, _), (27, _), (28, _)] ⟨rfl, rfl, rfl, rfl, rfl, rfl, trivial⟩ ?_
        refine St.in_n ?_
        refine St.then_n ?_
        refine St.go hK14 ?_
        clear hK14
        refine St.region ?_
        refine St.r (R.add rfl rfl (by omega) (by omega)) rfl rfl ?_
        refine St.r (R.move rfl) rfl rfl ?_
        refine St.nil ?_
        refine St.weak [(2, _), (3, _), (8, _), (9, _), (27, _), (28, _)] ⟨rfl, rfl, rfl, rfl, rfl, rfl, trivial⟩ ?_
        refine St.then_n ?_
        refine St.round (k + 1, v34) ⟨rfl, rfl, rfl, rfl, rfl, rfl, trivial⟩ ?_ ?_
        · try dsimp only
          exact ⟨by omega, E, k2, k3, by rw [rangeI_succ]; exact o8, zz⟩
        · try dsimp only
          omega
      ·
        refine St.exit ?_
        refine St.then_x ?_
        refine St.then_x ?_
        refine St.in_x ?_
        refine St.then_n ?_
        refine St.go hK10 ?_
        clear hK10
        refine St.seq fun K16 hK16 => ?_
        refine St.region ?_
        obtain rfl : k = q.parts.length := by omega
        have hll := fun k hk => (o8.base (k := k) hk).2
        have hz36 := zz
        refine St.turn (Eff.makeMap (fun s : ByteArray => Value.string s) (fun b : Bool => Value.bool b)) rfl rfl ?_
        rintro _ w36 ⟨b36, rfl, hb36, hs36, e36, m36⟩
        have qE36 := E.size
        replace E := Ext.trans E e36
        replace k2 := k2.ext e36
        replace k3 := k3.ext e36
        replace o8 := o8.ext e36
        replace zz := Nat.le_trans zz (Chg.size e36)
        have hb36e := hb36
        refine St.alloc Tryz.zeroValue110 rfl ?_
        intro w11 b11 hb11 hs11 e11 k11
        have qE11 := E.size
        replace E := Ext.trans E e11
        replace k2 := k2.ext e11
        replace k3 := k3.ext e11
        replace o8 := o8.ext e11
        replace zz := Nat.le_trans zz (Chg.size e11)
        replace m36 := m36.ext e11
        refine St.store Tryz.sizeOf110 rfl rfl k11 rfl (by simp [Value.cells]) (by simp [Value.cells, Value.oneCell']) ?_
        intro ws0 ks0 gs0 zs0
        replace E := Ext.then E gs0 (by intro j hj; omega)
        replace k2 := k2.chg gs0 (by omega)
        replace k3 := k3.chg gs0 (by omega)
        replace o8 := o8.chg gs0 (fun k hk h => by have := hll k hk; omega)
        replace zz := Nat.le_trans zz (Chg.size gs0)
        replace m36 := m36.chg gs0 (by omega)
        clear k11; have k11 := ks0; clear ks0
        replace k11 : Blk ws0 b11 110 [.map (some b36)] := k11
        refine St.nil ?_
        refine St.weak [(2, _), (3, _), (8, _), (9, _), (11, _)] ⟨rfl, rfl, rfl, rfl, rfl, trivial⟩ ?_
        refine St.then_n ?_
        refine St.go hK16 ?_
        clear hK16
        refine St.seq fun K17 hK17 => ?_
        refine St.block ?_
        obtain ⟨Z, hZ⟩ : ∃ Z, Z = ws0.heap.size := ⟨_, rfl⟩
        have zk := k11.lt
        have zZ : Z ≤ ws0.heap.size := by omega
        replace hll : ∀ k, lv.ownBlock = some k → k < b36 := fun k hk => by have := hll k hk; omega
        have hbZ : b2 < b36 ∧ b3 < b36 ∧ b36 < b11 ∧ b11 < Z ∧ w0.heap.size ≤ b2 := by omega
        refine St.loop (fun (x : List Int × List Int × List ByteArray × List (ByteArray × Bool) × Value × Value) => match x with | (left, out, kl, ms, lv, ov) => [(2, .pointer (some ⟨b2, 0, none⟩)), (3, .pointer (some ⟨b3, 0, none⟩)), (8, lv), (9, ov), (11, .pointer (some ⟨b11, 0, none⟩))])
            (fun (x : List Int × List Int × List ByteArray × List (ByteArray × Bool) × Value × Value) w => match x with | (left, out, kl, ms, lv, ov) => left.Nodup ∧ (∀ x ∈ left, 0 ≤ x ∧ x < (q.parts.length : Int)) ∧ out.length + left.length = q.parts.length ∧ orderL l q = out ++ ordL l q.parts left.length left kl ∧ KnownM ms kl ∧ (∀ k, lv.ownBlock = some k → k < b36) ∧ Ext w0 w ∧ Blk w b2 22 [.slice VA l.length VC] ∧ Blk w b3 26 [vv, .slice (some ⟨pb, po, none⟩) q.parts.length PC, .string q.order, .bool q.down, .bool q.distinct, .int .i64 q.limit] ∧ Blk w b11 110 [.map (some b36)] ∧ MapB (fun s : ByteArray => Value.string s) (fun b : Bool => Value.bool b) w b36 ms ∧ Own encInt 1 (w0.heap.size + 2) 3 w lv left ∧ Own encInt 1 Z 3 w ov out ∧ Z ≤ w.heap.size)
            (fun (x : List Int × List Int × List ByteArray × List (ByteArray × Bool) × Value × Value) => match x with | (left, out, kl, ms, lv, ov) => left.length) (rangeI q.parts.length, [], [], [], lv, .slice none 0 0) ⟨rfl, rfl, rfl, rfl, rfl, trivial⟩ ?_ ?_
        · exact ⟨rangeI_nodup _, fun x hx => mem_rangeI.1 hx, by rw [rangeI_len]; simp, by rw [rangeI_len]; rfl, KnownM.start, hll, E, k2, k3, k11, m36, o8, Own.nil _ _ _ _ _, zZ⟩
        rintro ⟨left, out, kl, ms, lv, ov⟩ w ⟨hnd, hlb, hlen, hord, hkn, hll, E, k2, k3, k11, m36, o8, o9, zz⟩
        show St _ _ [(2, .pointer (some ⟨b2, 0, none⟩)), (3, .pointer (some ⟨b3, 0, none⟩)), (8, lv), (9, ov), (11, .pointer (some ⟨b11, 0, none⟩))] _ _
        obtain ⟨LA, LC, rfl, -, -⟩ := o8.form
        refine St.seq fun K18 hK18 => ?_
        refine St.seq fun K19 hK19 => ?_
        refine St.region ?_
        refine St.r (R.move rfl) rfl rfl ?_
        refine St.r (R.lenSl Tryz.underlying27 rfl) rfl rfl ?_
        refine St.r (R.gtr rfl rfl) rfl rfl ?_
        refine St.nil ?_
        refine St.weak [(2, _), (3, _), (8, _), (9, _), (11, _), (39, _)] ⟨rfl, rfl, rfl, rfl, rfl, rfl, trivial⟩ ?_
        refine St.then_n ?_
        refine St.go hK19 ?_
        clear hK19
        refine St.condD rfl (fun h39 => ?_) (fun h39 => ?_)
        ·
          have hzz := zz
          have hov0 := fun k hk => (o9.base (k := k) hk).2
          obtain ⟨g0, hg0⟩ : ∃ g, g = w.heap.size := ⟨_, rfl⟩
          refine St.skip ?_
          refine St.then_n ?_
          refine St.go hK18 ?_
          clear hK18
          refine St.block ?_
          refine St.seq fun K20 hK20 => ?_
          refine St.region ?_
          refine St.r (R.move rfl) rfl rfl ?_
          refine St.r (R.fn rfl rfl) rfl rfl ?_
          refine St.call rfl rfl ent57 (int_MinFunc (f := cmpP l q.parts kl) _ (o8.reads encInt_len) ent58 (by omega) (fun W x y eW hx hy => order1_ret W (Nat.lt_of_lt_of_le k3.lt eW.size) ((k3.ext eW).cell 1 rfl) (hpv.ext (REnc.firm _) (Ext.trans E eW)) ((k11.ext eW).cell 0 rfl) (m36.ext eW) hkn ((k2.ext eW).cell 0 rfl) (hv.ext (REnc.firm _) (Ext.trans E eW)) hfew (hlb x hx) (hlb y hy))) rfl ?_
          rintro r42 w42 ⟨rfl, e42⟩
          replace E := Ext.trans E e42
          replace k2 := k2.ext e42
          replace k3 := k3.ext e42
          replace k11 := k11.ext e42
          replace m36 := m36.ext e42
          replace o8 := o8.ext e42
          replace o9 := o9.ext e42
          replace zz := Nat.le_trans zz (Chg.size e42)
          generalize hbm : minL (cmpP l q.parts kl) left = best
          have hbl : best ∈ left := hbm ▸ minL_mem _ (by omega)
          obtain ⟨hb0, hb1⟩ := hlb best hbl
          have hfl := filter_ne_len hnd hbl
          obtain ⟨px, hxi⟩ := get_of_lt (xs := q.parts) (k := best.toNat) (by omega)
          have hpc := hpv.get hxi
          have hs42 := e42.size
          have hoL8 := fun k hk => (o8.base (k := k) hk).2
          have hoL9 := fun k hk => (o9.base (k := k) hk).2
          refine St.alloc Tryz.zeroValue3 rfl ?_
          intro w12 b12 hb12 hs12 e12 k12
          have qE12 := E.size
          replace E := Ext.trans E e12
          replace k2 := k2.ext e12
          replace k3 := k3.ext e12
          replace k11 := k11.ext e12
          replace m36 := m36.ext e12
          replace o8 := o8.ext e12
          replace o9 := o9.ext e12
          replace zz := Nat.le_trans zz (Chg.size e12)
          refine St.store Tryz.sizeOf3 rfl rfl k12 rfl (by simp [Value.cells]) (by simp [Value.cells, Value.oneCell']) ?_
          intro ws1 ks1 gs1 zs1
          replace E := Ext.then E gs1 (by intro j hj; omega)
          replace k2 := k2.chg gs1 (by omega)
          replace k3 := k3.chg gs1 (by omega)
          replace k11 := k11.chg gs1 (by omega)
          replace m36 := m36.chg gs1 (by omega)
          replace o8 := o8.chg gs1 (fun k hk h => by have := hoL8 k hk; omega)
          replace o9 := o9.chg gs1 (fun k hk h => by have := hoL9 k hk; omega)
          replace zz := Nat.le_trans zz (Chg.size gs1)
          clear k12; have k12 := ks1; clear ks1
          replace k12 : Blk ws1 b12 3 [.int .i64 best] := k12
          refine St.nil ?_
          refine St.weak [(2, _), (3, _), (8, _), (9, _), (11, _), (12, _)] ⟨rfl, rfl, rfl, rfl, rfl, rfl, trivial⟩ ?_
          refine St.then_n ?_
          refine St.go hK20 ?_
          clear hK20
          refine St.seq fun K21 hK21 => ?_
          refine St.seq fun K22 hK22 => ?_
          refine St.region ?_
          refine St.r (R.fieldA Tryz.underlying26 rfl Tryz.sizeOf24 rfl rfl rfl) rfl rfl ?_
          refine St.r (R.load1 Tryz.isAgg24 rfl (k3.cells.at 1 rfl)) rfl rfl ?_
          refine St.r (R.load1 Tryz.isAgg3 rfl (k12.cells.at 0 rfl)) rfl rfl ?_
          refine St.r (R.indexS best.toNat Tryz.underlying24 Tryz.sizeOf48 rfl rfl (by omega) (by omega)) rfl rfl ?_
          refine St.r (R.loadA Tryz.isAgg48 Tryz.sizeOf48 rfl (E.cells hpc) rfl) rfl rfl ?_
          refine St.call rfl rfl ent63 (mSlots_ret _) rfl ?_
          rintro r48 w48 ⟨rfl, e48⟩
          replace E := Ext.trans E e48
          replace k2 := k2.ext e48
          replace k3 := k3.ext e48
          replace k11 := k11.ext e48
          replace m36 := m36.ext e48
          replace o8 := o8.ext e48
          replace o9 := o9.ext e48
          replace zz := Nat.le_trans zz (Chg.size e48)
          replace k12 := k12.ext e48
          refine St.r (R.move rfl) rfl rfl ?_
          refine St.nil ?_
          refine St.weak [(2, _), (3, _), (8, _), (9, _), (11, _), (12, _), (48, _), (49, _)] ⟨rfl, rfl, rfl, rfl, rfl, rfl, rfl, rfl, trivial⟩ ?_
          refine St.then_n ?_
          refine St.go hK22 ?_
          clear hK22
          refine St.block ?_
          have hb12Z : b11 < b12 := by omega
          have hov : ∀ k, ov.ownBlock = some k → k ≠ b12 := fun k hk e => by have := hov0 k hk; omega
          refine St.loop (fun (x : Nat × List (ByteArray × Bool)) => match x with | (k, ms2) => [(2, .pointer (some ⟨b2, 0, none⟩)), (3, .pointer (some ⟨b3, 0, none⟩)), (8, .slice LA left.length LC), (9, ov), (11, .pointer (some ⟨b11, 0, none⟩)), (12, .pointer (some ⟨b12, 0, none⟩)), (48, .agg ((slotsOf px).flatMap encSlot).toArray), (49, .int .i64 (k : Int))])
              (fun (x : Nat × List (ByteArray × Bool)) w => match x with | (k, ms2) => k ≤ 3 ∧ Ext w0 w ∧ Blk w b2 22 [.slice VA l.length VC] ∧ Blk w b3 26 [vv, .slice (some ⟨pb, po, none⟩) q.parts.length PC, .string q.order, .bool q.down, .bool q.distinct, .int .i64 q.limit] ∧ Blk w b11 110 [.map (some b36)] ∧ Blk w b12 3 [.int .i64 best] ∧ MapB (fun s : ByteArray => Value.string s) (fun b : Bool => Value.bool b) w b36 ms2 ∧ KnownM ms2 (kl ++ (((slotsOf px).take k).filter fun s => decide (s.var ≠ ⟨#[]⟩)).map (·.var)) ∧ Own encInt 1 (w0.heap.size + 2) 3 w (.slice LA left.length LC) left ∧ Own encInt 1 Z 3 w ov out ∧ Z ≤ w.heap.size)
              (fun (x : Nat × List (ByteArray × Bool)) => match x with | (k, ms2) => 3 - k) (0, ms) ⟨rfl, rfl, rfl, rfl, rfl, rfl, rfl, rfl, trivial⟩ ?_ ?_
          · exact ⟨Nat.zero_le _, E, k2, k3, k11, k12, m36, by simpa using hkn, o8, o9, zz⟩
          rintro ⟨k, ms2⟩ w ⟨hk, E, k2, k3, k11, k12, m36, hkn2, o8, o9, zz⟩
          show St _ _ [(2, .pointer (some ⟨b2, 0, none⟩)), (3, .pointer (some ⟨b3, 0, none⟩)), (8, .slice LA left.length LC), (9, ov), (11, .pointer (some ⟨b11, 0, none⟩)), (12, .pointer (some ⟨b12, 0, none⟩)), (48, .agg ((slotsOf px).flatMap encSlot).toArray), (49, .int .i64 (k : Int))] _ _
          refine St.seq fun K23 hK23 => ?_
          refine St.region ?_
          refine St.r (R.lss rfl rfl) rfl rfl ?_
          refine St.nil ?_
          refine St.weak [(2, _), (3, _), (8, _), (9, _), (11, _), (12, _), (48, _), (49, _), (50, _)] ⟨rfl, rfl, rfl, rfl, rfl, rfl, rfl, rfl, rfl, trivial⟩ ?_
          refine St.then_n ?_
          refine St.go hK23 ?_
          clear hK23
          refine St.seq fun K24 hK24 => ?_
          refine St.condD rfl (fun h50 => ?_) (fun h50 => ?_)
          ·
            obtain ⟨s, hs⟩ := slots_get (p := px) (i := k) (by omega)
            have hzz2 := zz
            have hk12 := k12.lt
            refine St.skip ?_
            refine St.then_n ?_
            refine St.go hK24 ?_
            clear hK24
            refine St.seq fun K25 hK25 => ?_
            refine St.block ?_
            refine St.seq fun K26 hK26 => ?_
            refine St.region ?_
            refine St.r (R.idxArr k Tryz.underlying115 Tryz.isAgg46 Tryz.sizeOf46 rfl rfl rfl (by omega) (flat_cut encSlot_len hs)) rfl rfl ?_
            have hoLa := fun k hk => (o8.base (k := k) hk).2
            have hoLb := fun k hk => (o9.base (k := k) hk).2
            refine St.alloc Tryz.zeroValue46 rfl ?_
            intro w14 b14 hb14 hs14 e14 k14
            have qE14 := E.size
            replace E := Ext.trans E e14
            replace k2 := k2.ext e14
            replace k3 := k3.ext e14
            replace k11 := k11.ext e14
            replace m36 := m36.ext e14
            replace o8 := o8.ext e14
            replace o9 := o9.ext e14
            replace zz := Nat.le_trans zz (Chg.size e14)
            replace k12 := k12.ext e14
            refine St.store Tryz.sizeOf46 rfl rfl k14 rfl (by simp [Value.cells, encSlot, encTerm]) (one_slot s) ?_
            intro ws2 ks2 gs2 zs2
            replace E := Ext.then E gs2 (by intro j hj; omega)
            replace k2 := k2.chg gs2 (by omega)
            replace k3 := k3.chg gs2 (by omega)
            replace k11 := k11.chg gs2 (by omega)
            replace m36 := m36.chg gs2 (by omega)
            replace o8 := o8.chg gs2 (fun k hk h => by have := hoLa k hk; omega)
            replace o9 := o9.chg gs2 (fun k hk h => by have := hoLb k hk; omega)
            replace zz := Nat.le_trans zz (Chg.size gs2)
            replace k12 := k12.chg gs2 (by omega)
            clear k14; have k14 := ks2; clear ks2
            replace k14 : Blk ws2 b14 46 (encSlot s) := k14
            refine St.nil ?_
            refine St.weak [(2, _), (3, _), (8, _), (9, _), (11, _), (12, _), (14, _), (48, _), (49, _)] ⟨rfl, rfl, rfl, rfl, rfl, rfl, rfl, rfl, rfl, trivial⟩ ?_
            refine St.then_n ?_
            refine St.go hK26 ?_
            clear hK26
            refine St.region ?_
            refine St.r (R.load1 Tryz.isAgg110 rfl (k11.cells.at 0 rfl)) rfl rfl ?_
            refine St.r (R.fieldA Tryz.underlying46 rfl Tryz.sizeOf9 rfl rfl rfl) rfl rfl ?_
            refine St.r (R.load1 Tryz.isAgg9 rfl (k14.cells.at 0 rfl)) rfl rfl ?_
            refine St.r (R.fieldA Tryz.underlying46 rfl Tryz.sizeOf9 rfl rfl rfl) rfl rfl ?_
            refine St.r (R.load1 Tryz.isAgg9 rfl (k14.cells.at 0 rfl)) rfl rfl ?_
            refine St.r (R.neS rfl rfl) rfl rfl ?_
            refine St.turn (Eff.mapUpdate (KEnc.str Tryz.underlying9) Tryz.underlying110 m36 rfl rfl rfl) rfl rfl ?_
            rintro _ wm0 ⟨rfl, mm0, gm0, zm0⟩
            replace E := Ext.then E gm0 (by intro j hj; omega)
            replace k2 := k2.chg gm0 (by omega)
            replace k3 := k3.chg gm0 (by omega)
            replace k11 := k11.chg gm0 (by omega)
            replace o8 := o8.chg gm0 (fun k hk h => by have := hll k hk; omega)
            replace o9 := o9.chg gm0 (by intro k hk h; have := (o9.base hk).1; omega)
            replace zz := Nat.le_trans zz (Chg.size gm0)
            replace k12 := k12.chg gm0 (by omega)
            replace k14 := k14.chg gm0 (by omega)
            clear m36; have m36 := mm0; clear mm0
            refine St.nil ?_
            refine St.weak [(2, _), (3, _), (8, _), (9, _), (11, _), (12, _), (48, _), (49, _)] ⟨rfl, rfl, rfl, rfl, rfl, rfl, rfl, rfl, trivial⟩ ?_
            refine St.in_n ?_
            refine St.then_n ?_
            refine St.go hK25 ?_
            clear hK25
            refine St.region ?_
            refine St.r (R.add rfl rfl (by omega) (by omega)) rfl rfl ?_
            refine St.r (R.move rfl) rfl rfl ?_
            refine St.nil ?_
            refine St.weak [(2, _), (3, _), (8, _), (9, _), (11, _), (12, _), (48, _), (49, _)] ⟨rfl, rfl, rfl, rfl, rfl, rfl, rfl, rfl, trivial⟩ ?_
            refine St.then_n ?_
            refine St.round (k + 1, putM ms2 s.var (decide (s.var ≠ ⟨#[]⟩))) ⟨rfl, rfl, rfl, rfl, rfl, rfl, rfl, rfl, trivial⟩ ?_ ?_
            · try dsimp only
              refine ⟨by omega, E, k2, k3, k11, k12, m36, ?_, o8, o9, zz⟩
              have h := hkn2.put s
              rw [take_snoc hs, List.filter_append, List.map_append, ← List.append_assoc]
              by_cases hsv : s.var = ⟨#[]⟩ <;> simpa [hsv] using h
            · try dsimp only
              omega
          ·
            obtain rfl : k = 3 := by omega
            replace hkn2 : KnownM ms2 (kl ++ partVars px) := hkn2
            refine St.exit ?_
            refine St.then_x ?_
            refine St.then_x ?_
            refine St.in_x ?_
            refine St.then_n ?_
            refine St.go hK21 ?_
            clear hK21
            refine St.seq fun K27 hK27 => ?_
            refine St.region ?_
            refine St.r (R.move rfl) rfl rfl ?_
            refine St.r (R.load1 Tryz.isAgg3 rfl (k12.cells.at 0 rfl)) rfl rfl ?_
            refine St.buildSl Tryz.underlying27 Tryz.sizeOf3 Tryz.zeroValue3 rfl rfl rfl rfl (by intro u hu; simp only [List.mem_cons, List.not_mem_nil, or_false] at hu; first | (subst hu; rfl) | (rcases hu with rfl | rfl <;> rfl) | (rcases hu with rfl | rfl | rfl <;> rfl) | (rcases hu with rfl | rfl | rfl | rfl <;> rfl)) rfl ?_
            intro w61 b61 hb61 hs61 e61 k61
            have qE61 := E.size
            replace E := Ext.trans E e61
            replace k2 := k2.ext e61
            replace k3 := k3.ext e61
            replace k11 := k11.ext e61
            replace m36 := m36.ext e61
            replace o8 := o8.ext e61
            replace o9 := o9.ext e61
            replace zz := Nat.le_trans zz (Chg.size e61)
            replace k12 := k12.ext e61
            refine St.append (enc := encInt) (fun _ => rfl) one_int Tryz.underlying27 info3 rfl rfl rfl rfl o9 (RSl.mk (enc := encInt) (xs := [best]) encInt_len k61.cells (fun i u hu => hu) (by simp) (by simp)) (by simp; omega) (by simp; omega) (by omega) rfl ?_
            intro v62 w62 a62 g62 at62
            replace E := Ext.then E g62 (by intro j hj hk; have := (o9.base hk).1; omega)
            replace k2 := k2.chg g62 (by intro hk; have := (o9.base hk).1; omega)
            replace k3 := k3.chg g62 (by intro hk; have := (o9.base hk).1; omega)
            replace k11 := k11.chg g62 (by intro hk; have := (o9.base hk).1; omega)
            replace m36 := m36.chg g62 (by intro hk; have := (o9.base hk).1; omega)
            replace o8 := o8.chg g62 (fun k hk e => by have := hll k hk; have := (o9.base e).1; omega)
            replace zz := Nat.le_trans zz (Chg.size g62)
            replace k12 := k12.chg g62 (fun hk => hov _ hk rfl)
            clear o9; have o9 := a62; clear a62
            refine St.r (R.assign rfl) rfl rfl ?_
            refine St.nil ?_
            refine St.weak [(2, _), (3, _), (8, _), (9, _), (11, _), (12, _)] ⟨rfl, rfl, rfl, rfl, rfl, rfl, trivial⟩ ?_
            refine St.then_n ?_
            refine St.go hK27 ?_
            clear hK27
            refine St.region ?_
            refine St.r (R.move rfl) rfl rfl ?_
            refine St.r (R.fn rfl rfl) rfl rfl ?_
            refine St.call rfl rfl ent64 (int_DeleteFuncB (p := fun x => decide (x = best)) _ o8 ent65 (fun W x C hx => order2_ret W (C.cell (k12.cell 0 rfl) (fun h => by have := hll _ h; dsimp only at this; omega)))) rfl ?_
            rintro r65 w65 ⟨o65, hb65, g65⟩
            replace E := Ext.then E g65 (fun j hj hk => by have := (o8.base hk).1; omega)
            replace k2 := k2.chg g65 (fun hk => by have := (o8.base hk).1; omega)
            replace k3 := k3.chg g65 (fun hk => by have := (o8.base hk).1; omega)
            replace k11 := k11.chg g65 (fun hk => by have := hll _ hk; omega)
            replace m36 := m36.chg g65 (fun hk => by have := hll _ hk; omega)
            replace o9 := o9.chg g65 (fun k hk h => by have := hll _ h; have := (o9.base hk).1; omega)
            replace zz := Nat.le_trans zz g65.size
            refine St.r (R.assign rfl) rfl rfl ?_
            refine St.nil ?_
            refine St.weak [(2, _), (3, _), (8, _), (9, _), (11, _)] ⟨rfl, rfl, rfl, rfl, rfl, trivial⟩ ?_
            refine St.in_n ?_
            refine St.then_n ?_
            refine St.round (left.filter (fun x => !decide (x = best)), out ++ [best], kl ++ partVars px, ms2, r65, v62) ⟨rfl, rfl, rfl, rfl, rfl, trivial⟩ ?_ ?_
            · try dsimp only
              refine ⟨hnd.sublist List.filter_sublist, fun x hx => hlb x (List.mem_filter.1 hx).1, by rw [List.length_append]; simp only [List.length_singleton]; omega, ?_, hkn2, fun k hk => hll k (hb65 k hk), E, k2, k3, k11, m36, o65, o9, zz⟩
              rw [hord, List.append_assoc, ← hfl, ordL, hbm, partAt_get hxi]; rfl
            · try dsimp only
              try simp only
              omega
        ·
          refine St.exit ?_
          refine St.then_x ?_
          refine St.then_x ?_
          refine St.in_x ?_
          refine St.then_n ?_
          refine St.go hK17 ?_
          clear hK17
          refine St.seq fun K28 hK28 => ?_
          refine St.region ?_
          refine St.r (R.move rfl) rfl rfl ?_
          refine St.r (R.assign rfl) rfl rfl ?_
          refine St.r (R.assign rfl) rfl rfl ?_
          refine St.nil ?_
          refine St.weak [(4, _), (5, _)] ⟨rfl, rfl, trivial⟩ ?_
          refine St.then_n ?_
          refine St.go hK28 ?_
          clear hK28
          refine St.ret ?_
          refine St.ret2 Tryz.results10 rfl rfl ?_
          have hl0 : left = [] := List.eq_nil_of_length_eq_zero (by omega)
          subst hl0
          exact ⟨_, rfl, _, by rw [hae]; rfl, by rw [hae, if_neg (by simp), hord]; simpa [ordL] using o9.reads encInt_len, E⟩

end Go.Proofs.YtjgcmpondbocfaaGreatDoor

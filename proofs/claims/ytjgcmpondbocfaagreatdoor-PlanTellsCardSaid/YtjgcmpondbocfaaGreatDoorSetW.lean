/- Slices of triples: cloned, alike, searched, cut; what is in a set, what of one set is in another; layers. Under the reading of the arguments. -/
import Derived.Test.YtjgcmpondbocfaaGreatDoorProg
import Derived.Test.YtjgcmpondbocfaaGreatDoorTripW
import Derived.Test.YtjgcmpondbocfaaGreatDoorBytes
namespace Go.Proofs.YtjgcmpondbocfaaGreatDoor
open Go.RowKit 
theorem ent97 : Ent Tryz.prog 97 := Ent.of Tryz.func97 (by kernel_rfl) rfl
theorem ent132 : Ent Tryz.prog 132 := Ent.of Tryz.func132 (by kernel_rfl) rfl
theorem ent179 : Ent Tryz.prog 179 := Ent.of Tryz.func179 (by kernel_rfl) rfl
theorem info100 : (Tryz.prog.info? 100).map (fun i => (i.zero, i.size, i.bytes)) = some (some (.agg #[.int .i64 0, .string ⟨#[]⟩, .string ⟨#[]⟩, .int .i64 0, .string ⟨#[]⟩, .string ⟨#[]⟩, .int .i64 0, .string ⟨#[]⟩, .string ⟨#[]⟩]), 9, 120) := by kernel_rfl

theorem toList_iff {a b : ByteArray} : a.toList = b.toList ↔ a = b := by
  rw [ByteArray.toList_eq, ByteArray.toList_eq]
  exact ⟨bytes_inj, fun h => by rw [h]⟩
theorem one_tri : ∀ x, ∀ u ∈ encTriple x, u.oneCell' = true := one_triple
theorem eqTerm (d : Nat) (a b : Term) (w : World) : (Op.equalIn (d + 2) 44 (.agg (encTerm a).toArray) (.agg (encTerm b).toArray)).run Tryz.prog w = .ok (decide (a = b)) w := by
  have hS : Tryz.prog.underlying 44 = some (.struct (Tryz.prog.fieldsOf 44)) := by kernel_rfl
  have hp : Tryz.prog.stoodInHeld 44 = false := by kernel_rfl
  have u3 := Tryz.underlying3
  have u9 := Tryz.underlying9
  have a3 := Tryz.isAgg3
  have a9 := Tryz.isAgg9
  rw [show d + 2 = (d + 1) + 1 from rfl, run_equalIn_agg w (d + 1) 44 _ _ hS hp]
  simp only [Program.fieldsOf, Tryz.underlying44]
  obtain ⟨k, s, l⟩ := a
  obtain ⟨k', s', l'⟩ := b
  simp only [encTerm]
  go_simp
  by_cases h1 : k = k' <;> by_cases h2 : s = s' <;> by_cases h3 : l = l' <;> simp [h1, h2, h3, toList_iff]
theorem part_term (off : Nat) (xs : Array Value) (t : Term) (h : xs.extract off (off + 3) = (encTerm t).toArray) (w : World) : (part 44 xs off).run Tryz.prog w = .ok (.agg (encTerm t).toArray) w := by
  simp only [part, Sem.run_bind, Tryz.isAgg44, Result.andThen_ok, if_true, Tryz.sizeOf44, h]; rfl
theorem tri_IndexFunc {xs : List Triple} {v : Value} {g : FuncId} {caps : Array Value} {p : Triple → Bool} (w0 : World) (hv : RSl (REnc encTriple) 9 w0 v xs) (he : Ent Tryz.prog g)
    (hp : ∀ W x, Ext w0 W → x ∈ xs → Ret Tryz.prog g ([.agg (encTriple x).toArray] ++ caps.toList) W fun r W' => r = .bool (p x) ∧ Ext W W') :
    Ret Tryz.prog 179 [v, .func (.func g) #[] caps] w0 fun r w' => r = .int .i64 (idxOf p xs) ∧ Ext w0 w' := by
  obtain ⟨A, c, rfl, hc1, hc2⟩ := hv.form
  have E : Ext w0 w0 := Ext.refl w0
  refine St.enter (N := 19) Tryz.func179 rfl Tryz.ntmps179 rfl ?_
  refine St.seq fun K0 hK0 => ?_
  refine St.region ?_
  refine St.r (R.assign rfl) rfl rfl ?_
  refine St.nil ?_
  refine St.weak [(0, _), (1, _)] ⟨rfl, rfl, trivial⟩ ?_
  refine St.then_n ?_
  refine St.go hK0 ?_
  clear hK0
  refine St.seq fun K1 hK1 => ?_
  refine St.seq fun K2 hK2 => ?_
  refine St.region ?_
  refine St.r (R.move rfl) rfl rfl ?_
  refine St.r (R.lenSl Tryz.underlying22 rfl) rfl rfl ?_
  refine St.r (R.move rfl) rfl rfl ?_
  refine St.nil ?_
  refine St.weak [(0, _), (1, _), (7, _), (8, _)] ⟨rfl, rfl, rfl, rfl, trivial⟩ ?_
  refine St.then_n ?_
  refine St.go hK2 ?_
  clear hK2
  refine St.block ?_
  refine St.loop (fun (k : Nat) => [(0, .slice A xs.length c), (1, .func (.func g) #[] caps), (7, .int .i64 (xs.length : Int)), (8, .int .i64 (k : Int))])
      (fun (k : Nat) w => k ≤ xs.length ∧ Ext w0 w ∧ ∀ y ∈ xs.take k, p y = false)
      (fun (k : Nat) => xs.length - k) 0 ⟨rfl, rfl, rfl, rfl, trivial⟩ ?_ ?_
  · exact ⟨Nat.zero_le _, E, by simp⟩
  rintro k w ⟨hk, E, hall⟩
  show St _ _ [(0, .slice A xs.length c), (1, .func (.func g) #[] caps), (7, .int .i64 (xs.length : Int)), (8, .int .i64 (k : Int))] _ _
  refine St.seq fun K3 hK3 => ?_
  refine St.region ?_
  refine St.r (R.lss rfl rfl) rfl rfl ?_
  refine St.nil ?_
  refine St.weak [(0, _), (1, _), (7, _), (8, _), (9, _)] ⟨rfl, rfl, rfl, rfl, rfl, trivial⟩ ?_
  refine St.then_n ?_
  refine St.go hK3 ?_
  clear hK3
  refine St.seq fun K4 hK4 => ?_
  refine St.condD rfl (fun h9 => ?_) (fun h9 => ?_)
  ·
    obtain ⟨x, hx⟩ := get_of_lt (xs := xs) (k := k) (by omega)
    obtain ⟨b, o, c', heq, -, -, hcell⟩ := hv.at (by omega)
    cases heq
    obtain ⟨cs, -, hx', rfl⟩ := hcell k x hx
    refine St.skip ?_
    refine St.then_n ?_
    refine St.go hK4 ?_
    clear hK4
    refine St.seq fun K5 hK5 => ?_
    refine St.block ?_
    refine St.seq fun K6 hK6 => ?_
    refine St.region ?_
    refine St.r (R.move rfl) rfl rfl ?_
    refine St.r (R.assign rfl) rfl rfl ?_
    refine St.nil ?_
    refine St.weak [(0, _), (1, _), (5, _), (7, _), (8, _)] ⟨rfl, rfl, rfl, rfl, rfl, trivial⟩ ?_
    refine St.then_n ?_
    refine St.go hK6 ?_
    clear hK6
    refine St.seq fun K7 hK7 => ?_
    refine St.region ?_
    refine St.r (R.move rfl) rfl rfl ?_
    refine St.r (R.move rfl) rfl rfl ?_
    refine St.r (R.move rfl) rfl rfl ?_
    refine St.r (R.indexS _ Tryz.underlying22 Tryz.sizeOf100 rfl rfl rfl (by omega)) rfl rfl ?_
    refine St.r (R.loadA Tryz.isAgg100 Tryz.sizeOf100 rfl (E.cells hx') rfl) rfl rfl ?_
    refine St.call rfl rfl he (hp _ x E (List.mem_of_getElem? hx)) rfl ?_
    rintro r16 w16 ⟨rfl, e16⟩
    replace E := Ext.trans E e16
    refine St.nil ?_
    refine St.weak [(0, _), (1, _), (5, _), (7, _), (8, _), (16, _)] ⟨rfl, rfl, rfl, rfl, rfl, rfl, trivial⟩ ?_
    refine St.then_n ?_
    refine St.go hK7 ?_
    clear hK7
    refine St.cond rfl (fun h16 => ?_) (fun h16 => ?_)
    ·
      refine St.seq fun K8 hK8 => ?_
      refine St.region ?_
      refine St.r (R.move rfl) rfl rfl ?_
      refine St.r (R.assign rfl) rfl rfl ?_
      refine St.nil ?_
      refine St.weak [(4, _)] ⟨rfl, trivial⟩ ?_
      refine St.then_n ?_
      refine St.go hK8 ?_
      clear hK8
      refine St.ret ?_
      refine St.in_r ?_
      refine St.then_r ?_
      refine St.then_r ?_
      refine St.in_r ?_
      refine St.then_r ?_
      refine St.ret1 Tryz.results179 rfl ?_
      exact ⟨_, rfl, by rw [idxOf_found hx h16 hall], E⟩
    ·
      refine St.skip ?_
      refine St.in_n ?_
      refine St.then_n ?_
      refine St.go hK5 ?_
      clear hK5
      refine St.region ?_
      refine St.r (R.add rfl rfl (by omega) (by omega)) rfl rfl ?_
      refine St.r (R.move rfl) rfl rfl ?_
      refine St.nil ?_
      refine St.weak [(0, _), (1, _), (7, _), (8, _)] ⟨rfl, rfl, rfl, rfl, trivial⟩ ?_
      refine St.then_n ?_
      refine St.round (k + 1) ⟨rfl, rfl, rfl, rfl, trivial⟩ ?_ ?_
      · refine ⟨by omega, E, ?_⟩
        rw [take_snoc hx]
        intro y hy
        rcases List.mem_append.1 hy with hy | hy
        · exact hall y hy
        · rw [List.mem_singleton] at hy; subst hy; exact h16
      · omega
  ·
    refine St.exit ?_
    refine St.then_x ?_
    refine St.then_x ?_
    refine St.in_x ?_
    refine St.then_n ?_
    refine St.go hK1 ?_
    clear hK1
    refine St.seq fun K9 hK9 => ?_
    refine St.region ?_
    refine St.r (R.assign rfl) rfl rfl ?_
    refine St.nil ?_
    refine St.weak [(4, _)] ⟨rfl, trivial⟩ ?_
    refine St.then_n ?_
    refine St.go hK9 ?_
    clear hK9
    refine St.ret ?_
    refine St.ret1 Tryz.results179 rfl ?_
    exact ⟨_, rfl, by rw [idxOf_none (fun x hx => hall x (by rw [List.take_of_length_le (by omega)]; exact hx))], E⟩

theorem tri_DeleteFunc {xs : List Triple} {v : Value} {g : FuncId} {caps : Array Value} {p : Triple → Bool} {base : Nat} (w0 : World) (ho : Own encTriple 9 base 100 w0 v xs) (he : Ent Tryz.prog g)
    (hp : ∀ W x, Chg (fun k => v.ownBlock = some k) w0 W → x ∈ xs → Ret Tryz.prog g ([.agg (encTriple x).toArray] ++ caps.toList) W fun r W' => r = .bool (p x) ∧ Ext W W') :
    Ret Tryz.prog 132 [v, .func (.func g) #[] caps] w0 fun r w' => Own encTriple 9 base 100 w' r (xs.filter fun x => !p x) ∧ Chg (fun k => v.ownBlock = some k) w0 w' := by
  refine St.enter (N := 42) Tryz.func132 rfl Tryz.ntmps132 rfl ?_
  refine St.seq fun K0 hK0 => ?_
  refine St.region ?_
  refine St.r (R.assign rfl) rfl rfl ?_
  refine St.nil ?_
  refine St.weak [(0, _), (1, _)] ⟨rfl, rfl, trivial⟩ ?_
  refine St.then_n ?_
  refine St.go hK0 ?_
  clear hK0
  refine St.seq fun K1 hK1 => ?_
  refine St.region ?_
  refine St.r (R.move rfl) rfl rfl ?_
  refine St.r (R.move rfl) rfl rfl ?_
  refine St.call rfl rfl ent179 (tri_IndexFunc w0 (ho.reads encTriple_len) he (fun W x eW hx => hp W x (Chg.mono eW fun _ _ h => h.elim) hx)) rfl ?_
  rintro r10 w10 ⟨rfl, e10⟩
  have C : Chg (fun k => v.ownBlock = some k) w0 w10 := Chg.mono e10 fun _ _ h => h.elim
  refine St.r (R.assign rfl) rfl rfl ?_
  refine St.nil ?_
  refine St.weak [(0, _), (1, _), (5, _)] ⟨rfl, rfl, rfl, trivial⟩ ?_
  refine St.then_n ?_
  refine St.go hK1 ?_
  clear hK1
  refine St.seq fun K2 hK2 => ?_
  refine St.seq fun K3 hK3 => ?_
  refine St.region ?_
  refine St.r (R.move rfl) rfl rfl ?_
  refine St.r (R.eql rfl rfl) rfl rfl ?_
  refine St.nil ?_
  refine St.weak [(0, _), (1, _), (5, _), (12, _)] ⟨rfl, rfl, rfl, rfl, trivial⟩ ?_
  refine St.then_n ?_
  refine St.go hK3 ?_
  clear hK3
  refine St.condD rfl (fun h12 => ?_) (fun h12 => ?_)
  ·
    have hno : ∀ x ∈ xs, p x = false := by
      rcases idxOf_cases p xs with ⟨_, h⟩ | ⟨k, x, h, _⟩
      · exact h
      · omega
    have hfil : (xs.filter fun x => !p x) = xs := List.filter_eq_self.2 (fun x hx => by rw [hno x hx]; rfl)
    refine St.seq fun K4 hK4 => ?_
    refine St.region ?_
    refine St.r (R.move rfl) rfl rfl ?_
    refine St.r (R.assign rfl) rfl rfl ?_
    refine St.nil ?_
    refine St.weak [(4, _)] ⟨rfl, trivial⟩ ?_
    refine St.then_n ?_
    refine St.go hK4 ?_
    clear hK4
    refine St.ret ?_
    refine St.then_r ?_
    refine St.ret1 Tryz.results132 rfl ?_
    exact ⟨_, rfl, by rw [hfil]; exact ho.ext e10, C⟩
  ·
    obtain ⟨i0, x0, hi1, hx0, hpx0, hi2⟩ : ∃ (k : Nat) (x : Triple), idxOf p xs = (k : Int) ∧ xs[k]? = some x ∧ p x = true ∧ ∀ y ∈ xs.take k, p y = false := by
      rcases idxOf_cases p xs with ⟨h, _⟩ | h
      · omega
      · exact h
    have hn0 := lt_of_get hx0
    obtain ⟨gb, c, sp, rfl, hgb, kS, hc1, hc2, hlen⟩ := ho.blk (by omega)
    rw [hi1]
    have C' : Chg (fun k => k = gb) w0 w10 := Chg.mono e10 fun _ _ h => h.elim
    replace kS := kS.ext e10
    refine St.skip ?_
    refine St.then_n ?_
    refine St.go hK2 ?_
    clear hK2
    refine St.seq fun K5 hK5 => ?_
    refine St.seq fun K6 hK6 => ?_
    refine St.region ?_
    refine St.r (R.move rfl) rfl rfl ?_
    refine St.r (R.add rfl rfl (by omega) (by omega)) rfl rfl ?_
    refine St.r (R.assign rfl) rfl rfl ?_
    refine St.nil ?_
    refine St.weak [(0, _), (1, _), (5, _), (6, _)] ⟨rfl, rfl, rfl, rfl, trivial⟩ ?_
    refine St.then_n ?_
    refine St.go hK6 ?_
    clear hK6
    refine St.block ?_
    refine St.loop (fun (x : Nat × Nat × List Triple) => match x with | (j, i, ys) => [(0, .slice (some ⟨gb, 0, none⟩) xs.length c), (1, .func (.func g) #[] caps), (5, .int .i64 (i : Int)), (6, .int .i64 (j : Int))])
        (fun (x : Nat × Nat × List Triple) w => match x with | (j, i, ys) => i < j ∧ j ≤ xs.length ∧ ys.length = xs.length ∧ (ys.take i = (xs.take j).filter fun x => !p x) ∧ ys.drop j = xs.drop j ∧ Chg (fun k => k = gb) w0 w ∧ Blk w gb 100 (ys.flatMap encTriple ++ sp))
        (fun (x : Nat × Nat × List Triple) => match x with | (j, i, ys) => xs.length - j) (i0 + 1, i0, xs) ⟨rfl, rfl, rfl, rfl, trivial⟩ ?_ ?_
    · refine ⟨by omega, by omega, rfl, ?_, rfl, C', kS⟩
      rw [take_snoc hx0, filter_snoc, hpx0]
      simp only [Bool.not_true, Bool.false_eq_true, if_false, List.append_nil]
      exact (List.filter_eq_self.2 (fun x hx => by rw [hi2 x hx]; rfl)).symm
    rintro ⟨j, i, ys⟩ w ⟨hij, hjn, hys, htk, hdr, C, kS⟩
    show St _ _ [(0, .slice (some ⟨gb, 0, none⟩) xs.length c), (1, .func (.func g) #[] caps), (5, .int .i64 (i : Int)), (6, .int .i64 (j : Int))] _ _
    refine St.seq fun K7 hK7 => ?_
    refine St.seq fun K8 hK8 => ?_
    refine St.region ?_
    refine St.r (R.move rfl) rfl rfl ?_
    refine St.r (R.move rfl) rfl rfl ?_
    refine St.r (R.lenSl Tryz.underlying22 rfl) rfl rfl ?_
    refine St.r (R.lss rfl rfl) rfl rfl ?_
    refine St.nil ?_
    refine St.weak [(0, _), (1, _), (5, _), (6, _), (19, _)] ⟨rfl, rfl, rfl, rfl, rfl, trivial⟩ ?_
    refine St.then_n ?_
    refine St.go hK8 ?_
    clear hK8
    refine St.condD rfl (fun h19 => ?_) (fun h19 => ?_)
    ·
      obtain ⟨x, hx⟩ := get_of_lt (xs := xs) (k := j) (by omega)
      have hyx : ys[j]? = some x := by
        have h := congrArg (fun l => l[0]?) hdr
        simp only [List.getElem?_drop, Nat.add_zero] at h
        rw [h, hx]
      have hgl := kS.lt
      have hcz := C.size
      refine St.skip ?_
      refine St.then_n ?_
      refine St.go hK7 ?_
      clear hK7
      refine St.seq fun K9 hK9 => ?_
      refine St.block ?_
      refine St.seq fun K10 hK10 => ?_
      refine St.region ?_
      refine St.r (R.move rfl) rfl rfl ?_
      refine St.r (R.move rfl) rfl rfl ?_
      refine St.r (R.indexS _ Tryz.underlying22 Tryz.sizeOf100 rfl rfl rfl (by omega)) rfl rfl ?_
      refine St.r (R.loadA Tryz.isAgg100 Tryz.sizeOf100 rfl (kS.elem encTriple_len hyx) rfl) rfl rfl ?_
      refine St.alloc Tryz.zeroValue100 rfl ?_
      intro w7 b7 hb7 hs7 e7 k7
      replace kS := kS.ext e7
      replace C := C.then e7 (fun _ _ h => h.elim)
      refine St.store Tryz.sizeOf100 rfl rfl k7 rfl (by simp [Value.cells, encTriple]) (one_triple x) ?_
      intro ws0 ks0 gs0 zs0
      replace kS := kS.chg gs0 (by omega)
      clear k7; have k7 := ks0; clear ks0
      replace k7 : Blk ws0 b7 100 (encTriple x) := k7
      replace C := C.then gs0 (fun k hk h => by omega)
      refine St.nil ?_
      refine St.weak [(0, _), (1, _), (5, _), (6, _), (7, _)] ⟨rfl, rfl, rfl, rfl, rfl, trivial⟩ ?_
      refine St.then_n ?_
      refine St.go hK10 ?_
      clear hK10
      refine St.seq fun K11 hK11 => ?_
      refine St.region ?_
      refine St.r (R.move rfl) rfl rfl ?_
      refine St.r (R.loadA Tryz.isAgg100 Tryz.sizeOf100 rfl k7.cells rfl) rfl rfl ?_
      refine St.call rfl rfl he (hp _ x (Chg.mono C fun _ _ h => by subst h; rfl) (List.mem_of_getElem? hx)) rfl ?_
      rintro r28 w28 ⟨rfl, e28⟩
      replace kS := kS.ext e28
      replace k7 := k7.ext e28
      refine St.r (R.not rfl) rfl rfl ?_
      refine St.nil ?_
      refine St.weak [(0, _), (1, _), (5, _), (6, _), (7, _), (29, _)] ⟨rfl, rfl, rfl, rfl, rfl, rfl, trivial⟩ ?_
      refine St.then_n ?_
      refine St.go hK11 ?_
      clear hK11
      refine St.cond rfl (fun h29 => ?_) (fun h29 => ?_)
      ·
        have hpx : p x = false := by cases h : p x <;> simp [h] at h29 <;> rfl
        refine St.seq fun K12 hK12 => ?_
        refine St.region ?_
        refine St.r (R.move rfl) rfl rfl ?_
        refine St.r (R.move rfl) rfl rfl ?_
        refine St.r (R.loadA Tryz.isAgg100 Tryz.sizeOf100 rfl k7.cells rfl) rfl rfl ?_
        refine St.r (R.indexS _ Tryz.underlying22 Tryz.sizeOf100 rfl rfl rfl (by omega)) rfl rfl ?_
        refine St.store Tryz.sizeOf100 rfl rfl kS rfl (by simp only [List.length_append, flat_length encTriple_len]; simp [Value.cells, encTriple]; omega) (one_triple x) ?_
        intro ws1 ks1 gs1 zs1
        replace k7 := k7.chg gs1 (by omega)
        clear kS; have kS := ks1; clear ks1
        refine St.nil ?_
        refine St.weak [(0, _), (1, _), (5, _), (6, _)] ⟨rfl, rfl, rfl, rfl, trivial⟩ ?_
        refine St.then_n ?_
        refine St.go hK12 ?_
        clear hK12
        refine St.region ?_
        refine St.r (R.move rfl) rfl rfl ?_
        refine St.r (R.add rfl rfl (by omega) (by omega)) rfl rfl ?_
        refine St.r (R.assign rfl) rfl rfl ?_
        refine St.nil ?_
        refine St.weak [(0, _), (1, _), (5, _), (6, _)] ⟨rfl, rfl, rfl, rfl, trivial⟩ ?_
        refine St.in_n ?_
        refine St.then_n ?_
        refine St.go hK9 ?_
        clear hK9
        refine St.region ?_
        refine St.r (R.move rfl) rfl rfl ?_
        refine St.r (R.add rfl rfl (by omega) (by omega)) rfl rfl ?_
        refine St.r (R.assign rfl) rfl rfl ?_
        refine St.nil ?_
        refine St.weak [(0, _), (1, _), (5, _), (6, _)] ⟨rfl, rfl, rfl, rfl, trivial⟩ ?_
        refine St.then_n ?_
        refine St.round (j + 1, i + 1, ys.set i x) ⟨rfl, rfl, rfl, rfl, trivial⟩ ?_ ?_
        · try dsimp only
          have hd1 : (ys.set i x).drop (j + 1) = xs.drop (j + 1) := by
            rw [List.drop_set_of_lt (by omega), ← List.drop_drop, hdr, List.drop_drop]
          refine ⟨by omega, by omega, by rw [List.length_set]; exact hys, ?_, hd1, (C.then e28 (fun _ _ h => h.elim)).trans gs1, ?_⟩
          · rw [List.take_succ_eq_append_getElem (by rw [List.length_set]; omega), List.take_set_of_le (Nat.le_refl _), htk, take_snoc hx, filter_snoc, hpx]
            simp
          · have h := kS
            rw [Nat.zero_add] at h
            rw [← splice_flat encTriple_len (by omega)]
            exact h
        · try dsimp only
          omega
      ·
        have hpx : p x = true := by cases h : p x <;> simp [h] at h29 <;> rfl
        refine St.skip ?_
        refine St.in_n ?_
        refine St.then_n ?_
        refine St.go hK9 ?_
        clear hK9
        refine St.region ?_
        refine St.r (R.move rfl) rfl rfl ?_
        refine St.r (R.add rfl rfl (by omega) (by omega)) rfl rfl ?_
        refine St.r (R.assign rfl) rfl rfl ?_
        refine St.nil ?_
        refine St.weak [(0, _), (1, _), (5, _), (6, _)] ⟨rfl, rfl, rfl, rfl, trivial⟩ ?_
        refine St.then_n ?_
        refine St.round (j + 1, i, ys) ⟨rfl, rfl, rfl, rfl, trivial⟩ ?_ ?_
        · try dsimp only
          have hd1 : ys.drop (j + 1) = xs.drop (j + 1) := by rw [← List.drop_drop, hdr, List.drop_drop]
          refine ⟨by omega, by omega, hys, ?_, hd1, C.then e28 (fun _ _ h => h.elim), kS⟩
          rw [htk, take_snoc hx, filter_snoc, hpx]
          simp
        · try dsimp only
          omega
    ·
      obtain rfl : j = xs.length := by omega
      rw [List.take_length] at htk
      refine St.exit ?_
      refine St.then_x ?_
      refine St.then_x ?_
      refine St.in_x ?_
      refine St.then_n ?_
      refine St.go hK5 ?_
      clear hK5
      refine St.seq fun K13 hK13 => ?_
      refine St.region ?_
      refine St.r (R.move rfl) rfl rfl ?_
      refine St.r (R.move rfl) rfl rfl ?_
      refine St.r (R.cutLo i Tryz.underlying22 Tryz.sizeOf100 rfl rfl rfl (by omega) (by omega)) rfl rfl ?_
      refine St.clear Tryz.underlying22 Tryz.zeroValue100 rfl (by omega) kS (by simp only [List.length_append, flat_length encTriple_len]; simp [Value.cells]; omega) (zeroCells_one (by decide) (by intro u hu; simp [Value.cells] at hu; rcases hu with rfl | rfl | rfl | rfl | rfl | rfl | rfl | rfl | rfl <;> rfl) _) ?_
      intro wc kC gC zC
      refine St.nil ?_
      refine St.weak [(0, _), (5, _)] ⟨rfl, rfl, trivial⟩ ?_
      refine St.then_n ?_
      refine St.go hK13 ?_
      clear hK13
      refine St.seq fun K14 hK14 => ?_
      refine St.region ?_
      refine St.r (R.move rfl) rfl rfl ?_
      refine St.r (R.move rfl) rfl rfl ?_
      refine St.r (R.cutHi i Tryz.underlying22 Tryz.sizeOf100 rfl rfl rfl (by omega)) rfl rfl ?_
      refine St.r (R.assign rfl) rfl rfl ?_
      refine St.nil ?_
      refine St.weak [(4, _)] ⟨rfl, trivial⟩ ?_
      refine St.then_n ?_
      refine St.go hK14 ?_
      clear hK14
      refine St.ret ?_
      refine St.ret1 Tryz.results132 rfl ?_
      have hfl : i = (xs.filter fun x => !p x).length := by rw [← htk, List.length_take]; omega
      refine ⟨_, rfl, ?_, Chg.mono (C.trans gC) fun _ _ h => by subst h; rfl⟩
      have hz : (Builtin.zeroCells (Value.cells (.agg #[.int .i64 0, .string ⟨#[]⟩, .string ⟨#[]⟩, .int .i64 0, .string ⟨#[]⟩, .string ⟨#[]⟩, .int .i64 0, .string ⟨#[]⟩, .string ⟨#[]⟩])) (xs.length - i)).toList.length = (xs.length - i) * 9 := by simp [Builtin.zeroCells, Value.cells]
      rw [splice_eq (by simp only [Nat.zero_add, hz, List.length_append, flat_length encTriple_len]; omega), Nat.zero_add, flat_take encTriple_len ys sp (by omega), htk, List.append_assoc] at kC
      rw [hfl]
      refine Own.of_blk encTriple_len kC hgb (by omega) hc2 ?_
      rw [← hlen]
      have h1 := congrArg List.length htk
      simp only [List.length_append, flat_length encTriple_len, hz, List.length_drop]
      omega

theorem tri_Clone {xs : List Triple} {v : Value} (w0 : World) (hv : RSl (REnc encTriple) 9 w0 v xs) (hl : xs.length ≤ 1000000000) :
    Ret Tryz.prog 97 [v] w0 fun r w' => Own encTriple 9 w0.heap.size 100 w' r xs ∧ Ext w0 w' := by
  obtain ⟨A, c, rfl, hc1, hc2⟩ := hv.form
  have E : Ext w0 w0 := Ext.refl w0
  refine St.enter (N := 8) Tryz.func97 rfl Tryz.ntmps97 rfl ?_
  refine St.seq fun K0 hK0 => ?_
  refine St.region ?_
  refine St.r (R.assign rfl) rfl rfl ?_
  refine St.nil ?_
  refine St.weak [(0, _)] ⟨rfl, trivial⟩ ?_
  refine St.then_n ?_
  refine St.go hK0 ?_
  clear hK0
  refine St.seq fun K1 hK1 => ?_
  refine St.seq fun K2 hK2 => ?_
  refine St.region ?_
  refine St.r (R.move rfl) rfl rfl ?_
  refine St.r (R.eqNilSl Tryz.underlying22 rfl) rfl rfl ?_
  refine St.nil ?_
  refine St.weak [(0, _), (4, _)] ⟨rfl, rfl, trivial⟩ ?_
  refine St.then_n ?_
  refine St.go hK2 ?_
  clear hK2
  refine St.cond rfl (fun h4 => ?_) (fun h4 => ?_)
  ·
    have h0 : xs = [] := by
      rcases Nat.eq_zero_or_pos xs.length with h | h
      · exact List.eq_nil_of_length_eq_zero h
      · obtain ⟨b, o, c', heq, -⟩ := hv.at h
        cases heq
        simp at h4
    subst h0
    refine St.seq fun K3 hK3 => ?_
    refine St.region ?_
    refine St.r (R.assign rfl) rfl rfl ?_
    refine St.nil ?_
    refine St.weak [(2, _)] ⟨rfl, trivial⟩ ?_
    refine St.then_n ?_
    refine St.go hK3 ?_
    clear hK3
    refine St.ret ?_
    refine St.then_r ?_
    refine St.ret1 Tryz.results97 rfl ?_
    exact ⟨_, rfl, Own.nil _ _ _ _ _, E⟩
  ·
    refine St.skip ?_
    refine St.then_n ?_
    refine St.go hK1 ?_
    clear hK1
    refine St.seq fun K4 hK4 => ?_
    refine St.region ?_
    refine St.buildSl0 Tryz.underlying22 Tryz.sizeOf100 rfl ?_
    intro w5 b5 hb5 hs5 e5 k5
    have qE5 := E.size
    replace E := Ext.trans E e5
    refine St.r (R.move rfl) rfl rfl ?_
    refine St.append (enc := encTriple) (fun _ => rfl) one_tri Tryz.underlying22 info100 rfl rfl rfl rfl (Own.empty (enc := encTriple) (size := 9) k5 (base := w0.heap.size) (by omega)) (hv.ext (REnc.firm _) E) (by simp; omega) (by simp; omega) (by omega) rfl ?_
    intro v7 w7 a7 g7 at7
    replace E := Ext.then E g7 (by intro j hj hk; have := ((Own.empty (enc := encTriple) (size := 9) k5 (base := w0.heap.size) (by omega)).base hk).1; omega)
    refine St.r (R.assign rfl) rfl rfl ?_
    refine St.nil ?_
    refine St.weak [(2, _)] ⟨rfl, trivial⟩ ?_
    refine St.then_n ?_
    refine St.go hK4 ?_
    clear hK4
    refine St.ret ?_
    refine St.ret1 Tryz.results97 rfl ?_
    exact ⟨_, rfl, a7, E⟩

end Go.Proofs.YtjgcmpondbocfaaGreatDoor

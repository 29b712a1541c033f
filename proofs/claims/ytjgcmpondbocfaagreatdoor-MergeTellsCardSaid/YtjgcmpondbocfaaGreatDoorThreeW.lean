/- What merge.three comes to, walked. Under the reading of the arguments. -/
import Derived.Test.YtjgcmpondbocfaaGreatDoorProg
import Derived.Test.YtjgcmpondbocfaaGreatDoorMkeysW
namespace Go.Proofs.YtjgcmpondbocfaaGreatDoor
open Go.RowKit 
theorem ent104 : Ent Tryz.prog 104 := Ent.of Tryz.func104 (by kernel_rfl) rfl
theorem ent106 : Ent Tryz.prog 106 := Ent.of Tryz.func106 (by kernel_rfl) rfl
theorem ent108 : Ent Tryz.prog 108 := Ent.of Tryz.func108 (by kernel_rfl) rfl

theorem RMS.three {w : World} {b : Nat} {t : TypeId} {x y z : Nat × List (Clash × Hd)} (hk : Blk w b t [.map (some x.1), .map (some y.1), .map (some z.1)]) (hx : MapB vf176 Hd.val w x.1 x.2) (hy : MapB vf176 Hd.val w y.1 y.2) (hz : MapB vf176 Hd.val w z.1 z.2) :
    RSl RMS 1 w (.slice (some ⟨b, 0, none⟩) 3 3) [x, y, z] :=
  ⟨some ⟨b, 0, none⟩, 3, rfl, by simp, by omega, fun _ => ⟨b, 0, rfl, fun k u hu => by
    match k, hu with
    | 0, hu => injection hu with hu; subst hu; exact ⟨[.map (some x.1)], rfl, fun i a ha => by match i, ha with | 0, ha => injection ha with ha; subst ha; exact hk.cells.at 0 rfl, rfl, hx⟩
    | 1, hu => injection hu with hu; subst hu; exact ⟨[.map (some y.1)], rfl, fun i a ha => by match i, ha with | 0, ha => injection ha with ha; subst ha; exact hk.cells.at 1 rfl, rfl, hy⟩
    | 2, hu => injection hu with hu; subst hu; exact ⟨[.map (some z.1)], rfl, fun i a ha => by match i, ha with | 0, ha => injection ha with ha; subst ha; exact hk.cells.at 2 rfl, rfl, hz⟩⟩⟩
/-- Which keys the sides of a set have. -/
theorem SidesO.has {T : TypeId} {B : Nat} {w : World} {l : List Triple} {ms : List (Clash × Hd)} (h : SidesO T B w l ms) (c : Clash) : (getM ms c).isSome = true ↔ ∃ t ∈ l, keyOf t = c := by
  constructor
  · intro hs
    obtain ⟨hd, hk⟩ := Option.isSome_iff_exists.1 hs
    have := h.full c hd hk
    rw [Ne, sideOf_nil] at this
    simpa using this
  · rintro ⟨t, ht, e⟩
    cases hk : getM ms c with
    | some hd => rfl
    | none => exact absurd e (sideOf_nil.1 (h.emp c hk) t ht)


theorem sideOf_len (l : List Triple) (k : Clash) : (sideOf l k).length ≤ l.length := List.length_filter_le _ _
theorem pickL_len {o x y : List Triple} {f : Bool} {n : Nat} (hx : x.length ≤ n) (hy : y.length ≤ n) : (pickL o x y f).length ≤ n := by
  unfold pickL; split
  · exact hy
  · split
    · exact hx
    · split
      · exact hx
      · exact hy
theorem outL_len {base a b : List Triple} {f : Bool} (ha : a.length ≤ 1000) (hb : b.length ≤ 1000) : ∀ ks : List Clash, (outL base a b f ks).length ≤ 1000 * ks.length
  | [] => by simp [outL]
  | k :: r => by
    have h1 := outL_len (base := base) (f := f) ha hb r
    have h2 : (pickL (sideOf base k) (sideOf a k) (sideOf b k) f).length ≤ 1000 := pickL_len (Nat.le_trans (sideOf_len _ _) ha) (Nat.le_trans (sideOf_len _ _) hb)
    unfold outL at h1 ⊢
    rw [List.flatMap_cons, List.length_append, List.length_cons]; omega
theorem clashL_len (base a b : List Triple) (ks : List Clash) : (clashL base a b ks).length ≤ ks.length := List.length_filter_le _ _
theorem SidesO.blk {T : TypeId} {B : Nat} {w : World} {l : List Triple} {ms : List (Clash × Hd)} (h : SidesO T B w l ms) (k : Clash) : ∀ x, ((getM ms k).getD ⟨none, 0, 0⟩).val.ownBlock = some x → x < w.heap.size := fun x hx => ((h.at k).base hx).2

set_option maxRecDepth 100000 in
theorem three_ret {base a b : List Triple} {v0 v1 v2 : Value} {first : Bool} (w0 : World) (h0 : RTriples w0 v0 base) (h1 : RTriples w0 v1 a) (h2 : RTriples w0 v2 b) (n0 : base.length ≤ 1000) (n1 : a.length ≤ 1000) (n2 : b.length ≤ 1000) :
    Ret Tryz.prog 103 [v0, v1, v2, .bool first] w0 fun r w' => ∃ p q ks, r = .tuple #[p, q] ∧ IsPairs [base, a, b] ks ∧ Own encTriple 9 w0.heap.size 100 w' p (outL base a b first ks) ∧ Own encClash 6 w0.heap.size 176 w' q (clashL base a b ks) ∧ Ext w0 w' := by
  have E : Ext w0 w0 := Ext.refl w0
  refine St.enter (N := 78) Tryz.func103 rfl Tryz.ntmps103 rfl ?_
  refine St.seq fun K0 hK0 => ?_
  refine St.region ?_
  refine St.r (R.assign rfl) rfl rfl ?_
  refine St.r (R.assign rfl) rfl rfl ?_
  refine St.nil ?_
  refine St.weak [(0, _), (1, _), (2, _), (3, _), (8, _), (9, _)] ⟨rfl, rfl, rfl, rfl, rfl, rfl, trivial⟩ ?_
  refine St.then_n ?_
  refine St.go hK0 ?_
  clear hK0
  refine St.seq fun K1 hK1 => ?_
  refine St.region ?_
  refine St.r (R.move rfl) rfl rfl ?_
  refine St.call rfl rfl ent104 (of_ret _ (h0.ext (REnc.firm _) E) (by omega)) rfl ?_
  rintro r17 w17 ⟨b17, ms17, rfl, m17, q17, z17, l17, e17⟩
  replace E := Ext.trans E e17
  have yE17 := E.size
  replace q17 := q17.lower (B' := w0.heap.size) (by have := e17.size; omega)
  refine St.r (R.move rfl) rfl rfl ?_
  refine St.call rfl rfl ent104 (of_ret _ (h1.ext (REnc.firm _) E) (by omega)) rfl ?_
  rintro r19 w19 ⟨b19, ms19, rfl, m19, q19, z19, l19, e19⟩
  replace E := Ext.trans E e19
  replace m17 := m17.ext e19
  replace q17 := q17.ext e19
  have yE19 := E.size
  replace q19 := q19.lower (B' := w0.heap.size) (by have := e19.size; omega)
  refine St.r (R.move rfl) rfl rfl ?_
  refine St.call rfl rfl ent104 (of_ret _ (h2.ext (REnc.firm _) E) (by omega)) rfl ?_
  rintro r21 w21 ⟨b21, ms21, rfl, m21, q21, z21, l21, e21⟩
  replace E := Ext.trans E e21
  replace m17 := m17.ext e21
  replace q17 := q17.ext e21
  replace m19 := m19.ext e21
  replace q19 := q19.ext e21
  have yE21 := E.size
  replace q21 := q21.lower (B' := w0.heap.size) (by have := e21.size; omega)
  refine St.r (R.assign rfl) rfl rfl ?_
  refine St.r (R.assign rfl) rfl rfl ?_
  refine St.r (R.assign rfl) rfl rfl ?_
  refine St.nil ?_
  refine St.weak [(3, _), (8, _), (9, _), (10, _), (11, _), (12, _)] ⟨rfl, rfl, rfl, rfl, rfl, rfl, trivial⟩ ?_
  refine St.then_n ?_
  refine St.go hK1 ?_
  clear hK1
  refine St.seq fun K2 hK2 => ?_
  refine St.seq fun K3 hK3 => ?_
  refine St.region ?_
  refine St.r (R.move rfl) rfl rfl ?_
  refine St.r (R.move rfl) rfl rfl ?_
  refine St.r (R.move rfl) rfl rfl ?_
  refine St.buildSl Tryz.underlying243 Tryz.sizeOf179 Tryz.zeroValue179 rfl rfl rfl rfl (by intro u hu; simp only [List.mem_cons, List.not_mem_nil, or_false] at hu; first | (subst hu; rfl) | (rcases hu with rfl | rfl <;> rfl) | (rcases hu with rfl | rfl | rfl <;> rfl) | (rcases hu with rfl | rfl | rfl | rfl <;> rfl)) rfl ?_
  intro w25 b25 hb25 hs25 e25 k25
  have qE25 := E.size
  replace E := Ext.trans E e25
  replace m17 := m17.ext e25
  replace q17 := q17.ext e25
  replace m19 := m19.ext e25
  replace q19 := q19.ext e25
  replace m21 := m21.ext e25
  replace q21 := q21.ext e25
  refine St.call rfl rfl ent106 (pairs_ret _ (RMS.three (x := (b17, ms17)) (y := (b19, ms19)) (z := (b21, ms21)) k25 m17 m19 m21) (by simp [sizeMS]; omega) (by simp)) rfl ?_
  rintro r26 w26 ⟨ks, o26, hri, hme, hkl, e26⟩
  replace E := Ext.trans E e26
  replace m17 := m17.ext e26
  replace q17 := q17.ext e26
  replace m19 := m19.ext e26
  replace q19 := q19.ext e26
  replace m21 := m21.ext e26
  replace q21 := q21.ext e26
  obtain ⟨A26, c26, rfl, -, -⟩ := o26.form
  have yE := E.size
  have hIP : IsPairs [base, a, b] ks := ⟨hri, fun c => by
    rw [hme]
    simp only [HasK, List.mem_cons, List.not_mem_nil, or_false, exists_eq_or_imp, exists_eq_left, q17.has, q19.has, q21.has]⟩
  obtain ⟨Z, hZ⟩ : ∃ Z, Z = w26.heap.size := ⟨_, rfl⟩
  have hl17 : ∀ k hd, getM ms17 k = some hd → ∀ x, hd.val.ownBlock = some x → x < Z := hZ ▸ q17.lt
  have hl19 : ∀ k hd, getM ms19 k = some hd → ∀ x, hd.val.ownBlock = some x → x < Z := hZ ▸ q19.lt
  have hl21 : ∀ k hd, getM ms21 k = some hd → ∀ x, hd.val.ownBlock = some x → x < Z := hZ ▸ q21.lt
  have hb26 : ∀ x, (Value.slice A26 ks.length c26).ownBlock = some x → x < Z := fun x hx => hZ ▸ (o26.base hx).2
  have y17 := m17.lt
  have y19 := m19.lt
  have y21 := m21.lt
  replace o26 := o26.lower (base' := w0.heap.size) (by have := e26.size; omega)
  refine St.r (R.lenSl Tryz.underlying73 rfl) rfl rfl ?_
  refine St.r (R.move rfl) rfl rfl ?_
  refine St.nil ?_
  refine St.weak [(3, _), (8, _), (9, _), (10, _), (11, _), (12, _), (26, _), (27, _), (28, _)] ⟨rfl, rfl, rfl, rfl, rfl, rfl, rfl, rfl, rfl, trivial⟩ ?_
  refine St.then_n ?_
  refine St.go hK3 ?_
  clear hK3
  refine St.block ?_
  refine St.loop (fun (x : Nat × Value × Value) => match x with | (k, ov, cv) => [(3, .bool first), (8, ov), (9, cv), (10, .map (some b17)), (11, .map (some b19)), (12, .map (some b21)), (26, .slice A26 ks.length c26), (27, .int .i64 (ks.length : Int)), (28, .int .i64 (k : Int))])
      (fun (x : Nat × Value × Value) w => match x with | (k, ov, cv) => k ≤ ks.length ∧ Ext w0 w ∧ MapB vf176 Hd.val w b17 ms17 ∧ MapB vf176 Hd.val w b19 ms19 ∧ MapB vf176 Hd.val w b21 ms21 ∧ SidesO 100 w0.heap.size w base ms17 ∧ SidesO 100 w0.heap.size w a ms19 ∧ SidesO 100 w0.heap.size w b ms21 ∧ Own encClash 6 w0.heap.size 176 w (.slice A26 ks.length c26) ks ∧ Own encTriple 9 Z 100 w ov (outL base a b first (ks.take k)) ∧ Own encClash 6 Z 176 w cv (clashL base a b (ks.take k)) ∧ (∀ x, ov.ownBlock = some x → cv.ownBlock ≠ some x) ∧ Z ≤ w.heap.size)
      (fun (x : Nat × Value × Value) => match x with | (k, ov, cv) => ks.length - k) (0, .slice none 0 0, .slice none 0 0) ⟨rfl, rfl, rfl, rfl, rfl, rfl, rfl, rfl, rfl, trivial⟩ ?_ ?_
  · exact ⟨Nat.zero_le _, E, m17, m19, m21, q17, q19, q21, o26, Own.nil _ _ _ _ _, Own.nil _ _ _ _ _, fun x h => (by cases h), by omega⟩
  rintro ⟨k, ov, cv⟩ w ⟨hk, E, m17, m19, m21, q17, q19, q21, o26, o8, o9, hap, zz⟩
  show St _ _ [(3, .bool first), (8, ov), (9, cv), (10, .map (some b17)), (11, .map (some b19)), (12, .map (some b21)), (26, .slice A26 ks.length c26), (27, .int .i64 (ks.length : Int)), (28, .int .i64 (k : Int))] _ _
  refine St.seq fun K4 hK4 => ?_
  refine St.region ?_
  refine St.r (R.lss rfl rfl) rfl rfl ?_
  refine St.nil ?_
  refine St.weak [(3, _), (8, _), (9, _), (10, _), (11, _), (12, _), (26, _), (27, _), (28, _), (29, _)] ⟨rfl, rfl, rfl, rfl, rfl, rfl, rfl, rfl, rfl, rfl, trivial⟩ ?_
  refine St.then_n ?_
  refine St.go hK4 ?_
  clear hK4
  refine St.seq fun K5 hK5 => ?_
  refine St.condD rfl (fun h29 => ?_) (fun h29 => ?_)
  ·
    obtain ⟨ck, hck⟩ := get_of_lt (xs := ks) (k := k) (by omega)
    obtain ⟨kb, ko, rfl, hkc⟩ := (o26.reads encClash_len).get' hck
    have hq17 : ∀ x, ((getM ms17 ck).getD ⟨none, 0, 0⟩).val.ownBlock = some x → x < Z := fun x hx => by cases h : getM ms17 ck with
      | none => rw [h] at hx; cases hx
      | some hd => rw [h] at hx; exact hl17 ck hd h x hx
    have hq19 : ∀ x, ((getM ms19 ck).getD ⟨none, 0, 0⟩).val.ownBlock = some x → x < Z := fun x hx => by cases h : getM ms19 ck with
      | none => rw [h] at hx; cases hx
      | some hd => rw [h] at hx; exact hl19 ck hd h x hx
    have hq21 : ∀ x, ((getM ms21 ck).getD ⟨none, 0, 0⟩).val.ownBlock = some x → x < Z := fun x hx => by cases h : getM ms21 ck with
      | none => rw [h] at hx; cases hx
      | some hd => rw [h] at hx; exact hl21 ck hd h x hx
    have hol := outL_len (base := base) (f := first) n1 n2 (ks.take k)
    have hcl := clashL_len base a b (ks.take k)
    have hpl : (pickL (sideOf base ck) (sideOf a ck) (sideOf b ck) first).length ≤ 1000 := pickL_len (Nat.le_trans (sideOf_len _ _) n1) (Nat.le_trans (sideOf_len _ _) n2)
    rw [List.length_take, Nat.min_eq_left (by omega)] at hol hcl
    refine St.skip ?_
    refine St.then_n ?_
    refine St.go hK5 ?_
    clear hK5
    refine St.seq fun K6 hK6 => ?_
    refine St.block ?_
    refine St.seq fun K7 hK7 => ?_
    refine St.region ?_
    refine St.r (R.indexS k Tryz.underlying73 Tryz.sizeOf176 rfl rfl rfl (by omega)) rfl rfl ?_
    refine St.r (R.loadA Tryz.isAgg176 Tryz.sizeOf176 rfl hkc rfl) rfl rfl ?_
    have zz0 := zz
    have hoL8 := fun k hk => (o8.base (k := k) hk).2
    have hoL9 := fun k hk => (o9.base (k := k) hk).2
    refine St.alloc Tryz.zeroValue176 rfl ?_
    intro w14 b14 hb14 hs14 e14 k14
    have qE14 := E.size
    replace E := Ext.trans E e14
    replace m17 := m17.ext e14
    replace m19 := m19.ext e14
    replace m21 := m21.ext e14
    replace q17 := q17.ext e14
    replace q19 := q19.ext e14
    replace q21 := q21.ext e14
    replace o26 := o26.ext e14
    replace o8 := o8.ext e14
    replace o9 := o9.ext e14
    replace zz := Nat.le_trans zz (Chg.size e14)
    refine St.store Tryz.sizeOf176 rfl rfl k14 rfl (by simp [Value.cells, encClash, encTerm]) (one_clash ck) ?_
    intro ws0 ks0 gs0 zs0
    replace E := Ext.then E gs0 (by intro j hj; omega)
    replace m17 := m17.chg gs0 (by omega)
    replace m19 := m19.chg gs0 (by omega)
    replace m21 := m21.chg gs0 (by omega)
    replace q17 := q17.chg gs0 (fun k hd hk y hy e => by have := hl17 k hd hk y hy; omega)
    replace q19 := q19.chg gs0 (fun k hd hk y hy e => by have := hl19 k hd hk y hy; omega)
    replace q21 := q21.chg gs0 (fun k hd hk y hy e => by have := hl21 k hd hk y hy; omega)
    replace o26 := o26.chg gs0 (fun k hk h => by have := hb26 k hk; omega)
    replace o8 := o8.chg gs0 (fun k hk h => by have := hoL8 k hk; omega)
    replace o9 := o9.chg gs0 (fun k hk h => by have := hoL9 k hk; omega)
    replace zz := Nat.le_trans zz (Chg.size gs0)
    clear k14; have k14 := ks0; clear ks0
    replace k14 : Blk ws0 b14 176 (encClash ck) := k14
    refine St.nil ?_
    refine St.weak [(3, _), (8, _), (9, _), (10, _), (11, _), (12, _), (14, _), (26, _), (27, _), (28, _)] ⟨rfl, rfl, rfl, rfl, rfl, rfl, rfl, rfl, rfl, rfl, trivial⟩ ?_
    refine St.then_n ?_
    refine St.go hK7 ?_
    clear hK7
    refine St.seq fun K8 hK8 => ?_
    refine St.region ?_
    refine St.r (R.move rfl) rfl rfl ?_
    refine St.r (R.loadA Tryz.isAgg176 Tryz.sizeOf176 rfl k14.cells rfl) rfl rfl ?_
    refine St.r (R.lookup (z := (⟨none, 0, 0⟩ : Hd)) (kenc176) Tryz.underlying179 Tryz.zeroValue22 m19 rfl rfl) rfl rfl ?_
    refine St.r (R.assign rfl) rfl rfl ?_
    refine St.nil ?_
    refine St.weak [(3, _), (8, _), (9, _), (10, _), (11, _), (12, _), (14, _), (15, _), (26, _), (27, _), (28, _)] ⟨rfl, rfl, rfl, rfl, rfl, rfl, rfl, rfl, rfl, rfl, rfl, trivial⟩ ?_
    refine St.then_n ?_
    refine St.go hK8 ?_
    clear hK8
    refine St.seqJ (fun (x : Value × Value) => match x with | (cv2, mine) => [(3, .bool first), (8, ov), (9, cv2), (10, .map (some b17)), (11, .map (some b19)), (12, .map (some b21)), (15, mine), (26, .slice (some ⟨kb, ko, none⟩) ks.length c26), (27, .int .i64 (ks.length : Int)), (28, .int .i64 (k : Int))])
        (fun (x : Value × Value) w => match x with | (cv2, mine) => Ext w0 w ∧ MapB vf176 Hd.val w b17 ms17 ∧ MapB vf176 Hd.val w b19 ms19 ∧ MapB vf176 Hd.val w b21 ms21 ∧ SidesO 100 w0.heap.size w base ms17 ∧ SidesO 100 w0.heap.size w a ms19 ∧ SidesO 100 w0.heap.size w b ms21 ∧ Own encClash 6 w0.heap.size 176 w (.slice (some ⟨kb, ko, none⟩) ks.length c26) ks ∧ Own encTriple 9 Z 100 w ov (outL base a b first (ks.take k)) ∧ Own encClash 6 Z 176 w cv2 (clashL base a b (ks.take (k + 1))) ∧ RTriples w mine (pickL (sideOf base ck) (sideOf a ck) (sideOf b ck) first) ∧ (∀ x, mine.ownBlock = some x → x < Z) ∧ (∀ x, ov.ownBlock = some x → cv2.ownBlock ≠ some x) ∧ Z ≤ w.heap.size) ?_ ?_
    · rintro ⟨cv2, mine⟩ w ⟨E, m17, m19, m21, q17, q19, q21, o26, o8, o9, hm, hmz, hap, zz⟩
      show St _ _ [(3, .bool first), (8, ov), (9, cv2), (10, .map (some b17)), (11, .map (some b19)), (12, .map (some b21)), (15, mine), (26, .slice (some ⟨kb, ko, none⟩) ks.length c26), (27, .int .i64 (ks.length : Int)), (28, .int .i64 (k : Int))] _ _
      refine St.region ?_
      refine St.r (R.move rfl) rfl rfl ?_
      refine St.r (R.move rfl) rfl rfl ?_
      have hoL9b := fun k hk => (o9.base (k := k) hk).2
      refine St.append (enc := encTriple) (fun _ => rfl) one_triple Tryz.underlying22 info100 rfl rfl rfl rfl o8 hm (by omega) (by omega) (by omega) rfl ?_
      intro v74 w74 a74 g74 at74
      replace E := Ext.then E g74 (by intro j hj hk; have := (o8.base hk).1; omega)
      replace m17 := m17.chg g74 (by intro hk; have := (o8.base hk).1; omega)
      replace m19 := m19.chg g74 (by intro hk; have := (o8.base hk).1; omega)
      replace m21 := m21.chg g74 (by intro hk; have := (o8.base hk).1; omega)
      replace q17 := q17.chg g74 (fun k hd hk y hy e => by have := hl17 k hd hk y hy; have := (o8.base e).1; omega)
      replace q19 := q19.chg g74 (fun k hd hk y hy e => by have := hl19 k hd hk y hy; have := (o8.base e).1; omega)
      replace q21 := q21.chg g74 (fun k hd hk y hy e => by have := hl21 k hd hk y hy; have := (o8.base e).1; omega)
      replace o26 := o26.chg g74 (fun k hk e => by have := hb26 k hk; have := (o8.base e).1; omega)
      replace o9 := o9.chg g74 (fun k hk e => hap k e hk)
      replace zz := Nat.le_trans zz (Chg.size g74)
      clear o8; have o8 := a74; clear a74
      have hap3 : ∀ x, v74.ownBlock = some x → cv2.ownBlock ≠ some x := fun x hx hx2 => by
        rcases at74 with e | e
        · exact hap x (e ▸ hx) hx2
        · have h3 := e.symm.trans hx
          injection h3 with h3
          have := hoL9b x hx2
          omega
      refine St.r (R.assign rfl) rfl rfl ?_
      refine St.nil ?_
      refine St.weak [(3, _), (8, _), (9, _), (10, _), (11, _), (12, _), (26, _), (27, _), (28, _)] ⟨rfl, rfl, rfl, rfl, rfl, rfl, rfl, rfl, rfl, trivial⟩ ?_
      refine St.in_n ?_
      refine St.then_n ?_
      refine St.go hK6 ?_
      clear hK6
      refine St.region ?_
      refine St.r (R.add rfl rfl (by omega) (by omega)) rfl rfl ?_
      refine St.r (R.move rfl) rfl rfl ?_
      refine St.nil ?_
      refine St.weak [(3, _), (8, _), (9, _), (10, _), (11, _), (12, _), (26, _), (27, _), (28, _)] ⟨rfl, rfl, rfl, rfl, rfl, rfl, rfl, rfl, rfl, trivial⟩ ?_
      refine St.then_n ?_
      refine St.round (k + 1, v74, cv2) ⟨rfl, rfl, rfl, rfl, rfl, rfl, rfl, rfl, rfl, trivial⟩ ?_ ?_
      · try dsimp only
        exact ⟨by omega, E, m17, m19, m21, q17, q19, q21, o26, by rw [take_snoc hck, outL_snoc]; exact o8, o9, hap3, zz⟩
      · try dsimp only
        omega
    intro K9 hK9
    refine St.block ?_
    refine St.seq fun K10 hK10 => ?_
    refine St.weak [(3, _), (8, _), (9, _), (10, _), (11, _), (12, _), (14, _), (15, _), (26, _), (27, _), (28, _)] ⟨rfl, rfl, rfl, rfl, rfl, rfl, rfl, rfl, rfl, rfl, rfl, trivial⟩ ?_
    refine St.drawX mixed rfl rfl rfl rfl ?_
    replace E := Ext.trans E (Ext.drew _)
    replace m17 := m17.ext (Ext.drew _)
    replace m19 := m19.ext (Ext.drew _)
    replace m21 := m21.ext (Ext.drew _)
    replace q17 := q17.ext (Ext.drew _)
    replace q19 := q19.ext (Ext.drew _)
    replace q21 := q21.ext (Ext.drew _)
    replace o26 := o26.ext (Ext.drew _)
    replace o8 := o8.ext (Ext.drew _)
    replace o9 := o9.ext (Ext.drew _)
    replace zz := Nat.le_trans zz (Chg.size (Ext.drew _))
    replace k14 := k14.ext (Ext.drew _)
    refine ⟨_, fun W eW => OpX.q (OpOk.r (R.move rfl) rfl), ?_⟩
    refine ⟨_, fun W eW => OpX.q (OpOk.r (R.loadA Tryz.isAgg176 Tryz.sizeOf176 rfl (k14.ext eW).cells rfl) rfl), ?_⟩
    refine ⟨_, fun W eW => OpX.q (OpOk.r (R.lookup (z := (⟨none, 0, 0⟩ : Hd)) (kenc176) Tryz.underlying179 Tryz.zeroValue22 (m17.ext eW) rfl rfl) rfl), ?_⟩
    refine ⟨_, fun W eW => OpX.q (OpOk.r (R.move rfl) rfl), ?_⟩
    refine ⟨_, fun W eW => OpX.q (OpOk.r (R.loadA Tryz.isAgg176 Tryz.sizeOf176 rfl (k14.ext eW).cells rfl) rfl), ?_⟩
    refine ⟨_, fun W eW => OpX.q (OpOk.r (R.lookup (z := (⟨none, 0, 0⟩ : Hd)) (kenc176) Tryz.underlying179 Tryz.zeroValue22 (m19.ext eW) rfl rfl) rfl), ?_⟩
    refine ⟨_, fun W eW => OpX.call rfl rfl ent108 (tri_Equal _ (((q17.ext eW).at ck).reads encTriple_len) (((q19.ext eW).at ck).reads encTriple_len)), ?_⟩
    refine ⟨_, fun W eW => OpX.q (OpOk.r (R.assign rfl) rfl), ?_⟩
    show ∀ w', Ext _ w' → St _ _ _ _ w'
    intro wd9 ed9
    replace E := Ext.trans E ed9
    replace m17 := m17.ext ed9
    replace m19 := m19.ext ed9
    replace m21 := m21.ext ed9
    replace q17 := q17.ext ed9
    replace q19 := q19.ext ed9
    replace q21 := q21.ext ed9
    replace o26 := o26.ext ed9
    replace o8 := o8.ext ed9
    replace o9 := o9.ext ed9
    replace zz := Nat.le_trans zz (Chg.size ed9)
    replace k14 := k14.ext ed9
    refine St.weak [(3, _), (8, _), (9, _), (10, _), (11, _), (12, _), (14, _), (15, _), (26, _), (27, _), (28, _), (44, _)] ⟨rfl, rfl, rfl, rfl, rfl, rfl, rfl, rfl, rfl, rfl, rfl, rfl, trivial⟩ ?_
    refine St.then_n ?_
    refine St.go hK10 ?_
    clear hK10
    refine St.cond rfl (fun h44 => ?_) (fun h44 => ?_)
    ·
      refine St.region ?_
      refine St.r (R.move rfl) rfl rfl ?_
      refine St.r (R.loadA Tryz.isAgg176 Tryz.sizeOf176 rfl k14.cells rfl) rfl rfl ?_
      refine St.r (R.lookup (z := (⟨none, 0, 0⟩ : Hd)) (kenc176) Tryz.underlying179 Tryz.zeroValue22 m21 rfl rfl) rfl rfl ?_
      refine St.r (R.assign rfl) rfl rfl ?_
      refine St.nil ?_
      refine St.weak [(3, _), (8, _), (9, _), (10, _), (11, _), (12, _), (15, _), (26, _), (27, _), (28, _)] ⟨rfl, rfl, rfl, rfl, rfl, rfl, rfl, rfl, rfl, rfl, trivial⟩ ?_
      refine St.in_n ?_
      refine St.then_n ?_
      refine St.meet hK9 (cv, ((getM ms21 ck).getD ⟨none, 0, 0⟩).val) ⟨rfl, rfl, rfl, rfl, rfl, rfl, rfl, rfl, rfl, rfl, trivial⟩ ?_
      · try dsimp only
        have h1 := of_decide_eq_true h44
        have hcb : clashB (sideOf base ck) (sideOf a ck) (sideOf b ck) = false := by simp [clashB, h1]
        have hp : pickL (sideOf base ck) (sideOf a ck) (sideOf b ck) first = sideOf b ck := by rw [pickL, if_pos h1]
        exact ⟨E, m17, m19, m21, q17, q19, q21, o26, o8, by rw [take_snoc hck, clashL_snoc, hcb]; simpa using o9, by rw [hp]; exact (q21.at ck).reads encTriple_len, hq21, hap, zz⟩
    ·
      refine St.seq fun K11 hK11 => ?_
      by_cases h62 : sideOf base ck = sideOf b ck
      ·
        refine St.weak [(3, _), (8, _), (9, _), (10, _), (11, _), (12, _), (14, _), (15, _), (26, _), (27, _), (28, _)] ⟨rfl, rfl, rfl, rfl, rfl, rfl, rfl, rfl, rfl, rfl, rfl, trivial⟩ ?_
        refine St.drawX mixed rfl rfl rfl rfl ?_
        replace E := Ext.trans E (Ext.drew _)
        replace m17 := m17.ext (Ext.drew _)
        replace m19 := m19.ext (Ext.drew _)
        replace m21 := m21.ext (Ext.drew _)
        replace q17 := q17.ext (Ext.drew _)
        replace q19 := q19.ext (Ext.drew _)
        replace q21 := q21.ext (Ext.drew _)
        replace o26 := o26.ext (Ext.drew _)
        replace o8 := o8.ext (Ext.drew _)
        replace o9 := o9.ext (Ext.drew _)
        replace zz := Nat.le_trans zz (Chg.size (Ext.drew _))
        replace k14 := k14.ext (Ext.drew _)
        refine ⟨_, fun W eW => OpX.q (OpOk.r (R.move rfl) rfl), ?_⟩
        refine ⟨_, fun W eW => OpX.q (OpOk.r (R.loadA Tryz.isAgg176 Tryz.sizeOf176 rfl (k14.ext eW).cells rfl) rfl), ?_⟩
        refine ⟨_, fun W eW => OpX.q (OpOk.r (R.lookup (z := (⟨none, 0, 0⟩ : Hd)) (kenc176) Tryz.underlying179 Tryz.zeroValue22 (m17.ext eW) rfl rfl) rfl), ?_⟩
        refine ⟨_, fun W eW => OpX.q (OpOk.r (R.move rfl) rfl), ?_⟩
        refine ⟨_, fun W eW => OpX.q (OpOk.r (R.loadA Tryz.isAgg176 Tryz.sizeOf176 rfl (k14.ext eW).cells rfl) rfl), ?_⟩
        refine ⟨_, fun W eW => OpX.q (OpOk.r (R.lookup (z := (⟨none, 0, 0⟩ : Hd)) (kenc176) Tryz.underlying179 Tryz.zeroValue22 (m21.ext eW) rfl rfl) rfl), ?_⟩
        refine ⟨_, fun W eW => OpX.call rfl rfl ent108 (tri_Equal _ (((q17.ext eW).at ck).reads encTriple_len) (((q21.ext eW).at ck).reads encTriple_len)), ?_⟩
        refine ⟨_, fun W eW => OpX.q (OpOk.r (Runs.lit (c := true) (R.move rfl) (decide_eq_true h62)) rfl), ?_⟩
        refine ⟨_, fun W eW => OpX.q (OpOk.pass (dg := 63) rfl rfl rfl rfl rfl), ?_⟩
        refine ⟨_, fun W eW => OpX.q (OpOk.pass (dg := 63) rfl rfl rfl rfl rfl), ?_⟩
        refine ⟨_, fun W eW => OpX.q (OpOk.pass (dg := 63) rfl rfl rfl rfl rfl), ?_⟩
        refine ⟨_, fun W eW => OpX.q (OpOk.pass (dg := 63) rfl rfl rfl rfl rfl), ?_⟩
        refine ⟨_, fun W eW => OpX.q (OpOk.pass (dg := 63) rfl rfl rfl rfl rfl), ?_⟩
        refine ⟨_, fun W eW => OpX.q (OpOk.pass (dg := 63) rfl rfl rfl rfl rfl), ?_⟩
        refine ⟨_, fun W eW => OpX.q (OpOk.pass (dg := 63) rfl rfl rfl rfl rfl), ?_⟩
        refine ⟨_, fun W eW => OpX.q (OpOk.r (R.pickT rfl rfl) rfl), ?_⟩
        refine ⟨_, fun W eW => OpX.q (OpOk.r (R.assign rfl) rfl), ?_⟩
        show ∀ w', Ext _ w' → St _ _ _ _ w'
        intro wd11 ed11
        replace E := Ext.trans E ed11
        replace m17 := m17.ext ed11
        replace m19 := m19.ext ed11
        replace m21 := m21.ext ed11
        replace q17 := q17.ext ed11
        replace q19 := q19.ext ed11
        replace q21 := q21.ext ed11
        replace o26 := o26.ext ed11
        replace o8 := o8.ext ed11
        replace o9 := o9.ext ed11
        replace zz := Nat.le_trans zz (Chg.size ed11)
        replace k14 := k14.ext ed11
        refine St.weak [(3, _), (8, _), (9, _), (10, _), (11, _), (12, _), (14, _), (15, _), (26, _), (27, _), (28, _), (55, _)] ⟨rfl, rfl, rfl, rfl, rfl, rfl, rfl, rfl, rfl, rfl, rfl, rfl, trivial⟩ ?_
        refine St.then_n ?_
        refine St.go hK11 ?_
        clear hK11
        refine St.condT rfl ?_
        refine St.skip ?_
        refine St.in_n ?_
        refine St.then_n ?_
        refine St.meet hK9 (cv, ((getM ms19 ck).getD ⟨none, 0, 0⟩).val) ⟨rfl, rfl, rfl, rfl, rfl, rfl, rfl, rfl, rfl, rfl, trivial⟩ ?_
        · try dsimp only
          have h1 := of_decide_eq_false h44
          have hcb : clashB (sideOf base ck) (sideOf a ck) (sideOf b ck) = false := by simp [clashB, h62]
          have hp : pickL (sideOf base ck) (sideOf a ck) (sideOf b ck) first = sideOf a ck := by rw [pickL, if_neg h1, if_pos (.inl h62)]
          exact ⟨E, m17, m19, m21, q17, q19, q21, o26, o8, by rw [take_snoc hck, clashL_snoc, hcb]; simpa using o9, by rw [hp]; exact (q19.at ck).reads encTriple_len, hq19, hap, zz⟩
      ·
        refine St.weak [(3, _), (8, _), (9, _), (10, _), (11, _), (12, _), (14, _), (15, _), (26, _), (27, _), (28, _)] ⟨rfl, rfl, rfl, rfl, rfl, rfl, rfl, rfl, rfl, rfl, rfl, trivial⟩ ?_
        refine St.drawX mixed rfl rfl rfl rfl ?_
        replace E := Ext.trans E (Ext.drew _)
        replace m17 := m17.ext (Ext.drew _)
        replace m19 := m19.ext (Ext.drew _)
        replace m21 := m21.ext (Ext.drew _)
        replace q17 := q17.ext (Ext.drew _)
        replace q19 := q19.ext (Ext.drew _)
        replace q21 := q21.ext (Ext.drew _)
        replace o26 := o26.ext (Ext.drew _)
        replace o8 := o8.ext (Ext.drew _)
        replace o9 := o9.ext (Ext.drew _)
        replace zz := Nat.le_trans zz (Chg.size (Ext.drew _))
        replace k14 := k14.ext (Ext.drew _)
        refine ⟨_, fun W eW => OpX.q (OpOk.r (R.move rfl) rfl), ?_⟩
        refine ⟨_, fun W eW => OpX.q (OpOk.r (R.loadA Tryz.isAgg176 Tryz.sizeOf176 rfl (k14.ext eW).cells rfl) rfl), ?_⟩
        refine ⟨_, fun W eW => OpX.q (OpOk.r (R.lookup (z := (⟨none, 0, 0⟩ : Hd)) (kenc176) Tryz.underlying179 Tryz.zeroValue22 (m17.ext eW) rfl rfl) rfl), ?_⟩
        refine ⟨_, fun W eW => OpX.q (OpOk.r (R.move rfl) rfl), ?_⟩
        refine ⟨_, fun W eW => OpX.q (OpOk.r (R.loadA Tryz.isAgg176 Tryz.sizeOf176 rfl (k14.ext eW).cells rfl) rfl), ?_⟩
        refine ⟨_, fun W eW => OpX.q (OpOk.r (R.lookup (z := (⟨none, 0, 0⟩ : Hd)) (kenc176) Tryz.underlying179 Tryz.zeroValue22 (m21.ext eW) rfl rfl) rfl), ?_⟩
        refine ⟨_, fun W eW => OpX.call rfl rfl ent108 (tri_Equal _ (((q17.ext eW).at ck).reads encTriple_len) (((q21.ext eW).at ck).reads encTriple_len)), ?_⟩
        refine ⟨_, fun W eW => OpX.q (OpOk.r (Runs.lit (c := false) (R.move rfl) (decide_eq_false h62)) rfl), ?_⟩
        refine ⟨_, fun W eW => OpX.q (OpOk.take (dg := 63) (R.move rfl) rfl rfl rfl rfl), ?_⟩
        refine ⟨_, fun W eW => OpX.q (OpOk.take (dg := 63) (R.loadA Tryz.isAgg176 Tryz.sizeOf176 rfl (k14.ext eW).cells rfl) rfl rfl rfl rfl), ?_⟩
        refine ⟨_, fun W eW => OpX.q (OpOk.take (dg := 63) (R.lookup (z := (⟨none, 0, 0⟩ : Hd)) (kenc176) Tryz.underlying179 Tryz.zeroValue22 (m19.ext eW) rfl rfl) rfl rfl rfl rfl), ?_⟩
        refine ⟨_, fun W eW => OpX.q (OpOk.take (dg := 63) (R.move rfl) rfl rfl rfl rfl), ?_⟩
        refine ⟨_, fun W eW => OpX.q (OpOk.take (dg := 63) (R.loadA Tryz.isAgg176 Tryz.sizeOf176 rfl (k14.ext eW).cells rfl) rfl rfl rfl rfl), ?_⟩
        refine ⟨_, fun W eW => OpX.q (OpOk.take (dg := 63) (R.lookup (z := (⟨none, 0, 0⟩ : Hd)) (kenc176) Tryz.underlying179 Tryz.zeroValue22 (m21.ext eW) rfl rfl) rfl rfl rfl rfl), ?_⟩
        refine ⟨_, fun W eW => OpX.callG (dg := 63) rfl rfl ent108 (tri_Equal _ (((q19.ext eW).at ck).reads encTriple_len) (((q21.ext eW).at ck).reads encTriple_len)) rfl rfl rfl, ?_⟩
        refine ⟨_, fun W eW => OpX.q (OpOk.r (R.pickF rfl rfl) rfl), ?_⟩
        refine ⟨_, fun W eW => OpX.q (OpOk.r (R.assign rfl) rfl), ?_⟩
        show ∀ w', Ext _ w' → St _ _ _ _ w'
        intro wd11 ed11
        replace E := Ext.trans E ed11
        replace m17 := m17.ext ed11
        replace m19 := m19.ext ed11
        replace m21 := m21.ext ed11
        replace q17 := q17.ext ed11
        replace q19 := q19.ext ed11
        replace q21 := q21.ext ed11
        replace o26 := o26.ext ed11
        replace o8 := o8.ext ed11
        replace o9 := o9.ext ed11
        replace zz := Nat.le_trans zz (Chg.size ed11)
        replace k14 := k14.ext ed11
        refine St.weak [(3, _), (8, _), (9, _), (10, _), (11, _), (12, _), (14, _), (15, _), (26, _), (27, _), (28, _), (55, _)] ⟨rfl, rfl, rfl, rfl, rfl, rfl, rfl, rfl, rfl, rfl, rfl, rfl, trivial⟩ ?_
        refine St.then_n ?_
        refine St.go hK11 ?_
        clear hK11
        refine St.cond rfl (fun h55 => ?_) (fun h55 => ?_)
        ·
          refine St.skip ?_
          refine St.in_n ?_
          refine St.then_n ?_
          refine St.meet hK9 (cv, ((getM ms19 ck).getD ⟨none, 0, 0⟩).val) ⟨rfl, rfl, rfl, rfl, rfl, rfl, rfl, rfl, rfl, rfl, trivial⟩ ?_
          · try dsimp only
            have h1 := of_decide_eq_false h44
            have h3 := of_decide_eq_true h55
            have hcb : clashB (sideOf base ck) (sideOf a ck) (sideOf b ck) = false := by simp [clashB, h3]
            have hp : pickL (sideOf base ck) (sideOf a ck) (sideOf b ck) first = sideOf a ck := by rw [pickL, if_neg h1, if_pos (.inr h3)]
            exact ⟨E, m17, m19, m21, q17, q19, q21, o26, o8, by rw [take_snoc hck, clashL_snoc, hcb]; simpa using o9, by rw [hp]; exact (q19.at ck).reads encTriple_len, hq19, hap, zz⟩
        ·
          refine St.seq fun K12 hK12 => ?_
          refine St.region ?_
          refine St.r (R.move rfl) rfl rfl ?_
          refine St.r (R.loadA Tryz.isAgg176 Tryz.sizeOf176 rfl k14.cells rfl) rfl rfl ?_
          refine St.buildSl Tryz.underlying73 Tryz.sizeOf176 Tryz.zeroValue176 rfl rfl rfl rfl (by intro u hu; simp only [List.mem_cons, List.not_mem_nil, or_false] at hu; first | (subst hu; rfl) | (rcases hu with rfl | rfl <;> rfl) | (rcases hu with rfl | rfl | rfl <;> rfl) | (rcases hu with rfl | rfl | rfl | rfl <;> rfl)) rfl ?_
          intro w37 b37 hb37 hs37 e37 k37
          have qE37 := E.size
          replace E := Ext.trans E e37
          replace m17 := m17.ext e37
          replace m19 := m19.ext e37
          replace m21 := m21.ext e37
          replace q17 := q17.ext e37
          replace q19 := q19.ext e37
          replace q21 := q21.ext e37
          replace o26 := o26.ext e37
          replace o8 := o8.ext e37
          replace o9 := o9.ext e37
          replace zz := Nat.le_trans zz (Chg.size e37)
          replace k14 := k14.ext e37
          have hoL8b := fun k hk => (o8.base (k := k) hk).2
          refine St.append (enc := encClash) (fun _ => rfl) one_clash Tryz.underlying73 info176 rfl rfl rfl rfl o9 (RSl.mk (enc := encClash) (xs := [ck]) encClash_len k37.cells (fun i u hu => hu) (by simp) (by simp)) (by simp; omega) (by simp; omega) (by omega) rfl ?_
          intro v38 w38 a38 g38 at38
          replace E := Ext.then E g38 (by intro j hj hk; have := (o9.base hk).1; omega)
          replace m17 := m17.chg g38 (by intro hk; have := (o9.base hk).1; omega)
          replace m19 := m19.chg g38 (by intro hk; have := (o9.base hk).1; omega)
          replace m21 := m21.chg g38 (by intro hk; have := (o9.base hk).1; omega)
          replace q17 := q17.chg g38 (fun k hd hk y hy e => by have := hl17 k hd hk y hy; have := (o9.base e).1; omega)
          replace q19 := q19.chg g38 (fun k hd hk y hy e => by have := hl19 k hd hk y hy; have := (o9.base e).1; omega)
          replace q21 := q21.chg g38 (fun k hd hk y hy e => by have := hl21 k hd hk y hy; have := (o9.base e).1; omega)
          replace o26 := o26.chg g38 (fun k hk e => by have := hb26 k hk; have := (o9.base e).1; omega)
          replace o8 := o8.chg g38 (fun k hk e => hap k hk e)
          replace zz := Nat.le_trans zz (Chg.size g38)
          replace k14 := k14.chg g38 (fun hk => by have := hoL9 _ hk; omega)
          clear o9; have o9 := a38; clear a38
          have hap2 : ∀ x, ov.ownBlock = some x → v38.ownBlock ≠ some x := fun x hx hx2 => by
            rcases at38 with e | e
            · exact hap x hx (e ▸ hx2)
            · have h3 := e.symm.trans hx2
              injection h3 with h3
              have := hoL8b x hx
              omega
          refine St.r (R.assign rfl) rfl rfl ?_
          refine St.nil ?_
          refine St.weak [(3, _), (8, _), (9, _), (10, _), (11, _), (12, _), (14, _), (15, _), (26, _), (27, _), (28, _)] ⟨rfl, rfl, rfl, rfl, rfl, rfl, rfl, rfl, rfl, rfl, rfl, trivial⟩ ?_
          refine St.then_n ?_
          refine St.go hK12 ?_
          clear hK12
          refine St.seq fun K13 hK13 => ?_
          refine St.region ?_
          refine St.r (R.move rfl) rfl rfl ?_
          refine St.r (R.not rfl) rfl rfl ?_
          refine St.nil ?_
          refine St.weak [(3, _), (8, _), (9, _), (10, _), (11, _), (12, _), (14, _), (15, _), (26, _), (27, _), (28, _), (40, _)] ⟨rfl, rfl, rfl, rfl, rfl, rfl, rfl, rfl, rfl, rfl, rfl, rfl, trivial⟩ ?_
          refine St.then_n ?_
          refine St.go hK13 ?_
          clear hK13
          refine St.cond rfl (fun h40 => ?_) (fun h40 => ?_)
          ·
            refine St.region ?_
            refine St.r (R.move rfl) rfl rfl ?_
            refine St.r (R.loadA Tryz.isAgg176 Tryz.sizeOf176 rfl k14.cells rfl) rfl rfl ?_
            refine St.r (R.lookup (z := (⟨none, 0, 0⟩ : Hd)) (kenc176) Tryz.underlying179 Tryz.zeroValue22 m21 rfl rfl) rfl rfl ?_
            refine St.r (R.assign rfl) rfl rfl ?_
            refine St.nil ?_
            refine St.weak [(3, _), (8, _), (9, _), (10, _), (11, _), (12, _), (15, _), (26, _), (27, _), (28, _)] ⟨rfl, rfl, rfl, rfl, rfl, rfl, rfl, rfl, rfl, rfl, trivial⟩ ?_
            refine St.in_n ?_
            refine St.then_n ?_
            refine St.meet hK9 (v38, ((getM ms21 ck).getD ⟨none, 0, 0⟩).val) ⟨rfl, rfl, rfl, rfl, rfl, rfl, rfl, rfl, rfl, rfl, trivial⟩ ?_
            · try dsimp only
              have h1 := of_decide_eq_false h44
              have h3 := of_decide_eq_false h55
              have hf : first = false := by simpa using h40
              have hcb : clashB (sideOf base ck) (sideOf a ck) (sideOf b ck) = true := by simp [clashB, h1, h62, h3]
              have hp : pickL (sideOf base ck) (sideOf a ck) (sideOf b ck) first = sideOf b ck := by rw [pickL, if_neg h1, if_neg (by simp [h62, h3]), hf]; rfl
              exact ⟨E, m17, m19, m21, q17, q19, q21, o26, o8, by rw [take_snoc hck, clashL_snoc, hcb]; simpa using o9, by rw [hp]; exact (q21.at ck).reads encTriple_len, hq21, hap2, zz⟩
          ·
            refine St.skip ?_
            refine St.in_n ?_
            refine St.then_n ?_
            refine St.meet hK9 (v38, ((getM ms19 ck).getD ⟨none, 0, 0⟩).val) ⟨rfl, rfl, rfl, rfl, rfl, rfl, rfl, rfl, rfl, rfl, trivial⟩ ?_
            · try dsimp only
              have h1 := of_decide_eq_false h44
              have h3 := of_decide_eq_false h55
              have hf : first = true := by simpa using h40
              have hcb : clashB (sideOf base ck) (sideOf a ck) (sideOf b ck) = true := by simp [clashB, h1, h62, h3]
              have hp : pickL (sideOf base ck) (sideOf a ck) (sideOf b ck) first = sideOf a ck := by rw [pickL, if_neg h1, if_neg (by simp [h62, h3]), hf]; rfl
              exact ⟨E, m17, m19, m21, q17, q19, q21, o26, o8, by rw [take_snoc hck, clashL_snoc, hcb]; simpa using o9, by rw [hp]; exact (q19.at ck).reads encTriple_len, hq19, hap2, zz⟩
  ·
    refine St.exit ?_
    refine St.then_x ?_
    refine St.then_x ?_
    refine St.in_x ?_
    refine St.then_n ?_
    refine St.go hK2 ?_
    clear hK2
    refine St.seq fun K14 hK14 => ?_
    refine St.region ?_
    refine St.r (R.move rfl) rfl rfl ?_
    refine St.r (R.move rfl) rfl rfl ?_
    refine St.r (R.assign rfl) rfl rfl ?_
    refine St.r (R.assign rfl) rfl rfl ?_
    refine St.nil ?_
    refine St.weak [(8, _), (9, _)] ⟨rfl, rfl, trivial⟩ ?_
    refine St.then_n ?_
    refine St.go hK14 ?_
    clear hK14
    refine St.ret ?_
    refine St.ret2 Tryz.results103 rfl rfl ?_
    rw [List.take_of_length_le (by omega)] at o8 o9
    exact ⟨_, rfl, _, _, ks, rfl, hIP, o8.lower (by omega), o9.lower (by omega), E⟩

end Go.Proofs.YtjgcmpondbocfaaGreatDoor

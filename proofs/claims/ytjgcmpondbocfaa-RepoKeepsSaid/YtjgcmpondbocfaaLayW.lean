/- What layer.Of and layer.Check come to, each walked once. Under the reading of the arguments. -/
import Derived.Test.YtjgcmpondbocfaaProg
import Derived.Test.YtjgcmpondbocfaaSetW
namespace Go.Proofs.Ytjgcmpondbocfaa
open Go.RowKit 
theorem ent71 : Ent Try.prog 71 := Ent.of Try.func71 (by kernel_rfl) rfl
theorem ent103 : Ent Try.prog 103 := Ent.of Try.func103 (by kernel_rfl) rfl
theorem places136 : ∀ fs, Try.prog.underlying 136 = some (.struct fs) → Places Try.prog fs [(0, 1), (1, 1)] := by
  intro fs h
  rw [Try.underlying136] at h
  cases h
  intro w
  simp [go_sem, Try.sizeOf44]
theorem layerOf_ret {a b : List Triple} {v u : Value} (w0 : World) (hv : RTriples w0 v a) (hu : RTriples w0 u b) (ha : a.length ≤ 1000000000) (hb : b.length ≤ 1000000000) (hra : Rises tripCmp a) (hrb : Rises tripCmp b) :
    Ret Try.prog 76 [v, u] w0 fun r w' => ∃ p q, r = .agg #[p, q] ∧ Own encTriple 9 w0.heap.size 64 w' p (partL b a false) ∧ Own encTriple 9 w0.heap.size 64 w' q (partL a b false) ∧ Ext w0 w' := by
  have E : Ext w0 w0 := Ext.refl w0
  refine St.enter (N := 12) Try.func76 rfl Try.ntmps76 rfl ?_
  refine St.seq fun K0 hK0 => ?_
  refine St.region ?_
  refine St.alloc Try.zeroValue136 rfl ?_
  intro w4 b4 hb4 hs4 e4 k4
  have qE4 := E.size
  replace E := Ext.trans E e4
  refine St.nil ?_
  refine St.weak [(0, _), (1, _), (4, _)] ⟨rfl, rfl, rfl, trivial⟩ ?_
  refine St.then_n ?_
  refine St.go hK0 ?_
  clear hK0
  refine St.seq fun K1 hK1 => ?_
  refine St.region ?_
  refine St.r (R.move rfl) rfl rfl ?_
  refine St.r (R.move rfl) rfl rfl ?_
  refine St.call rfl rfl ent103 (Part_ret _ (hu.ext (REnc.firm _) E) (hv.ext (REnc.firm _) E) hb ha hra) rfl ?_
  rintro r7 w7 ⟨o7, e7⟩
  replace E := Ext.trans E e7
  replace k4 := k4.ext e7
  have z4 := e7.size
  obtain ⟨A7, c7, rfl, -, -⟩ := o7.form
  refine St.r (R.move rfl) rfl rfl ?_
  refine St.r (R.move rfl) rfl rfl ?_
  refine St.call rfl rfl ent103 (Part_ret _ (hv.ext (REnc.firm _) E) (hu.ext (REnc.firm _) E) ha hb hrb) rfl ?_
  rintro r10 w10 ⟨o10, e10⟩
  replace E := Ext.trans E e10
  replace k4 := k4.ext e10
  replace o7 := o7.ext e10
  have zE := E.size
  obtain ⟨A10, c10, rfl, -, -⟩ := o10.form
  refine St.r (R.build Try.underlying136 (places136 _ Try.underlying136) Try.zeroValue136 rfl rfl rfl) rfl rfl ?_
  refine St.store Try.sizeOf136 rfl rfl k4 rfl (by simp [Value.cells]) (by intro u hu; replace hu : u ∈ [Value.slice A7 (partL b a false).length c7, Value.slice A10 (partL a b false).length c10] := hu; simp only [List.mem_cons, List.not_mem_nil, or_false] at hu; rcases hu with rfl | rfl <;> rfl) ?_
  intro ws0 ks0 gs0 zs0
  replace E := Ext.then E gs0 (by intro j hj; omega)
  replace o7 := o7.chg gs0 (by intro k hk h; have := (o7.base hk).1; omega)
  replace o10 := o10.chg gs0 (by intro k hk h; have := (o10.base hk).1; omega)
  clear k4; have k4 := ks0; clear ks0
  refine St.nil ?_
  refine St.weak [(4, _)] ⟨rfl, trivial⟩ ?_
  refine St.then_n ?_
  refine St.go hK1 ?_
  clear hK1
  refine St.ret ?_
  refine St.retA Try.results76 Try.isAgg136 Try.sizeOf136 rfl k4.cells rfl ?_
  exact ⟨_, rfl, _, _, rfl, o7.lower (by omega), o10.lower (by omega), E⟩


/-- What is wrong with a layer. -/
def layerErr (p q : List Triple) : Option Int := match rightErr [p, q] with
  | some e => some e
  | none => if (partL p q true).length = 0 then none else some 7
theorem RTL.two {w : World} {b : Nat} {t : TypeId} {v u : Value} {p q : List Triple} (hk : Blk w b t [v, u]) (hv : RTriples w v p) (hu : RTriples w u q) : RSl RTL 1 w (.slice (some ⟨b, 0, none⟩) 2 2) [p, q] :=
  ⟨some ⟨b, 0, none⟩, 2, rfl, by simp, by omega, fun _ => ⟨b, 0, rfl, fun k x hx => by
    match k, hx with
    | 0, hx => injection hx with hx; subst hx; exact ⟨[v], rfl, fun i u hu => by match i, hu with | 0, hu => injection hu with hu; subst hu; exact hk.cells.at 0 rfl, v, rfl, hv⟩
    | 1, hx => injection hx with hx; subst hx; exact ⟨[u], rfl, fun i y hy => by match i, hy with | 0, hy => injection hy with hy; subst hy; exact hk.cells.at 1 rfl, u, rfl, hu⟩⟩⟩
theorem RTL.one {w : World} {b : Nat} {t : TypeId} {v : Value} {p : List Triple} (hk : Blk w b t [v]) (hv : RTriples w v p) : RSl RTL 1 w (.slice (some ⟨b, 0, none⟩) 1 1) [p] :=
  ⟨some ⟨b, 0, none⟩, 1, rfl, by simp, by omega, fun _ => ⟨b, 0, rfl, fun k x hx => by
    match k, hx with
    | 0, hx => injection hx with hx; subst hx; exact ⟨[v], rfl, fun i u hu => by match i, hu with | 0, hu => injection hu with hu; subst hu; exact hk.cells.at 0 rfl, v, rfl, hv⟩⟩⟩
theorem firstE_all {l : List (Option Int)} (h : firstE l = none) : ∀ x ∈ l, x = none := by
  induction l with
  | nil => simp
  | cons a r ih =>
    cases a with
    | some e => cases h
    | none =>
      intro x hx
      rcases List.mem_cons.1 hx with rfl | hx
      · rfl
      · exact ih h x hx
theorem right_set {ls : List (List Triple)} (h : rightErr ls = none) {l : List Triple} (hl : l ∈ ls) : IsSet l := setErr_iff.1 (firstE_all h _ (List.mem_map.2 ⟨l, hl, rfl⟩))

theorem layCheck_ret {p q : List Triple} {A B : Option Addr} {n m c d : Nat} (w0 : World) (hv : RTriples w0 (.slice A n c) p) (hu : RTriples w0 (.slice B m d) q) :
    Ret Try.prog 101 [.agg #[.slice A n c, .slice B m d]] w0 fun r w' => r = errV 91 (layerErr p q) ∧ Ext w0 w' := by
  have E : Ext w0 w0 := Ext.refl w0
  refine St.enter (N := 21) Try.func101 rfl Try.ntmps101 rfl ?_
  refine St.seq fun K0 hK0 => ?_
  refine St.region ?_
  refine St.box rfl rfl ?_
  intro w1 b1 hb1 hs1 e1 k1
  have qE1 := E.size
  replace E := Ext.trans E e1
  refine St.r (R.assign rfl) rfl rfl ?_
  refine St.nil ?_
  refine St.weak [(1, _)] ⟨rfl, trivial⟩ ?_
  refine St.then_n ?_
  refine St.go hK0 ?_
  clear hK0
  refine St.seq fun K1 hK1 => ?_
  refine St.seq fun K2 hK2 => ?_
  refine St.region ?_
  refine St.r (R.fieldA Try.underlying136 rfl Try.sizeOf44 rfl rfl rfl) rfl rfl ?_
  refine St.r (R.load1 Try.isAgg44 rfl (k1.cells.at 0 rfl)) rfl rfl ?_
  refine St.r (R.fieldA Try.underlying136 rfl Try.sizeOf44 rfl rfl rfl) rfl rfl ?_
  refine St.r (R.load1 Try.isAgg44 rfl (k1.cells.at 1 rfl)) rfl rfl ?_
  refine St.buildSl Try.underlying36 Try.sizeOf44 Try.zeroValue44 rfl rfl rfl rfl (by intro u hu; simp only [List.mem_cons, List.not_mem_nil, or_false] at hu; first | (subst hu; rfl) | (rcases hu with rfl | rfl <;> rfl) | (rcases hu with rfl | rfl | rfl <;> rfl) | (rcases hu with rfl | rfl | rfl | rfl <;> rfl)) rfl ?_
  intro w8 b8 hb8 hs8 e8 k8
  have qE8 := E.size
  replace E := Ext.trans E e8
  replace k1 := k1.ext e8
  refine St.call rfl rfl ent71 (Right_ret _ (RTL.two k8 (hv.ext (REnc.firm _) E) (hu.ext (REnc.firm _) E))) rfl ?_
  rintro r9 w9 ⟨rfl, e9⟩
  replace E := Ext.trans E e9
  replace k1 := k1.ext e9
  refine St.r (R.assign rfl) rfl rfl ?_
  refine St.nil ?_
  refine St.weak [(1, _), (3, _)] ⟨rfl, rfl, trivial⟩ ?_
  refine St.then_n ?_
  refine St.go hK2 ?_
  clear hK2
  refine St.seq fun K3 hK3 => ?_
  refine St.region ?_
  refine St.r (R.move rfl) rfl rfl ?_
  refine St.r (R.notNil (et := 91) (e := _) Try.underlying27 rfl) rfl rfl ?_
  refine St.nil ?_
  refine St.weak [(1, _), (3, _), (11, _)] ⟨rfl, rfl, rfl, trivial⟩ ?_
  refine St.then_n ?_
  refine St.go hK3 ?_
  clear hK3
  refine St.cond rfl (fun h11 => ?_) (fun h11 => ?_)
  ·
    refine St.seq fun K4 hK4 => ?_
    refine St.region ?_
    refine St.r (R.move rfl) rfl rfl ?_
    refine St.r (R.assign rfl) rfl rfl ?_
    refine St.nil ?_
    refine St.weak [(2, _)] ⟨rfl, trivial⟩ ?_
    refine St.then_n ?_
    refine St.go hK4 ?_
    clear hK4
    refine St.ret ?_
    refine St.then_r ?_
    refine St.ret1 Try.results101 rfl ?_
    exact ⟨_, rfl, by rw [layerErr]; cases he : rightErr [p, q] <;> simp [he] at h11 ⊢, E⟩
  ·
    have hR := isSome_false h11
    have sp := right_set hR (l := p) (by simp)
    have sq := right_set hR (l := q) (by simp)
    have hp2 := sp.few
    have hq2 := sq.few
    refine St.skip ?_
    refine St.then_n ?_
    refine St.go hK1 ?_
    clear hK1
    refine St.seq fun K5 hK5 => ?_
    refine St.seq fun K6 hK6 => ?_
    refine St.region ?_
    refine St.r (R.fieldA Try.underlying136 rfl Try.sizeOf44 rfl rfl rfl) rfl rfl ?_
    refine St.r (R.load1 Try.isAgg44 rfl (k1.cells.at 0 rfl)) rfl rfl ?_
    refine St.r (R.fieldA Try.underlying136 rfl Try.sizeOf44 rfl rfl rfl) rfl rfl ?_
    refine St.r (R.load1 Try.isAgg44 rfl (k1.cells.at 1 rfl)) rfl rfl ?_
    refine St.call rfl rfl ent103 (Part_ret _ (hv.ext (REnc.firm _) E) (hu.ext (REnc.firm _) E) (by omega) (by omega) sq.rises) rfl ?_
    rintro r17 w17 ⟨o17, e17⟩
    replace E := Ext.trans E e17
    replace k1 := k1.ext e17
    obtain ⟨A17, c17, rfl, -, -⟩ := o17.form
    refine St.r (R.lenSl Try.underlying44 rfl) rfl rfl ?_
    refine St.r (R.gtr rfl rfl) rfl rfl ?_
    refine St.nil ?_
    refine St.weak [(19, _)] ⟨rfl, trivial⟩ ?_
    refine St.then_n ?_
    refine St.go hK6 ?_
    clear hK6
    refine St.condD rfl (fun h19 => ?_) (fun h19 => ?_)
    ·
      refine St.seq fun K7 hK7 => ?_
      refine St.region ?_
      refine St.r (R.iface Try.underlying91 rfl rfl) rfl rfl ?_
      refine St.r (R.assign rfl) rfl rfl ?_
      refine St.nil ?_
      refine St.weak [(2, _)] ⟨rfl, trivial⟩ ?_
      refine St.then_n ?_
      refine St.go hK7 ?_
      clear hK7
      refine St.ret ?_
      refine St.then_r ?_
      refine St.ret1 Try.results101 rfl ?_
      exact ⟨_, rfl, by rw [layerErr, hR]; simp only; rw [if_neg (by omega)]; rfl, E⟩
    ·
      refine St.skip ?_
      refine St.then_n ?_
      refine St.go hK5 ?_
      clear hK5
      refine St.seq fun K8 hK8 => ?_
      refine St.region ?_
      refine St.r (R.assign rfl) rfl rfl ?_
      refine St.nil ?_
      refine St.weak [(2, _)] ⟨rfl, trivial⟩ ?_
      refine St.then_n ?_
      refine St.go hK8 ?_
      clear hK8
      refine St.ret ?_
      refine St.ret1 Try.results101 rfl ?_
      exact ⟨_, rfl, by rw [layerErr, hR]; simp only; rw [if_pos (by omega)]; rfl, E⟩

end Go.Proofs.Ytjgcmpondbocfaa

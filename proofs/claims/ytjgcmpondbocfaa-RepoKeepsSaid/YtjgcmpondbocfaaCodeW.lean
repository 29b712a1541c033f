/- What code.put, code.puts and code.Layer come to, each walked once. Under the reading of the arguments. -/
import Derived.Test.YtjgcmpondbocfaaProg
import Derived.Test.YtjgcmpondbocfaaLayW
namespace Go.Proofs.Ytjgcmpondbocfaa
open Go.RowKit 
theorem ent101 : Ent Try.prog 101 := Ent.of Try.func101 (by kernel_rfl) rfl
theorem ent102 : Ent Try.prog 102 := Ent.of Try.func102 (by kernel_rfl) rfl
theorem ent135 : Ent Try.prog 135 := Ent.of Try.func135 (by kernel_rfl) rfl
theorem info5 : (Try.prog.info? 5).map (fun i => (i.zero, i.size, i.bytes)) = some (some (.int .u8 0), 1, 1) := by kernel_rfl

def kindC (t : Term) : Int := if t.lang = ⟨#[]⟩ then t.kind else t.kind + 4
def putB (t : Term) : List UInt8 := byteW (kindC t) :: (t.lang.data.toList ++ byteW (t.s.size : Int) :: t.s.data.toList)
def tripB (t : Triple) : List UInt8 := putB t.s ++ (putB t.p ++ putB t.o)
def putsB (l : List Triple) : List UInt8 := byteW ((l.length / 256 : Nat) : Int) :: byteW (l.length : Int) :: l.flatMap tripB
def codeL (p q : List Triple) : ByteArray := ⟨(putsB p ++ putsB q).toArray⟩
theorem term_ok {t : Term} (h : termErr t = none) : 1 ≤ t.kind ∧ t.kind ≤ 3 ∧ t.s.size ≤ 24 ∧ t.lang.size ≤ 2 := by
  unfold termErr at h
  split at h
  · cases h
  · rename_i h1
    split at h
    · cases h
    · rename_i h2
      split at h
      · cases h
      · split at h
        · cases h
        · rename_i h4
          have hk : kindB t.kind = true := by simpa using h1
          simp only [kindB, Bool.and_eq_true, decide_eq_true_eq] at hk
          refine ⟨hk.1, hk.2, by omega, ?_⟩
          by_cases hl : t.lang = ⟨#[]⟩
          · rw [hl]; decide
          · have h5 : langB t = true := by simpa using h4
            simp only [langB, hl, ne_eq, not_false_eq_true, decide_true, Bool.true_and, Bool.not_eq_true', Bool.or_eq_false_iff, decide_eq_false_iff_not] at h5
            omega
theorem one_byte : ∀ x, ∀ u ∈ encByte x, u.oneCell' = true := by
  intro x u hu; simp only [encByte, List.mem_singleton] at hu; subst hu; rfl
theorem len_bytes (s : ByteArray) : s.data.toList.length = s.size := by rw [Array.length_toList]; rfl

set_option maxRecDepth 100000 in
theorem put_ret {t : Term} {xs : List UInt8} {v : Value} {base : Nat} (ht : termErr t = none) (w0 : World) (ho : Own encByte 1 base 5 w0 v xs) (hl : xs.length ≤ 100000000) (hb : base ≤ w0.heap.size) :
    Ret Try.prog 135 [v, .agg (encTerm t).toArray] w0 fun r w' => Own encByte 1 base 5 w' r (xs ++ putB t) ∧ Near w0.heap.size v r ∧ Chg (fun k => v.ownBlock = some k) w0 w' := by
  have hq := term_ok ht
  have hll := len_bytes t.lang
  have hls := len_bytes t.s
  refine St.enter (N := 31) Try.func135 rfl Try.ntmps135 rfl ?_
  refine St.seq fun K0 hK0 => ?_
  refine St.region ?_
  refine St.box rfl rfl ?_
  intro w3 b3 hb3 hs3 e3 k3
  have c0 : Chg (fun k => v.ownBlock = some k) w0 w3 := Chg.mono e3 fun _ _ h => h.elim
  have o0 := ho.ext e3
  have nb : ¬ (v.ownBlock = some b3) := fun hk => by have := (ho.base hk).2; omega
  have zb : b3 + 1 ≤ w3.heap.size := by omega
  refine St.r (R.assign rfl) rfl rfl ?_
  refine St.nil ?_
  refine St.weak [(0, _), (3, _)] ⟨rfl, rfl, trivial⟩ ?_
  refine St.then_n ?_
  refine St.go hK0 ?_
  clear hK0
  refine St.seq fun K1 hK1 => ?_
  refine St.region ?_
  refine St.r (R.fieldA Try.underlying62 rfl Try.sizeOf3 rfl rfl rfl) rfl rfl ?_
  refine St.r (R.load1 Try.isAgg3 rfl (k3.cells.at 0 rfl)) rfl rfl ?_
  refine St.r (R.assign rfl) rfl rfl ?_
  refine St.nil ?_
  refine St.weak [(0, _), (3, _), (5, _)] ⟨rfl, rfl, rfl, trivial⟩ ?_
  refine St.then_n ?_
  refine St.go hK1 ?_
  clear hK1
  refine St.seqJ (fun (x : Unit) => match x with | () => [(0, v), (3, .pointer (some ⟨b3, 0, none⟩)), (5, .int .i64 (kindC t))])
      (fun (x : Unit) w => match x with | () => Blk w b3 62 (encTerm t) ∧ Chg (fun k => v.ownBlock = some k) w0 w ∧ Own encByte 1 base 5 w v xs ∧ b3 + 1 ≤ w.heap.size) ?_ ?_
  · rintro _ w ⟨k3, c0, o0, zb⟩
    show St _ _ [(0, v), (3, .pointer (some ⟨b3, 0, none⟩)), (5, .int .i64 (kindC t))] _ _
    refine St.seq fun K3 hK3 => ?_
    refine St.weak [(0, _), (3, _), (5, _)] ⟨rfl, rfl, rfl, trivial⟩ ?_
    refine St.drawTL (S := fun k => v.ownBlock = some k ∨ b3 < k) (eff := [3, 4, 7]) mixed rfl rfl rfl rfl rfl rfl ?_
    replace k3 := k3.ext (Ext.drew _)
    replace c0 := Chg.then c0 (Ext.drew _) (fun _ _ h => h.elim)
    replace o0 := o0.ext (Ext.drew _)
    replace zb := Nat.le_trans zb (Chg.size (Ext.drew _))
    refine DrawT.quiet 0 rfl rfl (fun W eW => OpOk.r (R.move rfl) rfl) ?_
    refine DrawT.quiet 1 rfl rfl (fun W eW => OpOk.r (R.move rfl) rfl) ?_
    refine DrawT.quiet 2 rfl rfl (fun W eW => OpOk.r (R.convI ((byteW (kindC t)).toNat : Int) Try.underlying3 Try.underlying5 rfl (wrap_u8 _)) rfl) ?_
    refine DrawT.quiet 5 rfl rfl (fun W eW => OpOk.r (R.fieldA Try.underlying62 rfl Try.sizeOf9 rfl rfl rfl) rfl) ?_
    have hp19 := (k3.cells.at 2 rfl)
    refine DrawT.pinL 6 rfl rfl Try.isAgg9 rfl hp19 ?_
    refine DrawT.one (n := 3) [6] rfl rfl rfl (by kernel_rfl) (OpC.plain (Eff.buildSl Try.underlying131 Try.sizeOf5 Try.zeroValue5 rfl rfl rfl rfl (by intro u hu; simp only [List.mem_cons, List.not_mem_nil, or_false] at hu; first | (subst hu; rfl) | (rcases hu with rfl | rfl <;> rfl) | (rcases hu with rfl | rfl | rfl <;> rfl))) rfl) ?_ ?_
    · rintro _ _ ⟨_, _, _, _, e, _⟩
      refine ⟨?_, ⟨e.cell hp19, trivial⟩⟩
      exact Chg.mono e (fun _ _ h => h.elim)
    rintro _ w16 ⟨b16, rfl, hb16, hs16, e16, k16⟩
    replace hp19 := e16.cell hp19
    replace k3 := k3.ext e16
    replace c0 := Chg.then c0 e16 (fun _ _ h => h.elim)
    replace o0 := o0.ext e16
    replace zb := Nat.le_trans zb (Chg.size e16)
    have zp17 := zb
    refine DrawT.one (n := 4) [6] rfl rfl rfl (by kernel_rfl) (OpC.plain (Eff.append (enc := encByte) (fun _ => rfl) one_byte Try.underlying131 info5 rfl rfl rfl rfl o0 (RSl.mk (enc := encByte) (xs := [byteW (kindC t)]) encByte_len k16.cells (fun i u hu => hu) (by simp) (by simp)) (by simp; omega) (by simp; omega) (by have := c0.size; omega)) rfl) ?_ ?_
    · rintro _ _ ⟨_, g, _⟩
      refine ⟨?_, ⟨g.cell hp19 nb, trivial⟩⟩
      exact Chg.mono g (fun _ _ h => .inl h)
    rintro v17 w17 ⟨a17, g17, at17⟩
    replace hp19 := g17.cell hp19 nb
    replace k3 := k3.chg g17 nb
    replace c0 := Chg.then c0 g17 (fun _ _ h => h)
    replace zb := Nat.le_trans zb (Chg.size g17)
    clear o0; have o0 := a17; clear a17
    have n17 : Near (b3 + 1) v v17 := (Near.refl _ _).step at17 zp17
    have nb17 : ¬ (v17.ownBlock = some b3) := fun hk => (n17 _ hk).elim nb (by omega)
    have zp20 := zb
    refine DrawT.one (n := 7) [] rfl rfl rfl (by kernel_rfl) (OpC.plain (Eff.appendStr Try.underlying131 Try.underlying9 info5 rfl rfl o0 (by have := len_bytes t.lang; simp; omega) (by have := c0.size; omega)) rfl) ?_ ?_
    · rintro _ _ ⟨_, g, _⟩
      refine ⟨?_, trivial⟩
      exact Chg.mono g (fun k _ h => n17 k h)
    rintro v20 w20 ⟨a20, g20, at20⟩
    replace k3 := k3.chg g20 nb17
    replace c0 := Chg.then c0 g20 (fun j hj h => (n17 j h).resolve_right (by omega))
    replace zb := Nat.le_trans zb (Chg.size g20)
    clear o0; have o0 := a20; clear a20
    have n20 : Near (b3 + 1) v v20 := n17.step at20 zp20
    have nb20 : ¬ (v20.ownBlock = some b3) := fun hk => (n20 _ hk).elim nb (by omega)
    refine DrawT.fin rfl ?_
    show St _ _ _ _ _
    refine St.last rfl rfl ?_
    refine St.weak [(0, _), (3, _)] ⟨rfl, rfl, trivial⟩ ?_
    refine St.then_n ?_
    refine St.go hK3 ?_
    clear hK3
    refine St.seq fun K4 hK4 => ?_
    refine St.weak [(0, _), (3, _)] ⟨rfl, rfl, trivial⟩ ?_
    refine St.drawT (S := fun k => v.ownBlock = some k ∨ b3 < k) (eff := [5, 6, 9]) mixed rfl rfl rfl rfl ?_
    replace k3 := k3.ext (Ext.drew _)
    replace c0 := Chg.then c0 (Ext.drew _) (fun _ _ h => h.elim)
    replace o0 := o0.ext (Ext.drew _)
    replace zb := Nat.le_trans zb (Chg.size (Ext.drew _))
    refine DrawT.quiet 0 rfl rfl (fun W eW => OpOk.r (R.move rfl) rfl) ?_
    refine DrawT.quiet 1 rfl rfl (fun W eW => OpOk.r (R.fieldA Try.underlying62 rfl Try.sizeOf9 rfl rfl rfl) rfl) ?_
    have hp23 := (k3.cells.at 1 rfl)
    refine DrawT.pinL 2 rfl rfl Try.isAgg9 rfl hp23 ?_
    refine DrawT.quiet 3 rfl rfl (fun W eW => OpOk.r (R.lenStr Try.underlying9 rfl) rfl) ?_
    refine DrawT.quiet 4 rfl rfl (fun W eW => OpOk.r (R.convI ((byteW (t.s.size : Int)).toNat : Int) Try.underlying3 Try.underlying5 rfl (wrap_u8 _)) rfl) ?_
    refine DrawT.quiet 7 rfl rfl (fun W eW => OpOk.r (R.fieldA Try.underlying62 rfl Try.sizeOf9 rfl rfl rfl) rfl) ?_
    have hp29 := (k3.cells.at 1 rfl)
    refine DrawT.pinL 8 rfl rfl Try.isAgg9 rfl hp29 ?_
    refine DrawT.one (n := 5) [8] rfl rfl rfl (by kernel_rfl) (OpC.plain (Eff.buildSl Try.underlying131 Try.sizeOf5 Try.zeroValue5 rfl rfl rfl rfl (by intro u hu; simp only [List.mem_cons, List.not_mem_nil, or_false] at hu; first | (subst hu; rfl) | (rcases hu with rfl | rfl <;> rfl) | (rcases hu with rfl | rfl | rfl <;> rfl))) rfl) ?_ ?_
    · rintro _ _ ⟨_, _, _, _, e, _⟩
      refine ⟨?_, ⟨e.cell hp29, trivial⟩⟩
      exact Chg.mono e (fun _ _ h => h.elim)
    rintro _ w26 ⟨b26, rfl, hb26, hs26, e26, k26⟩
    replace hp29 := e26.cell hp29
    replace k3 := k3.ext e26
    replace c0 := Chg.then c0 e26 (fun _ _ h => h.elim)
    replace o0 := o0.ext e26
    replace zb := Nat.le_trans zb (Chg.size e26)
    have zp27 := zb
    refine DrawT.one (n := 6) [8] rfl rfl rfl (by kernel_rfl) (OpC.plain (Eff.append (enc := encByte) (fun _ => rfl) one_byte Try.underlying131 info5 rfl rfl rfl rfl o0 (RSl.mk (enc := encByte) (xs := [byteW (t.s.size : Int)]) encByte_len k26.cells (fun i u hu => hu) (by simp) (by simp)) (by simp; omega) (by simp; omega) (by have := c0.size; omega)) rfl) ?_ ?_
    · rintro _ _ ⟨_, g, _⟩
      refine ⟨?_, ⟨g.cell hp29 nb20, trivial⟩⟩
      exact Chg.mono g (fun k _ h => n20 k h)
    rintro v27 w27 ⟨a27, g27, at27⟩
    replace hp29 := g27.cell hp29 nb20
    replace k3 := k3.chg g27 nb20
    replace c0 := Chg.then c0 g27 (fun j hj h => (n20 j h).resolve_right (by omega))
    replace zb := Nat.le_trans zb (Chg.size g27)
    clear o0; have o0 := a27; clear a27
    have n27 : Near (b3 + 1) v v27 := n20.step at27 zp27
    have nb27 : ¬ (v27.ownBlock = some b3) := fun hk => (n27 _ hk).elim nb (by omega)
    have zp30 := zb
    refine DrawT.one (n := 9) [] rfl rfl rfl (by kernel_rfl) (OpC.plain (Eff.appendStr Try.underlying131 Try.underlying9 info5 rfl rfl o0 (by have := len_bytes t.s; simp; omega) (by have := c0.size; omega)) rfl) ?_ ?_
    · rintro _ _ ⟨_, g, _⟩
      refine ⟨?_, trivial⟩
      exact Chg.mono g (fun k _ h => n27 k h)
    rintro v30 w30 ⟨a30, g30, at30⟩
    replace k3 := k3.chg g30 nb27
    replace c0 := Chg.then c0 g30 (fun j hj h => (n27 j h).resolve_right (by omega))
    replace zb := Nat.le_trans zb (Chg.size g30)
    clear o0; have o0 := a30; clear a30
    have n30 : Near (b3 + 1) v v30 := n27.step at30 zp30
    have nb30 : ¬ (v30.ownBlock = some b3) := fun hk => (n30 _ hk).elim nb (by omega)
    refine DrawT.quiet 10 rfl rfl (fun W eW => OpOk.r (R.assign rfl) rfl) ?_
    refine DrawT.fin rfl ?_
    show St _ _ _ _ _
    refine St.weak [(4, _)] ⟨rfl, trivial⟩ ?_
    refine St.then_n ?_
    refine St.go hK4 ?_
    clear hK4
    refine St.ret ?_
    refine St.ret1 Try.results135 rfl ?_
    refine ⟨_, rfl, ?_, n30.lower (by omega), c0⟩
    have := o0
    simpa [putB] using this
  intro K2 hK2
  refine St.seq fun K5 hK5 => ?_
  refine St.region ?_
  refine St.r (R.fieldA Try.underlying62 rfl Try.sizeOf9 rfl rfl rfl) rfl rfl ?_
  refine St.r (R.load1 Try.isAgg9 rfl (k3.cells.at 2 rfl)) rfl rfl ?_
  refine St.r (R.neS rfl rfl) rfl rfl ?_
  refine St.nil ?_
  refine St.weak [(0, _), (3, _), (5, _), (10, _)] ⟨rfl, rfl, rfl, rfl, trivial⟩ ?_
  refine St.then_n ?_
  refine St.go hK5 ?_
  clear hK5
  refine St.condD rfl (fun h10 => ?_) (fun h10 => ?_)
  ·
    refine St.region ?_
    refine St.r (R.move rfl) rfl rfl ?_
    refine St.r (R.add rfl rfl (by omega) (by omega)) rfl rfl ?_
    refine St.r (R.assign rfl) rfl rfl ?_
    refine St.nil ?_
    refine St.weak [(0, _), (3, _), (5, _)] ⟨rfl, rfl, rfl, trivial⟩ ?_
    refine St.then_n ?_
    refine St.meet hK2 () ⟨rfl, rfl, (look_eq rfl (congrArg (Value.int .i64) (by rw [kindC, if_neg h10]))), trivial⟩ ?_
    · exact ⟨k3, c0, o0, zb⟩
  ·
    refine St.skip ?_
    refine St.then_n ?_
    refine St.meet hK2 () ⟨rfl, rfl, (look_eq rfl (congrArg (Value.int .i64) (by rw [kindC, if_pos (by simpa using h10)]))), trivial⟩ ?_
    · exact ⟨k3, c0, o0, zb⟩


theorem putB_len {t : Term} (h : termErr t = none) : (putB t).length ≤ 28 := by
  have := term_ok h
  have := len_bytes t.lang
  have := len_bytes t.s
  simp [putB]; omega
theorem trip_ok {t : Triple} (h : tripErr t = none) : termErr t.s = none ∧ termErr t.p = none ∧ termErr t.o = none := by
  have h0 : firstE ((termsOf t).map termErr) = none := by
    unfold tripErr at h
    split at h
    · cases h
    · assumption
  have h1 := firstE_all h0
  exact ⟨h1 _ (by simp [termsOf]), h1 _ (by simp [termsOf]), h1 _ (by simp [termsOf])⟩
theorem tripB_len {t : Triple} (h : tripErr t = none) : (tripB t).length ≤ 84 := by
  have ⟨h1, h2, h3⟩ := trip_ok h
  have := putB_len h1; have := putB_len h2; have := putB_len h3
  simp [tripB]; omega
theorem flatB_len : ∀ {l : List Triple}, (∀ t ∈ l, tripErr t = none) → (l.flatMap tripB).length ≤ 84 * l.length
  | [], _ => by simp
  | t :: r, h => by
    have h1 := tripB_len (h t List.mem_cons_self)
    have h2 := flatB_len (l := r) (fun x hx => h x (List.mem_cons_of_mem _ hx))
    rw [List.flatMap_cons, List.length_append, List.length_cons]; omega
theorem putsB_len {l : List Triple} (h : ∀ t ∈ l, tripErr t = none) (hn : l.length ≤ 200) : (putsB l).length ≤ 20000 := by
  have := flatB_len h
  simp only [putsB, List.length_cons]; omega
theorem shr8 (n : Nat) : ((n : Int)).fdiv (2 ^ (min (8 : Int).toNat IntKind.i64.bits)) = ((n / 256 : Nat) : Int) := by
  rw [show (2 : Int) ^ (min (8 : Int).toNat IntKind.i64.bits) = 256 from rfl, Int.fdiv_eq_ediv_of_nonneg _ (by omega)]
  omega

set_option maxRecDepth 100000 in
theorem puts_ret {l : List Triple} {xs : List UInt8} {v u : Value} {base : Nat} (hall : ∀ t ∈ l, tripErr t = none) (hn : l.length ≤ 200) (w0 : World) (ho : Own encByte 1 base 5 w0 v xs) (hl : xs.length ≤ 1000000) (hb : base ≤ w0.heap.size) (hu : RTriples w0 u l) (hs : 0 < l.length → ∀ k, u.ownBlock = some k → ¬ v.ownBlock = some k) :
    Ret Try.prog 102 [v, u] w0 fun r w' => Own encByte 1 base 5 w' r (xs ++ putsB l) ∧ Near w0.heap.size v r ∧ Chg (fun k => v.ownBlock = some k) w0 w' := by
  obtain ⟨A, c, rfl, hc1, hc2⟩ := hu.form
  have c0 : Chg (fun k => v.ownBlock = some k) w0 w0 := Chg.refl _ _
  have o0 := ho
  have z0 := Nat.le_refl w0.heap.size
  refine St.enter (N := 35) Try.func102 rfl Try.ntmps102 rfl ?_
  refine St.seq fun K0 hK0 => ?_
  refine St.region ?_
  refine St.r (R.assign rfl) rfl rfl ?_
  refine St.nil ?_
  refine St.weak [(0, _), (1, _)] ⟨rfl, rfl, trivial⟩ ?_
  refine St.then_n ?_
  refine St.go hK0 ?_
  clear hK0
  refine St.seq fun K1 hK1 => ?_
  refine St.region ?_
  refine St.r (R.move rfl) rfl rfl ?_
  refine St.r (R.move rfl) rfl rfl ?_
  refine St.r (R.lenSl Try.underlying44 rfl) rfl rfl ?_
  refine St.r (R.shr ((l.length / 256 : Nat) : Int) rfl rfl (by omega) (shr8 _)) rfl rfl ?_
  refine St.r (R.convI ((byteW ((l.length / 256 : Nat) : Int)).toNat : Int) Try.underlying3 Try.underlying5 rfl (wrap_u8 _)) rfl rfl ?_
  refine St.r (R.move rfl) rfl rfl ?_
  refine St.r (R.lenSl Try.underlying44 rfl) rfl rfl ?_
  refine St.r (R.convI ((byteW (l.length : Int)).toNat : Int) Try.underlying3 Try.underlying5 rfl (wrap_u8 _)) rfl rfl ?_
  refine St.buildSl Try.underlying131 Try.sizeOf5 Try.zeroValue5 rfl rfl rfl rfl (by intro u hu; simp only [List.mem_cons, List.not_mem_nil, or_false] at hu; first | (subst hu; rfl) | (rcases hu with rfl | rfl <;> rfl) | (rcases hu with rfl | rfl | rfl <;> rfl) | (rcases hu with rfl | rfl | rfl | rfl <;> rfl)) rfl ?_
  intro w15 b15 hb15 hs15 e15 k15
  replace o0 := o0.ext e15
  replace c0 := Chg.then c0 e15 (fun _ _ h => h.elim)
  replace z0 := Nat.le_trans z0 (Chg.size e15)
  have zp16 := z0
  refine St.append (enc := encByte) (fun _ => rfl) one_byte Try.underlying131 info5 rfl rfl rfl rfl o0 (RSl.mk (enc := encByte) (xs := [byteW ((l.length / 256 : Nat) : Int), byteW (l.length : Int)]) encByte_len k15.cells (fun i u hu => hu) (by simp) (by simp)) (by simp; omega) (by simp; omega) (by omega) rfl ?_
  intro v16 w16 a16 g16 at16
  replace c0 := Chg.then c0 g16 (fun _ _ h => h)
  replace z0 := Nat.le_trans z0 (Chg.size g16)
  clear o0; have o0 := a16; clear a16
  have n16 : Near w0.heap.size v v16 := (Near.refl _ _).step at16 zp16
  refine St.r (R.assign rfl) rfl rfl ?_
  refine St.nil ?_
  refine St.weak [(0, _), (1, _)] ⟨rfl, rfl, trivial⟩ ?_
  refine St.then_n ?_
  refine St.go hK1 ?_
  clear hK1
  refine St.seq fun K2 hK2 => ?_
  refine St.seq fun K3 hK3 => ?_
  refine St.region ?_
  refine St.r (R.move rfl) rfl rfl ?_
  refine St.r (R.lenSl Try.underlying44 rfl) rfl rfl ?_
  refine St.r (R.move rfl) rfl rfl ?_
  refine St.nil ?_
  refine St.weak [(0, _), (17, _), (18, _), (19, _)] ⟨rfl, rfl, rfl, rfl, trivial⟩ ?_
  refine St.then_n ?_
  refine St.go hK3 ?_
  clear hK3
  refine St.block ?_
  refine St.loop (fun (x : Nat × Value) => match x with | (k, cur) => [(0, cur), (17, .slice A l.length c), (18, .int .i64 (l.length : Int)), (19, .int .i64 (k : Int))])
      (fun (x : Nat × Value) w => match x with | (k, cur) => k ≤ l.length ∧ Own encByte 1 base 5 w cur (xs ++ byteW ((l.length / 256 : Nat) : Int) :: byteW (l.length : Int) :: (l.take k).flatMap tripB) ∧ Near w0.heap.size v cur ∧ Chg (fun k => v.ownBlock = some k) w0 w ∧ w0.heap.size ≤ w.heap.size)
      (fun (x : Nat × Value) => match x with | (k, cur) => l.length - k) (0, v16) ⟨rfl, rfl, rfl, rfl, trivial⟩ ?_ ?_
  · exact ⟨Nat.zero_le _, by simpa using o0, n16, c0, z0⟩
  rintro ⟨k, cur⟩ w ⟨hk, o0, n0, c0, z0⟩
  show St _ _ [(0, cur), (17, .slice A l.length c), (18, .int .i64 (l.length : Int)), (19, .int .i64 (k : Int))] _ _
  refine St.seq fun K4 hK4 => ?_
  refine St.region ?_
  refine St.r (R.lss rfl rfl) rfl rfl ?_
  refine St.nil ?_
  refine St.weak [(0, _), (17, _), (18, _), (19, _), (20, _)] ⟨rfl, rfl, rfl, rfl, rfl, trivial⟩ ?_
  refine St.then_n ?_
  refine St.go hK4 ?_
  clear hK4
  refine St.seq fun K5 hK5 => ?_
  refine St.condD rfl (fun h20 => ?_) (fun h20 => ?_)
  ·
    obtain ⟨x, hx⟩ := get_of_lt (xs := l) (k := k) (by omega)
    obtain ⟨xb, xo, rfl, hxc⟩ := (hu.chg c0 hs).get' hx
    have hcur : ∀ k, cur.ownBlock = some k → k < w.heap.size := fun k hk => (o0.base hk).2
    have hzw := z0
    have hok := trip_ok (hall x (List.mem_of_getElem? hx))
    have hfl := flatB_len (l := l.take k) (fun y hy => hall y (List.mem_of_mem_take hy))
    have hp1 := putB_len hok.1
    have hp2 := putB_len hok.2.1
    have hp3 := putB_len hok.2.2
    rw [List.length_take, Nat.min_eq_left (by omega)] at hfl
    refine St.skip ?_
    refine St.then_n ?_
    refine St.go hK5 ?_
    clear hK5
    refine St.seq fun K6 hK6 => ?_
    refine St.block ?_
    refine St.seq fun K7 hK7 => ?_
    refine St.region ?_
    refine St.r (R.indexS k Try.underlying44 Try.sizeOf64 rfl rfl rfl (by omega)) rfl rfl ?_
    refine St.r (R.loadA Try.isAgg64 Try.sizeOf64 rfl hxc rfl) rfl rfl ?_
    refine St.alloc Try.zeroValue64 rfl ?_
    intro w6 b6 hb6 hs6 e6 k6
    replace o0 := o0.ext e6
    replace c0 := Chg.then c0 e6 (fun _ _ h => h.elim)
    replace z0 := Nat.le_trans z0 (Chg.size e6)
    have nb : ¬ (cur.ownBlock = some b6) := fun hk => by have := hcur _ hk; omega
    have z6 : b6 + 1 ≤ w6.heap.size := by omega
    refine St.store Try.sizeOf64 rfl rfl k6 rfl (by simp [Value.cells, encTriple, encTerm]) (one_triple x) ?_
    intro ws0 ks0 gs0 zs0
    replace o0 := o0.chg gs0 (fun k hk h => by have := hcur _ hk; omega)
    replace c0 := Chg.then c0 gs0 (fun j hj h => by omega)
    replace z0 := Nat.le_trans z0 (Chg.size gs0)
    clear k6; have k6 := ks0; clear ks0
    replace k6 : Blk ws0 b6 64 (encTriple x) := k6
    replace z6 := Nat.le_trans z6 (Chg.size gs0)
    refine St.nil ?_
    refine St.weak [(0, _), (6, _), (17, _), (18, _), (19, _)] ⟨rfl, rfl, rfl, rfl, rfl, trivial⟩ ?_
    refine St.then_n ?_
    refine St.go hK7 ?_
    clear hK7
    refine St.weak [(0, _), (6, _), (17, _), (18, _), (19, _)] ⟨rfl, rfl, rfl, rfl, rfl, trivial⟩ ?_
    refine St.drawTL (S := fun k => cur.ownBlock = some k ∨ b6 < k) (eff := [3, 6, 9]) mixed rfl rfl rfl rfl rfl rfl ?_
    replace o0 := o0.ext (Ext.drew _)
    replace c0 := Chg.then c0 (Ext.drew _) (fun _ _ h => h.elim)
    replace z0 := Nat.le_trans z0 (Chg.size (Ext.drew _))
    replace k6 := k6.ext (Ext.drew _)
    replace z6 : b6 + 1 ≤ ws0.drew.heap.size := z6
    refine DrawT.quiet 0 rfl rfl (fun W eW => OpOk.r (R.move rfl) rfl) ?_
    refine DrawT.quiet 1 rfl rfl (fun W eW => OpOk.r (R.fieldA Try.underlying64 rfl Try.sizeOf62 rfl rfl rfl) rfl) ?_
    have hp25 := (triple_s k6)
    refine DrawT.pinA 2 rfl rfl Try.isAgg62 Try.sizeOf62 rfl hp25 rfl ?_
    refine DrawT.quiet 4 rfl rfl (fun W eW => OpOk.r (R.fieldA Try.underlying64 rfl Try.sizeOf62 rfl rfl rfl) rfl) ?_
    have hp28 := (triple_p k6)
    refine DrawT.pinA 5 rfl rfl Try.isAgg62 Try.sizeOf62 rfl hp28 rfl ?_
    refine DrawT.quiet 7 rfl rfl (fun W eW => OpOk.r (R.fieldA Try.underlying64 rfl Try.sizeOf62 rfl rfl rfl) rfl) ?_
    have hp31 := (triple_o k6)
    refine DrawT.pinA 8 rfl rfl Try.isAgg62 Try.sizeOf62 rfl hp31 rfl ?_
    replace z0 := c0.size
    have zq26 := z0
    have zr26 := z6
    refine DrawT.one (n := 3) [8, 5] rfl rfl rfl (by kernel_rfl) (OpC.plain (Eff.call rfl rfl ent135 (put_ret hok.1 _ o0 (by simp only [List.length_append, List.length_cons]; omega) (by omega))) rfl) ?_ ?_
    · rintro r26 w26 ⟨o26, n26, g26⟩
      refine ⟨?_, ⟨g26.cells hp31 nb, g26.cells hp28 nb, trivial⟩⟩
      exact Chg.mono g26 fun k _ h => .inl h
    rintro r26 w26 ⟨o26, n26, g26⟩
    replace hp31 := g26.cells hp31 nb
    replace hp28 := g26.cells hp28 nb
    replace k6 := k6.chg g26 nb
    replace c0 := c0.then g26 (fun j hj h => (n0 j h).resolve_right (by omega))
    have zp26 := z0
    replace z0 := Nat.le_trans z0 (Chg.size g26)
    replace z6 := Nat.le_trans z6 (Chg.size g26)
    clear o0; have o0 := o26
    have m26 := n0.trans n26 zp26
    have nb26 : ¬ (r26.ownBlock = some b6) := fun hk => (n26 _ hk).elim nb (by omega)
    replace z0 := c0.size
    have zq29 := z0
    have zr29 := z6
    refine DrawT.one (n := 6) [8] rfl rfl rfl (by kernel_rfl) (OpC.plain (Eff.call rfl rfl ent135 (put_ret hok.2.1 _ o0 (by simp only [List.length_append, List.length_cons]; omega) (by omega))) rfl) ?_ ?_
    · rintro r29 w29 ⟨o29, n29, g29⟩
      refine ⟨?_, ⟨g29.cells hp31 nb26, trivial⟩⟩
      exact Chg.mono g29 fun k _ h => (n26 k h).imp id (fun h => by omega)
    rintro r29 w29 ⟨o29, n29, g29⟩
    replace hp31 := g29.cells hp31 nb26
    replace k6 := k6.chg g29 nb26
    replace c0 := c0.then g29 (fun j hj h => (m26 j h).resolve_right (by omega))
    have zp29 := z0
    replace z0 := Nat.le_trans z0 (Chg.size g29)
    replace z6 := Nat.le_trans z6 (Chg.size g29)
    clear o0; have o0 := o29
    have m29 := m26.trans n29 zp29
    have nb29 : ¬ (r29.ownBlock = some b6) := fun hk => (n29 _ hk).elim nb26 (by omega)
    replace z0 := c0.size
    have zq32 := z0
    have zr32 := z6
    refine DrawT.one (n := 9) [] rfl rfl rfl (by kernel_rfl) (OpC.plain (Eff.call rfl rfl ent135 (put_ret hok.2.2 _ o0 (by simp only [List.length_append, List.length_cons]; omega) (by omega))) rfl) ?_ ?_
    · rintro r32 w32 ⟨o32, n32, g32⟩
      refine ⟨?_, trivial⟩
      exact Chg.mono g32 fun k _ h => (n29 k h).elim (fun h => (n26 k h).imp id (fun h => by omega)) (fun h => .inr (by omega))
    rintro r32 w32 ⟨o32, n32, g32⟩
    replace k6 := k6.chg g32 nb29
    replace c0 := c0.then g32 (fun j hj h => (m29 j h).resolve_right (by omega))
    have zp32 := z0
    replace z0 := Nat.le_trans z0 (Chg.size g32)
    replace z6 := Nat.le_trans z6 (Chg.size g32)
    clear o0; have o0 := o32
    have m32 := m29.trans n32 zp32
    have nb32 : ¬ (r32.ownBlock = some b6) := fun hk => (n32 _ hk).elim nb29 (by omega)
    refine DrawT.fin rfl ?_
    show St _ _ _ _ _
    refine St.last rfl rfl ?_
    refine St.weak [(0, _), (17, _), (18, _), (19, _)] ⟨rfl, rfl, rfl, rfl, trivial⟩ ?_
    refine St.in_n ?_
    refine St.then_n ?_
    refine St.go hK6 ?_
    clear hK6
    refine St.region ?_
    refine St.r (R.add rfl rfl (by omega) (by omega)) rfl rfl ?_
    refine St.r (R.move rfl) rfl rfl ?_
    refine St.nil ?_
    refine St.weak [(0, _), (17, _), (18, _), (19, _)] ⟨rfl, rfl, rfl, rfl, trivial⟩ ?_
    refine St.then_n ?_
    refine St.round (k + 1, r32) ⟨rfl, rfl, rfl, rfl, trivial⟩ ?_ ?_
    · try dsimp only
      refine ⟨by omega, ?_, m32, c0, z0⟩
      rw [take_snoc hx, List.flatMap_append]
      simpa [tripB] using o0
    · try dsimp only
      omega
  ·
    refine St.exit ?_
    refine St.then_x ?_
    refine St.then_x ?_
    refine St.in_x ?_
    refine St.then_n ?_
    refine St.go hK2 ?_
    clear hK2
    refine St.seq fun K8 hK8 => ?_
    refine St.region ?_
    refine St.r (R.move rfl) rfl rfl ?_
    refine St.r (R.assign rfl) rfl rfl ?_
    refine St.nil ?_
    refine St.weak [(4, _)] ⟨rfl, trivial⟩ ?_
    refine St.then_n ?_
    refine St.go hK8 ?_
    clear hK8
    refine St.ret ?_
    refine St.ret1 Try.results102 rfl ?_
    refine ⟨_, rfl, ?_, n0, c0⟩
    rw [List.take_of_length_le (by omega)] at o0
    exact o0


theorem lay_right {p q : List Triple} (h : layerErr p q = none) : IsSet p ∧ IsSet q := by
  have hr : rightErr [p, q] = none := by
    unfold layerErr at h
    split at h
    · cases h
    · assumption
  exact ⟨right_set hr (by simp), right_set hr (by simp)⟩

set_option maxRecDepth 100000 in
theorem codeLayer_ret {p q : List Triple} {A B : Option Addr} {n m c d : Nat} (w0 : World) (hv : RTriples w0 (.slice A n c) p) (hu : RTriples w0 (.slice B m d) q) :
    Ret Try.prog 75 [.agg #[.slice A n c, .slice B m d]] w0 fun r w' => r = .tuple #[.string (if layerErr p q = none then codeL p q else ⟨#[]⟩), errV 91 (layerErr p q)] ∧ Ext w0 w' := by
  have E : Ext w0 w0 := Ext.refl w0
  refine St.enter (N := 17) Try.func75 rfl Try.ntmps75 rfl ?_
  refine St.seq fun K0 hK0 => ?_
  refine St.region ?_
  refine St.box rfl rfl ?_
  intro w1 b1 hb1 hs1 e1 k1
  have qE1 := E.size
  replace E := Ext.trans E e1
  refine St.r (R.assign rfl) rfl rfl ?_
  refine St.r (R.assign rfl) rfl rfl ?_
  refine St.nil ?_
  refine St.weak [(1, _)] ⟨rfl, trivial⟩ ?_
  refine St.then_n ?_
  refine St.go hK0 ?_
  clear hK0
  refine St.seq fun K1 hK1 => ?_
  refine St.seq fun K2 hK2 => ?_
  refine St.region ?_
  refine St.r (R.loadA Try.isAgg136 Try.sizeOf136 rfl k1.cells rfl) rfl rfl ?_
  refine St.call rfl rfl ent101 (layCheck_ret _ (hv.ext (REnc.firm _) E) (hu.ext (REnc.firm _) E)) rfl ?_
  rintro r6 w6 ⟨rfl, e6⟩
  replace E := Ext.trans E e6
  replace k1 := k1.ext e6
  refine St.r (R.assign rfl) rfl rfl ?_
  refine St.nil ?_
  refine St.weak [(1, _), (4, _)] ⟨rfl, rfl, trivial⟩ ?_
  refine St.then_n ?_
  refine St.go hK2 ?_
  clear hK2
  refine St.seq fun K3 hK3 => ?_
  refine St.region ?_
  refine St.r (R.move rfl) rfl rfl ?_
  refine St.r (R.notNil (et := 91) (e := _) Try.underlying27 rfl) rfl rfl ?_
  refine St.nil ?_
  refine St.weak [(1, _), (4, _), (8, _)] ⟨rfl, rfl, rfl, trivial⟩ ?_
  refine St.then_n ?_
  refine St.go hK3 ?_
  clear hK3
  refine St.cond rfl (fun h8 => ?_) (fun h8 => ?_)
  ·
    have hne : ¬ layerErr p q = none := fun h => by rw [h] at h8; cases h8
    refine St.seq fun K4 hK4 => ?_
    refine St.region ?_
    refine St.r (R.move rfl) rfl rfl ?_
    refine St.r (R.assign rfl) rfl rfl ?_
    refine St.r (R.assign rfl) rfl rfl ?_
    refine St.nil ?_
    refine St.weak [(2, _), (3, _)] ⟨rfl, rfl, trivial⟩ ?_
    refine St.then_n ?_
    refine St.go hK4 ?_
    clear hK4
    refine St.ret ?_
    refine St.then_r ?_
    refine St.ret2 Try.results75 rfl rfl ?_
    exact ⟨_, rfl, by rw [if_neg hne], E⟩
  ·
    have hok := isSome_false h8
    have hpq := lay_right hok
    have hpl := hpq.1.few
    have hql := hpq.2.few
    have hpb := putsB_len hpq.1.ok hpl
    refine St.skip ?_
    refine St.then_n ?_
    refine St.go hK1 ?_
    clear hK1
    refine St.seq fun K5 hK5 => ?_
    refine St.weak [(1, _)] ⟨rfl, trivial⟩ ?_
    refine St.drawT (S := fun k => w6.heap.size ≤ k) (eff := [2, 5]) mixed rfl rfl rfl rfl ?_
    replace E := Ext.trans E (Ext.drew _)
    replace k1 := k1.ext (Ext.drew _)
    refine DrawT.quiet 0 rfl rfl (fun W eW => OpOk.r (R.fieldA Try.underlying136 rfl Try.sizeOf44 rfl rfl rfl) rfl) ?_
    have hp11 := (k1.cells.at 0 rfl)
    refine DrawT.pinL 1 rfl rfl Try.isAgg44 rfl hp11 ?_
    refine DrawT.quiet 3 rfl rfl (fun W eW => OpOk.r (R.fieldA Try.underlying136 rfl Try.sizeOf44 rfl rfl rfl) rfl) ?_
    have hp14 := (k1.cells.at 1 rfl)
    refine DrawT.pinL 4 rfl rfl Try.isAgg44 rfl hp14 ?_
    have zq : w6.heap.size ≤ w6.drew.heap.size := Nat.le_refl _
    refine DrawT.one (n := 2) [4] rfl rfl rfl (by kernel_rfl) (OpC.plain (Eff.call rfl rfl ent102 (puts_ret hpq.1.ok hpl _ (Own.nil encByte 1 w6.heap.size 5 _) (by simp) zq (hv.ext (REnc.firm _) E) (fun _ k _ h => by cases h))) rfl) ?_ ?_
    · rintro r12 w12 ⟨o12, n12, g12⟩
      refine ⟨?_, ⟨g12.cell hp14 (fun h => by cases h), trivial⟩⟩
      exact Chg.mono g12 fun _ _ h => by cases h
    rintro r12 w12 ⟨o12, n12, g12⟩
    replace hp14 := g12.cell hp14 (fun h => by cases h)
    have e12 : Ext w6.drew w12 := Chg.mono g12 fun _ _ h => by cases h
    have EU := E
    replace E := E.trans e12
    have zE := e12.size
    have nn : ∀ k, r12.ownBlock = some k → w6.drew.heap.size ≤ k := fun k hk => (n12 k hk).elim (fun h => by cases h) id
    refine DrawT.one (n := 5) [] rfl rfl rfl (by kernel_rfl) (OpC.plain (Eff.call rfl rfl ent102 (puts_ret hpq.2.ok hql _ o12 (by simp only [List.nil_append]; omega) (by omega) (hu.ext (REnc.firm _) E) (fun h0 k hk hk2 => by have := (hu.ext (REnc.firm _) EU).lt (fun x => by rw [encTriple_len]; omega) h0 hk; have := nn k hk2; omega))) rfl) ?_ ?_
    · rintro r15 w15 ⟨o15, n15, g15⟩
      refine ⟨?_, trivial⟩
      exact Chg.mono g15 fun k _ h => by have := nn k h; omega
    rintro r15 w15 ⟨o15, n15, g15⟩
    replace E := Ext.then E g15 (fun j hj h => by have := nn j h; have := EU.size; omega)
    have hp16 := (o15.reads encByte_len)
    refine DrawT.pin 6 rfl rfl (φ := fun w1 => RBytes w1 _ _) (fun W hW => OpOk.r (R.strOf Try.underlying131 Try.underlying5 Try.underlying9 rfl hW) rfl) hp16 ?_
    refine DrawT.quiet 7 rfl rfl (fun W eW => OpOk.r (R.assign rfl) rfl) ?_
    refine DrawT.quiet 8 rfl rfl (fun W eW => OpOk.r (R.assign rfl) rfl) ?_
    refine DrawT.fin rfl ?_
    show St _ _ _ _ _
    refine St.weak [(2, _), (3, _)] ⟨rfl, rfl, trivial⟩ ?_
    refine St.then_n ?_
    refine St.go hK5 ?_
    clear hK5
    refine St.ret ?_
    refine St.ret2 Try.results75 rfl rfl ?_
    exact ⟨_, rfl, by rw [if_pos hok, hok, List.nil_append]; rfl, E⟩

end Go.Proofs.Ytjgcmpondbocfaa

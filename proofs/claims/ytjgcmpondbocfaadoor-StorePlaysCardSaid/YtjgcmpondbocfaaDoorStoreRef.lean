/- The reference's store beside the program's: the same numbers, the same texts, in the same order. In plain Lean, and how it lies in memory. No condition. -/
import Derived.Test.YtjgcmpondbocfaaDoorStore
import Derived.Test.YtjgcmpondbocfaaDoorSeq
import Derived.Test.YtjgcmpondbocfaaDoorTermPure
namespace Go.Proofs.YtjgcmpondbocfaaDoor
open Go.RowKit

def Asc (s : Sto) : Prop := s.all.Pairwise fun p q => p.1 < q.1
theorem Asc.empty : Asc Sto.empty := List.Pairwise.nil
theorem Asc.put {s : Sto} (h : Asc s) (hok : s.Ok) (b : ByteArray) : Asc (putS s b).2.2 := by
  unfold putS
  split
  · exact h
  · split
    · show (putM s.all (s.last + 1) b).Pairwise _
      have hn : getM s.all (s.last + 1) = none := by
        cases hc : getM s.all (s.last + 1) with
        | none => rfl
        | some c => have := (hok.nums _ _ hc).2; omega
      rw [putM_new hn, List.pairwise_append]
      refine ⟨h, by simp, fun p hp q hq => ?_⟩
      rw [List.mem_singleton] at hq; subst hq
      have := (hok.nums p.1 p.2 (getM_mem hok.allKeys hp)).2
      show p.1 < s.last + 1
      omega
    · exact h
theorem Asc.keep {s : Sto} (h : Asc s) (xs : List Int) : Asc (keepS s xs).2.2 := by
  unfold keepS
  split
  · exact List.Pairwise.sublist List.filter_sublist h
  · exact h
theorem sortI_le (xs : List Int) : (sortI xs).Pairwise (fun x y => x ≤ y) := by
  have h := List.pairwise_mergeSort (le := fun x y : Int => decide (x ≤ y)) (fun a b c h1 h2 => decide_eq_true (Int.le_trans (of_decide_eq_true h1) (of_decide_eq_true h2))) (fun a b => by
    rcases Int.le_total a b with h | h <;> simp [h]) xs
  exact List.Pairwise.imp (fun {a b} h => of_decide_eq_true h) h
theorem sortI_eq {ks l : List Int} (hp : ks.Perm l) (hl : l.Pairwise (fun x y => x < y)) : sortI ks = l := by
  have hperm : (sortI ks).Perm l := (sortI_perm ks).trans hp
  have hn : l.Nodup := List.Pairwise.imp (fun {a b} h e => by omega) hl
  have hn2 : (sortI ks).Nodup := hperm.nodup_iff.2 hn
  have h1 : Rises cmpI (sortI ks) := List.Pairwise.imp₂ (fun a b h1 h2 => cmpI_lt.2 (by omega)) (sortI_le ks) hn2
  exact Rises.eq cmpI_is h1 (List.Pairwise.imp (fun {a b} h => cmpI_lt.2 h) hl) (fun x => hperm.mem_iff)
theorem ids_sorted {s : Sto} (h : Asc s) {ks : List Int} (hp : ks.Perm (s.all.map (·.1))) : sortI ks = s.all.map (·.1) :=
  sortI_eq hp (List.pairwise_map.2 h)

/-! ### what is looked up, one by one -/
theorem find_at {s : Sto} (hok : s.Ok) {k : Nat} {x : Int × ByteArray} (hx : s.all[k]? = some x) : getM s.ids x.2 = some x.1 := (hok.there x.2 x.1).2 (getM_at hok.allKeys hx)
theorem find_none {s : Sto} (hok : s.Ok) {b : ByteArray} (h : ∀ p ∈ s.all, ¬ p.2 = b) : getM s.ids b = none := by
  cases hc : getM s.ids b with
  | none => rfl
  | some n => exact absurd rfl (h (n, b) (getM_some ((hok.there b n).1 hc)))
theorem all_none {s : Sto} {n : Int} (h : ∀ p ∈ s.all, ¬ p.1 = n) : getM s.all n = none := getM_none.2 h
theorem sum_take {ms : List (Int × ByteArray)} {k : Nat} {x : Int × ByteArray} (hx : ms[k]? = some x) : sumL (ms.take (k + 1)) = sumL (ms.take k) + (x.2.size : Int) := by
  rw [take_snoc hx, sumL_append]; simp [sumL]
theorem sum_take_le (ms : List (Int × ByteArray)) (k : Nat) : sumL (ms.take k) ≤ sumL ms := by
  have h : sumL ms = sumL (ms.take k) + sumL (ms.drop k) := by rw [← sumL_append, List.take_append_drop]
  have := sumL_nonneg (ms.drop k)
  omega
/-- The reference's word on room. -/
theorem put_full {s : Sto} (hok : s.Ok) {b : ByteArray} (hf : getM s.ids b = none) (h : 300 ≤ (s.all.length : Int) ∨ 60000 < (b.size : Int) + sumL s.all) : putS s b = (0, some 4, s) := by
  have hr : roomB s b = false := by
    unfold roomB roomN roomL
    rw [hf, Option.getD_none, if_pos rfl, if_pos rfl, hok.sum]
    rcases h with h | h
    · rw [decide_eq_false (by omega)]; rfl
    · rw [decide_eq_false (p := sumL s.all + (b.size : Int) ≤ 60000) (by omega), Bool.and_false]
  unfold putS
  rw [hf, Option.getD_none, if_neg (by omega), hr, if_neg (by simp)]
theorem put_room {s : Sto} (hok : s.Ok) {b : ByteArray} (hf : getM s.ids b = none) (h1 : ¬ 300 ≤ (s.all.length : Int)) (h2 : ¬ 60000 < (b.size : Int) + sumL s.all) :
    putS s b = (s.last + 1, none, ⟨s.last + 1, s.bytes + (b.size : Int), putM s.ids b (s.last + 1), s.all ++ [(s.last + 1, b)]⟩) := by
  have hr : roomB s b = true := by
    unfold roomB roomN roomL
    rw [hf, Option.getD_none, if_pos rfl, if_pos rfl, hok.sum, decide_eq_true (by omega), decide_eq_true (by omega)]; rfl
  have hn : getM s.all (s.last + 1) = none := by
    cases hc : getM s.all (s.last + 1) with
    | none => rfl
    | some c => have := (hok.nums _ _ hc).2; omega
  unfold putS
  rw [hf, Option.getD_none, if_neg (by omega), hr, if_pos rfl, putM_new hn]
theorem put_there {s : Sto} (hok : s.Ok) {b : ByteArray} {n : Int} (hf : getM s.ids b = some n) : putS s b = (n, none, s) := putS_old hf (hok.pos hf).1
theorem keep_no {s : Sto} {xs : List Int} {n : Int} (hn : n ∈ xs) (h : getM s.all n = none) : keepS s xs = (0, some 5, s) := by
  unfold keepS
  rw [if_neg]
  intro hc
  have := List.all_eq_true.1 hc n hn
  rw [h] at this; cases this
def stays (xs : List Int) (p : Int × ByteArray) : Bool := xs.any fun x => decide (x = p.1)
theorem stays_gone (xs : List Int) (p : Int × ByteArray) : stays xs p = !goneP xs p := by
  unfold stays goneP inL
  rw [Bool.not_not]
  congr 1
  funext x
  by_cases h : x = p.1
  · simp [h]
  · rw [decide_eq_false h, decide_eq_false (fun e => h e.symm)]
theorem keep_yes {s : Sto} {xs : List Int} (h : ∀ n ∈ xs, (getM s.all n).isSome = true) : (keepS s xs).1 = (s.all.length : Int) - ((s.all.filter (stays xs)).length : Int) ∧ (keepS s xs).2.1 = none ∧ (keepS s xs).2.2.last = s.last ∧ (keepS s xs).2.2.all = s.all.filter (stays xs) := by
  have e : s.all.filter (stays xs) = s.all.filter fun p => !goneP xs p := by
    congr 1
    funext p; exact stays_gone xs p
  unfold keepS
  rw [if_pos (List.all_eq_true.2 h), e]
  exact ⟨rfl, rfl, rfl, rfl⟩

/-! ### in memory -/
def encObj (p : Int × ByteArray) : List Value := [.int .i64 p.1, .string p.2]
theorem encObj_len (p : Int × ByteArray) : (encObj p).length = 2 := rfl
theorem one_obj (p : Int × ByteArray) : ∀ u ∈ encObj p, u.oneCell' = true := by
  intro u hu; simp only [encObj, List.mem_cons, List.not_mem_nil, or_false] at hu
  rcases hu with rfl | rfl <;> rfl
/-- The reference's store: its struct's block, its row of objects. -/
structure RefB (t te : TypeId) (w : World) (m base : Nat) (last : Int) (v : Value) (all : List (Int × ByteArray)) : Prop where
  blk : Blk w m t [.int .i64 last, v]
  own : Own encObj 2 base te w v all
  low : m < base
section
variable {t te : TypeId} {w : World} {m base : Nat} {last : Int} {v : Value} {all : List (Int × ByteArray)}
theorem RefB.ext {w' : World} (h : RefB t te w m base last v all) (c : Ext w w') : RefB t te w' m base last v all := ⟨h.blk.ext c, h.own.ext c, h.low⟩
theorem RefB.chg {S : Nat → Prop} {w' : World} (h : RefB t te w m base last v all) (c : Chg S w w') (hs : ∀ k, S k → k < base ∧ k ≠ m) : RefB t te w' m base last v all :=
  ⟨h.blk.chg c (fun h1 => (hs _ h1).2 rfl), h.own.chg c (fun k hk h1 => by have := (h.own.base hk).1; have := (hs _ h1).1; omega), h.low⟩
theorem RefB.chg2 {S : Nat → Prop} {w' : World} (h : RefB t te w m base last v all) (c : Chg S w w') (h1 : ¬ S m) (h2 : ∀ k, base ≤ k → ¬ S k) : RefB t te w' m base last v all :=
  ⟨h.blk.chg c h1, h.own.chg c (fun k hk => h2 k (h.own.base hk).1), h.low⟩
end
/-- A list of lists. -/
def RIL : World → List Value → List Int → Prop := fun w cs xs => ∃ v, cs = [v] ∧ RInts w v xs
theorem RIL.firm : Firm RIL := fun _ _ _ _ e ⟨v, h1, h2⟩ => ⟨v, h1, h2.ext (REnc.firm _) e⟩
theorem RSl.getL {w : World} {A : Option Addr} {n c : Nat} {xss : List (List Int)} (h : RSl RIL 1 w (.slice A n c) xss) {k : Nat} {xs : List Int} (hx : xss[k]? = some xs) :
    ∃ b o v, A = some ⟨b, o, none⟩ ∧ w.cell? ⟨b, o + k * 1, none⟩ = some v ∧ RInts w v xs := by
  obtain ⟨A', c', hv, _, _, h3⟩ := h
  obtain ⟨b, o, hA, hc⟩ := h3 (by have := lt_of_get hx; omega)
  injection hv with e1 _ _
  subst e1
  obtain ⟨cs, _, g2, v, rfl, g3⟩ := hc k xs hx
  exact ⟨b, o, v, hA, g2.at 0 rfl, g3⟩
end Go.Proofs.YtjgcmpondbocfaaDoor

/- slices.Sort at []int: the same numbers, rising. No condition. -/
import Derived.Test.YtjgcmpondbocfaaDoorProg
import Derived.Test.YtjgcmpondbocfaaDoorSeq
import Derived.Shelf.SortM.Plain
import Derived.Shelf.SortM.SortNone
import Derived.Lib.SlKeysI
namespace Go.Proofs.YtjgcmpondbocfaaDoor
open Go.RowKit Go.Shelf Go.Sort
def sortA_ren : Go.Shelf.Ren := ⟨fun | 5 => 63 | 8 => 84 | 7 => 83 | 19 => 108 | 20 => 109 | 10 => 99 | 11 => 100 | 12 => 101 | 13 => 102 | 14 => 103 | 15 => 104 | 16 => 105 | 17 => 106 | 18 => 107 | 30 => 121 | 31 => 122 | 32 => 123 | 33 => 124 | 34 => 125 | 35 => 119 | 40 => 130 | n => n, fun | 23 => 30 | 25 => 3 | 3 => 3 | 32 => 149 | 22 => 30 | 0 => 0 | 44 => 188 | 46 => 190 | 4 => 4 | 36 => 181 | 35 => 180 | 41 => 163 | 5 => 5 | 9 => 9 | 53 => 195 | 57 => 199 | 63 => 204 | 64 => 23 | n => n, fun | n => n⟩
theorem sortA : Go.Proofs.SlLaysM.n5 Tryd.prog sortA_ren := {
  mixed := by kernel_rfl
  f5 := ⟨Tryd.f63.name, by decide, Tryd.func63.trans (congrArg some (by kernel_rfl))⟩
  f7 := ⟨Tryd.f83.name, by decide, Tryd.func83.trans (congrArg some (by kernel_rfl))⟩
  f8 := Tryd.func84.trans (congrArg some (by kernel_rfl))
  f10 := ⟨Tryd.f99.name, by decide, Tryd.func99.trans (congrArg some (by kernel_rfl))⟩
  f11 := ⟨Tryd.f100.name, by decide, Tryd.func100.trans (congrArg some (by kernel_rfl))⟩
  f12 := ⟨Tryd.f101.name, by decide, Tryd.func101.trans (congrArg some (by kernel_rfl))⟩
  f13 := ⟨Tryd.f102.name, by decide, Tryd.func102.trans (congrArg some (by kernel_rfl))⟩
  f14 := ⟨Tryd.f103.name, by decide, Tryd.func103.trans (congrArg some (by kernel_rfl))⟩
  f15 := ⟨Tryd.f104.name, by decide, Tryd.func104.trans (congrArg some (by kernel_rfl))⟩
  f16 := ⟨Tryd.f105.name, by decide, Tryd.func105.trans (congrArg some (by kernel_rfl))⟩
  f17 := ⟨Tryd.f106.name, by decide, Tryd.func106.trans (congrArg some (by kernel_rfl))⟩
  f18 := ⟨Tryd.f107.name, by decide, Tryd.func107.trans (congrArg some (by kernel_rfl))⟩
  f19 := Tryd.func108.trans (congrArg some (by kernel_rfl))
  f20 := Tryd.func109.trans (congrArg some (by kernel_rfl))
  f30 := ⟨Tryd.f121.name, by decide, Tryd.func121.trans (congrArg some (by kernel_rfl))⟩
  f31 := Tryd.func122.trans (congrArg some (by kernel_rfl))
  f32 := Tryd.func123.trans (congrArg some (by kernel_rfl))
  f33 := ⟨Tryd.f124.name, by decide, Tryd.func124.trans (congrArg some (by kernel_rfl))⟩
  f34 := ⟨Tryd.f125.name, by decide, Tryd.func125.trans (congrArg some (by kernel_rfl))⟩
  f35 := ⟨Tryd.f119.name, by decide, Tryd.func119.trans (congrArg some (by kernel_rfl))⟩
  f40 := ⟨Tryd.f130.name, by decide, Tryd.func130.trans (congrArg some (by kernel_rfl))⟩
  t0 := Tryd.underlying0
  a0 := Tryd.isAgg0
  z0 := Tryd.sizeOf0
  v0 := Tryd.zeroValue0
  t3 := Tryd.underlying3
  a3 := Tryd.isAgg3
  z3 := Tryd.sizeOf3
  v3 := Tryd.zeroValue3
  t4 := Tryd.underlying4
  a4 := Tryd.isAgg4
  z4 := Tryd.sizeOf4
  v4 := Tryd.zeroValue4
  t5 := Tryd.underlying5
  a5 := Tryd.isAgg5
  z5 := Tryd.sizeOf5
  v5 := Tryd.zeroValue5
  t9 := Tryd.underlying9
  a9 := Tryd.isAgg9
  z9 := Tryd.sizeOf9
  v9 := Tryd.zeroValue9
  t22 := Tryd.underlying30
  a22 := Tryd.isAgg30
  z22 := Tryd.sizeOf30
  v22 := Tryd.zeroValue30
  t23 := Tryd.underlying30
  a23 := Tryd.isAgg30
  z23 := Tryd.sizeOf30
  v23 := Tryd.zeroValue30
  t25 := Tryd.underlying3
  a25 := Tryd.isAgg3
  z25 := Tryd.sizeOf3
  v25 := Tryd.zeroValue3
  t32 := Tryd.underlying149
  a32 := Tryd.isAgg149
  z32 := Tryd.sizeOf149
  v32 := Tryd.zeroValue149
  t35 := Tryd.underlying180
  a35 := Tryd.isAgg180
  z35 := Tryd.sizeOf180
  v35 := Tryd.zeroValue180
  t36 := Tryd.underlying181
  a36 := Tryd.isAgg181
  z36 := Tryd.sizeOf181
  v36 := Tryd.zeroValue181
  t41 := Tryd.underlying163
  a41 := Tryd.isAgg163
  z41 := Tryd.sizeOf163
  v41 := Tryd.zeroValue163
  t44 := Tryd.underlying188
  a44 := Tryd.isAgg188
  z44 := Tryd.sizeOf188
  v44 := Tryd.zeroValue188
  t46 := Tryd.underlying190
  a46 := Tryd.isAgg190
  z46 := Tryd.sizeOf190
  v46 := Tryd.zeroValue190
  t53 := Tryd.underlying195
  a53 := Tryd.isAgg195
  z53 := Tryd.sizeOf195
  v53 := Tryd.zeroValue195
  t57 := Tryd.underlying199
  a57 := Tryd.isAgg199
  z57 := Tryd.sizeOf199
  v57 := Tryd.zeroValue199
  t63 := Tryd.underlying204
  a63 := Tryd.isAgg204
  z63 := Tryd.sizeOf204
  v63 := Tryd.zeroValue204
  t64 := Tryd.underlying23
  a64 := Tryd.isAgg23
  z64 := Tryd.sizeOf23
  v64 := Tryd.zeroValue23 }

theorem flat_int (xs : List Int) : xs.flatMap encInt = xs.map encZ := by
  induction xs with
  | nil => rfl
  | cons x xs ih => rw [List.flatMap_cons, List.map_cons, ih]; rfl
theorem sortInts : SortC Tryd.prog 63 3 := by
  intro xs v base w0 hlen ho
  have ho' := ho
  unfold Own at ho'
  rw [flat_int] at ho'
  rcases ho'.2 with ⟨rfl, h0⟩ | ⟨g, cap, cur, rfl, hb, hg, h1, h2, h3, h4⟩
  · have hx : xs = [] := List.eq_nil_of_length_eq_zero h0
    subst hx
    refine Calls.mono (AnyM.slices_Sort_int_none sortA none 0 w0) ?_
    rintro e w' ⟨rfl, rfl⟩
    refine ⟨_, rfl, rfl, ?_, Chg.refl _ _⟩
    have : sortI [] = [] := by simp [sortI]
    rw [this]; exact ho
  · refine Calls.mono (AnyM.slices_Sort_int sortA g 0 cap xs w0 (holds_of_block_i hg (by simpa using h4)) (Array.getElem?_eq_some_iff.1 hg).1 (by omega)) ?_
    rintro e w' ⟨rfl, n, os, rfl⟩
    refine ⟨_, rfl, rfl, ?_, (Chg.of_grown (grownBy_sorted_i _)).mono (fun k _ h => h.symm)⟩
    have := ownsRow_sorted_i (n := n) (os := os) (ss := xs) (ts := sortI xs) (by simp [sortI]) hb hg h1 h2 h3
    unfold Own
    rw [flat_int, (sortI_perm xs).length_eq]
    exact this

end Go.Proofs.YtjgcmpondbocfaaDoor

/- slices.Sort at []int: the same numbers, rising. No condition. -/
import Derived.Test.YtjgcmpondbocfaaProg
import Derived.Test.YtjgcmpondbocfaaSeq
import Derived.Shelf.SortM.Plain
import Derived.Shelf.SortM.SortNone
import Derived.Lib.SlKeysI
namespace Go.Proofs.Ytjgcmpondbocfaa
open Go.RowKit Go.Shelf Go.Sort
def sortA_ren : Go.Shelf.Ren := ⟨fun | 5 => 79 | 8 => 86 | 7 => 105 | 19 => 122 | 20 => 123 | 10 => 138 | 11 => 139 | 12 => 140 | 13 => 141 | 14 => 142 | 15 => 143 | 16 => 144 | 17 => 145 | 18 => 146 | 30 => 159 | 31 => 153 | 32 => 154 | 33 => 160 | 34 => 161 | 35 => 124 | 40 => 164 | n => n, fun | 23 => 23 | 25 => 3 | 3 => 3 | 32 => 149 | 22 => 23 | 0 => 0 | 44 => 182 | 46 => 184 | 4 => 4 | 36 => 176 | 35 => 175 | 41 => 92 | 5 => 5 | 9 => 9 | 53 => 200 | 57 => 204 | 63 => 210 | 64 => 211 | n => n, fun | n => n⟩
theorem sortA : Go.Proofs.SlLaysM.n5 Try.prog sortA_ren := {
  mixed := by kernel_rfl
  f5 := ⟨Try.f79.name, by decide, Try.func79.trans (congrArg some (by kernel_rfl))⟩
  f7 := ⟨Try.f105.name, by decide, Try.func105.trans (congrArg some (by kernel_rfl))⟩
  f8 := Try.func86.trans (congrArg some (by kernel_rfl))
  f10 := ⟨Try.f138.name, by decide, Try.func138.trans (congrArg some (by kernel_rfl))⟩
  f11 := ⟨Try.f139.name, by decide, Try.func139.trans (congrArg some (by kernel_rfl))⟩
  f12 := ⟨Try.f140.name, by decide, Try.func140.trans (congrArg some (by kernel_rfl))⟩
  f13 := ⟨Try.f141.name, by decide, Try.func141.trans (congrArg some (by kernel_rfl))⟩
  f14 := ⟨Try.f142.name, by decide, Try.func142.trans (congrArg some (by kernel_rfl))⟩
  f15 := ⟨Try.f143.name, by decide, Try.func143.trans (congrArg some (by kernel_rfl))⟩
  f16 := ⟨Try.f144.name, by decide, Try.func144.trans (congrArg some (by kernel_rfl))⟩
  f17 := ⟨Try.f145.name, by decide, Try.func145.trans (congrArg some (by kernel_rfl))⟩
  f18 := ⟨Try.f146.name, by decide, Try.func146.trans (congrArg some (by kernel_rfl))⟩
  f19 := Try.func122.trans (congrArg some (by kernel_rfl))
  f20 := Try.func123.trans (congrArg some (by kernel_rfl))
  f30 := ⟨Try.f159.name, by decide, Try.func159.trans (congrArg some (by kernel_rfl))⟩
  f31 := Try.func153.trans (congrArg some (by kernel_rfl))
  f32 := Try.func154.trans (congrArg some (by kernel_rfl))
  f33 := ⟨Try.f160.name, by decide, Try.func160.trans (congrArg some (by kernel_rfl))⟩
  f34 := ⟨Try.f161.name, by decide, Try.func161.trans (congrArg some (by kernel_rfl))⟩
  f35 := ⟨Try.f124.name, by decide, Try.func124.trans (congrArg some (by kernel_rfl))⟩
  f40 := ⟨Try.f164.name, by decide, Try.func164.trans (congrArg some (by kernel_rfl))⟩
  t0 := Try.underlying0
  a0 := Try.isAgg0
  z0 := Try.sizeOf0
  v0 := Try.zeroValue0
  t3 := Try.underlying3
  a3 := Try.isAgg3
  z3 := Try.sizeOf3
  v3 := Try.zeroValue3
  t4 := Try.underlying4
  a4 := Try.isAgg4
  z4 := Try.sizeOf4
  v4 := Try.zeroValue4
  t5 := Try.underlying5
  a5 := Try.isAgg5
  z5 := Try.sizeOf5
  v5 := Try.zeroValue5
  t9 := Try.underlying9
  a9 := Try.isAgg9
  z9 := Try.sizeOf9
  v9 := Try.zeroValue9
  t22 := Try.underlying23
  a22 := Try.isAgg23
  z22 := Try.sizeOf23
  v22 := Try.zeroValue23
  t23 := Try.underlying23
  a23 := Try.isAgg23
  z23 := Try.sizeOf23
  v23 := Try.zeroValue23
  t25 := Try.underlying3
  a25 := Try.isAgg3
  z25 := Try.sizeOf3
  v25 := Try.zeroValue3
  t32 := Try.underlying149
  a32 := Try.isAgg149
  z32 := Try.sizeOf149
  v32 := Try.zeroValue149
  t35 := Try.underlying175
  a35 := Try.isAgg175
  z35 := Try.sizeOf175
  v35 := Try.zeroValue175
  t36 := Try.underlying176
  a36 := Try.isAgg176
  z36 := Try.sizeOf176
  v36 := Try.zeroValue176
  t41 := Try.underlying92
  a41 := Try.isAgg92
  z41 := Try.sizeOf92
  v41 := Try.zeroValue92
  t44 := Try.underlying182
  a44 := Try.isAgg182
  z44 := Try.sizeOf182
  v44 := Try.zeroValue182
  t46 := Try.underlying184
  a46 := Try.isAgg184
  z46 := Try.sizeOf184
  v46 := Try.zeroValue184
  t53 := Try.underlying200
  a53 := Try.isAgg200
  z53 := Try.sizeOf200
  v53 := Try.zeroValue200
  t57 := Try.underlying204
  a57 := Try.isAgg204
  z57 := Try.sizeOf204
  v57 := Try.zeroValue204
  t63 := Try.underlying210
  a63 := Try.isAgg210
  z63 := Try.sizeOf210
  v63 := Try.zeroValue210
  t64 := Try.underlying211
  a64 := Try.isAgg211
  z64 := Try.sizeOf211
  v64 := Try.zeroValue211 }

theorem flat_int (xs : List Int) : xs.flatMap encInt = xs.map encZ := by
  induction xs with
  | nil => rfl
  | cons x xs ih => rw [List.flatMap_cons, List.map_cons, ih]; rfl
theorem sortInts : SortC Try.prog 79 3 := by
  intro xs v base w0 hlen ho
  have ho' := ho
  unfold Own at ho'
  rw [flat_int] at ho'
  rcases ho'.2 with ⟨rfl, h0⟩ | ⟨g, cap, cur, rfl, hb, hg, h1, h2, h3, h4⟩
  · have hx : xs = [] := List.eq_nil_of_length_eq_zero h0
    subst hx
    refine Calls.mono (AnyM.slices_Sort_int_none sortA none 0 w0) ?_
    rintro e w' ⟨rfl, rfl⟩
    refine ⟨_, rfl, rfl, ?_, Chg.refl _ _⟩
    have : sortI [] = [] := by simp [sortI]
    rw [this]; exact ho
  · refine Calls.mono (AnyM.slices_Sort_int sortA g 0 cap xs w0 (holds_of_block_i hg (by simpa using h4)) (Array.getElem?_eq_some_iff.1 hg).1 (by omega)) ?_
    rintro e w' ⟨rfl, n, os, rfl⟩
    refine ⟨_, rfl, rfl, ?_, (Chg.of_grown (grownBy_sorted_i _)).mono (fun k _ h => h.symm)⟩
    have := ownsRow_sorted_i (n := n) (os := os) (ss := xs) (ts := sortI xs) (by simp [sortI]) hb hg h1 h2 h3
    unfold Own
    rw [flat_int, (sortI_perm xs).length_eq]
    exact this

end Go.Proofs.Ytjgcmpondbocfaa

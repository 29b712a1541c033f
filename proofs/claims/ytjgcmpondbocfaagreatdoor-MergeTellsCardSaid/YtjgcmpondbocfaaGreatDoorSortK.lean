/- slices.SortFunc by the kit's shelf, at elements of more cells: what is asked of the comparison, what comes. No condition. -/
import Derived.Test.YtjgcmpondbocfaaGreatDoorSlices
import Derived.Shelf.SlSortCmp.NoneTotal
namespace Go.Proofs.YtjgcmpondbocfaaGreatDoor
open Go.RowKit Go.Sort Go.Shelf

/-- What stays lies ahead; what is drawn grows: so the world has grown. -/
theorem Ext.grow {w w' : World} (e : Ext w w') : ∃ q os, w' = Sort.grow (w.drewN q) os := by
  refine ⟨w'.drawn - w.drawn, w'.heap.extract w.heap.size w'.heap.size, ?_⟩
  have hh : w'.heap = w.heap ++ w'.heap.extract w.heap.size w'.heap.size := by
    apply Array.ext_getElem?
    intro k
    have hs := e.size
    rcases Nat.lt_or_ge k w.heap.size with h | h
    · rw [e.block k h (fun x => x), Array.getElem?_append_left h]
    · rw [Array.getElem?_append_right h, Array.getElem?_extract]
      split
      · congr 1; omega
      · rw [Array.getElem?_eq_none]; omega
  have hd := Chg.drew e
  unfold Sort.grow World.drewN
  cases w' with
  | mk h t d o p =>
    have e1 := e.os; have e2 := e.tape; have e3 := e.output
    simp only at e1 e2 e3 hh hd ⊢
    subst e1 e2 e3
    rw [← hh, show w.drawn + (d - w.drawn) = d by omega]
section
variable {α : Type} [Inhabited α]
theorem flatK_list {enc : α → List Value} {k : Nat} (henc : ∀ x, (enc x).length = k) (d : Array α) : (flatK enc k d).toList = d.toList.flatMap enc := by
  apply List.ext_getElem?
  intro t
  have hl : (d.toList.flatMap enc).length = d.size * k := by rw [flat_length henc, Array.length_toList]
  rcases Nat.lt_or_ge t (d.size * k) with h | h
  · have k0 : 0 < k := by rcases Nat.eq_zero_or_pos k with h0 | h0; subst h0; simp at h; exact h0
    have hq : t / k < d.size := (Nat.div_lt_iff_lt_mul k0).2 h
    have hr : t % k < k := Nat.mod_lt _ k0
    have hx : d.toList[t / k]? = some d[t / k]! := by
      rw [Array.getElem?_toList, Array.getElem?_eq_getElem hq, getElem!_pos d _ hq]
    have hu : (enc d[t / k]!)[t % k]? = some (enc d[t / k]!)[t % k]! := by
      have : t % k < (enc d[t / k]!).length := by rw [henc]; exact hr
      rw [List.getElem?_eq_getElem this, getElem!_pos (enc d[t / k]!) (t % k) this]
    have h1 := flat_get henc hx hu
    rw [show t / k * k + t % k = t by rw [Nat.mul_comm]; exact Nat.div_add_mod t k] at h1
    rw [h1, Array.getElem?_toList, Array.getElem?_eq_getElem (by rw [size_flatK]; exact h)]
    have := get_flatK enc k d t h
    rw [getElem!_pos (flatK enc k d) t (by rw [size_flatK]; exact h)] at this
    rw [this]
  · rw [List.getElem?_eq_none (by rw [Array.length_toList, size_flatK]; exact h), List.getElem?_eq_none (by rw [hl]; exact h)]
theorem putRow_chg (w : World) (g off : Nat) (F : Array Value) (m : Nat) (os : Array Obj) : Chg (fun j => j = g) w (Sort.grow (putRow id (Sort.ahead w m) g off F) os) :=
  ⟨rfl, rfl, rfl, by simp [Sort.grow, putRow, mapBlock, Sort.ahead], fun j hj hn => by
    have hj' : j < (putRow id (Sort.ahead w m) g off F).heap.size := by simpa [putRow, mapBlock, Sort.ahead] using hj
    show ((putRow id (Sort.ahead w m) g off F).heap ++ os)[j]? = _
    rw [Array.getElem?_append_left hj']
    simp only [putRow, mapBlock, Sort.ahead, Array.getElem?_modify, if_neg (Ne.symm hn)], Nat.le_add_right _ _⟩
theorem putRow_blk {w : World} {g : Nat} {t : TypeId} {cs : List Value} (h : Blk w g t cs) (F : Array Value) (hF : F.size ≤ cs.length) (m : Nat) (os : Array Obj) : Blk (Sort.grow (putRow id (Sort.ahead w m) g 0 F) os) g t (F.toList ++ cs.drop F.size) := by
  have hlt := h.lt
  have hj' : g < (putRow id (Sort.ahead w m) g 0 F).heap.size := by simpa [putRow, mapBlock, Sort.ahead] using hlt
  unfold Blk at h ⊢
  show ((putRow id (Sort.ahead w m) g 0 F).heap ++ os)[g]? = _
  rw [Array.getElem?_append_left hj']
  simp only [putRow, mapBlock, Sort.ahead, Array.getElem?_modify, if_true, h, Option.map_some, onCells]
  congr 2
  apply Array.ext_getElem?
  intro k
  simp only [putCells, Array.getElem?_mapIdx, id_eq, List.getElem?_toArray, Nat.zero_add, Nat.zero_le, true_and, Nat.sub_zero]
  rcases Nat.lt_or_ge k F.size with hk | hk
  · have e1 : F.toList[k]? = some F[k] := by simp [hk]
    rw [List.getElem?_append_left (by simpa using hk), e1]
    change Option.map _ cs[k]? = _
    rw [List.getElem?_eq_getElem (by omega)]
    simp [hk, getElem!_pos]
  · rw [List.getElem?_append_right (by simpa using hk), Array.length_toList, List.getElem?_drop, show F.size + (k - F.size) = k by omega]
    change Option.map _ cs[k]? = _
    cases cs[k]? <;> simp [Nat.not_lt.2 hk]
theorem holdsK_blk {enc : α → List Value} {k : Nat} (henc : ∀ x, (enc x).length = k) {w : World} {g : Nat} {t : TypeId} {xs : List α} {sp : List Value} (h : Blk w g t (xs.flatMap enc ++ sp)) : HoldsK enc k w g 0 xs.toArray := by
  intro j hj
  have hj' : j < (flatK enc k xs.toArray).size := hj
  have hl : (flatK enc k xs.toArray).toList = xs.flatMap enc := by rw [flatK_list henc]
  have hv : (xs.flatMap enc)[j]? = some (flatK enc k xs.toArray)[j]! := by
    rw [← hl, Array.getElem?_toList, Array.getElem?_eq_getElem hj', getElem!_pos (flatK enc k xs.toArray) j hj']
  refine ⟨?_, ?_⟩
  · have := h.cells.at (0 + j) (v := (flatK enc k xs.toArray)[j]!) (by rw [Nat.zero_add, List.getElem?_append_left (lt_of_get hv)]; exact hv)
    rw [Nat.zero_add] at this
    exact this
  · unfold Blk at h
    simp [World.frozen?, h]
/-- The list sorted. -/
def sortK (cf : α → α → Int) (xs : List α) : List α := xs.mergeSort fun x y => !(ltOf cf) y x
/-- What a call of slices.SortFunc at a seat gives. -/
theorem sortFunc_own {P : Program} {ρ : Ren} (L : SlLaysF0.n6 P ρ) {k bytes base : Nat} (aE : ∀ w, (isAgg (ρ.t 24)).run P w = .ok true w) (zE : ∀ w, (Go.sizeOf (ρ.t 24)).run P w = .ok k w) (enc : α → List Value) (hk : ∀ x, (enc x).length = k) (h1 : ∀ x, ∀ v ∈ enc x, v.oneCell' = true)
    (cf : α → α → Int) (hO : SWO (ltOf cf)) (hT : ∀ x y, (ltOf cf) x y = false → (ltOf cf) y x = false → x = y) (g : Nat) (cb : Array Value) {e : TypeId} {v : Value} {xs : List α} (w : World) (ho : Own enc k base e w v xs) (hl : xs.length ≤ 1000000000)
    (eg : ∀ args w, (callFunc g args).run P w = .ok (.enter g args) w) (hcmp : ∀ W, Chg (fun j => v.ownBlock = some j) w W → ∀ x y, Ret P g ([.agg (enc x).toArray, .agg (enc y).toArray] ++ cb.toList) W fun r W' => r = .int .i64 (cf x y) ∧ Ext W W') :
    Ret P (ρ.f 6) [v, .func (.func g) #[] cb] w fun r w' => r = .tuple #[] ∧ Own enc k base e w' v (sortK cf xs) ∧ Chg (fun j => v.ownBlock = some j) w w' := by
  rcases Nat.eq_zero_or_pos xs.length with h0 | h0
  · obtain rfl := List.eq_nil_of_length_eq_zero h0
    obtain ⟨A, c, rfl, -, -⟩ := ho.form
    refine Calls.mono (AnyF.slices_SortFunc_none L A c _ w) ?_
    rintro e w' ⟨rfl, rfl⟩
    exact ⟨_, rfl, rfl, by simpa [sortK] using ho, Chg.refl _ _⟩
  · obtain ⟨gb, c, sp, rfl, hgb, kS, hc1, hc2, hlen⟩ := ho.blk h0
    have hcl : CmpLays P g cb enc k cf gb 0 xs.toArray.size w := fun m os dk _ x y => by
      have hC : Chg (fun j => (Value.slice (some ⟨gb, 0, none⟩) xs.length c).ownBlock = some j) w (sortWorldK enc k w gb 0 m dk os) := (putRow_chg w gb 0 (flatK enc k dk) m os).mono fun j _ h => by subst h; rfl
      have hr := hcmp _ hC x y
      have ha : (#[Value.agg (enc x).toArray, Value.agg (enc y).toArray] ++ cb : Array Value) = ([Value.agg (enc x).toArray, Value.agg (enc y).toArray] ++ cb.toList).toArray := by apply Array.ext'; simp
      rw [ha]
      refine Calls.mono hr ?_
      rintro e w' ⟨r, rfl, rfl, hE⟩
      exact ⟨rfl, hE.grow⟩
    have hs := AnyQ.slices_SortFunc_total L k aE zE enc hk h1 cf hO g cb gb 0 c xs.toArray w eg hcl (holdsK_blk hk kS) kS.lt (by simp; omega) hT
    have hz : xs.toArray.size = xs.length := by simp
    rw [hz] at hs
    refine Calls.mono hs ?_
    rintro e w' ⟨rfl, n, os, rfl⟩
    have hp : (sortK cf xs).length = xs.length := by simp [sortK]
    refine ⟨_, rfl, rfl, ?_, (putRow_chg w gb 0 _ n os).mono fun j _ h => by subst h; rfl⟩
    have hb := putRow_blk kS (flatK enc k (sortK cf xs).toArray) (by rw [size_flatK, List.length_append, flat_length hk]; simp [hp]) n os
    rw [flatK_list hk, size_flatK] at hb
    have hd : (xs.flatMap enc ++ sp).drop ((sortK cf xs).toArray.size * k) = sp := by
      rw [List.drop_left' (by rw [flat_length hk]; simp [hp])]
    rw [hd] at hb
    have := Own.of_blk (base := base) (xs := sortK cf xs) hk hb hgb (by omega) hc2 (by rw [← hlen]; simp only [List.length_append, flat_length hk, hp])
    rw [hp] at this
    exact this
end
end Go.Proofs.YtjgcmpondbocfaaGreatDoor

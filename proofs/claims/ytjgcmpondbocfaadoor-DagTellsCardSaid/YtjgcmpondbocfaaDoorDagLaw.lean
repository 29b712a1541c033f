/- What DagHolds asks, in plain Lean. No condition. -/
import Derived.Test.YtjgcmpondbocfaaDoorDagAnc
namespace Go.Proofs.YtjgcmpondbocfaaDoor

/-! ### readiness -/
theorem ready_of {ls : List Commit} {xs ys : List Int} (h : (readyErr ls xs).isSome = false) (hy : ∀ y ∈ ys, 0 ≤ y ∧ y < (ls.length : Int)) : (readyErr ls ys).isSome = false := by
  unfold readyErr at h ⊢
  split at h
  · rename_i hs; rw [h] at hs; cases hs
  · rename_i hs
    rw [if_neg hs, if_neg]
    · rfl
    · rw [List.any_eq_true]
      rintro ⟨y, hm, hb⟩
      have := hy y hm
      unfold badNum at hb
      simp at hb
      omega
theorem parents_le {ls : List Commit} {xs : List Int} (h : (readyErr ls xs).isSome = false) {k : Nat} {c : Commit} (hc : ls[k]? = some c) : c.parents.length ≤ 2 := by
  unfold readyErr at h
  split at h
  · rename_i hs; rw [h] at hs; cases hs
  · rename_i hs
    have h2 : (firstErr ls 0).2 = none := by
      unfold checkErr at hs
      split at hs
      · simp at hs
      · cases hc : (firstErr ls 0).2 with
        | none => rfl
        | some e => rw [hc] at hs; simp at hs
    have := firstErr_none h2 k c hc
    unfold commitErr at this
    split at this
    · cases this
    · omega

section
variable {ls : List Commit}
theorem ancList_eq {a : Nat} (h : (readyErr ls [(a : Int)]).isSome = false) : ancList ls a = setList (ofSet ls a) := by
  rw [ancList, if_neg (by rw [h]; simp), Int.toNat_natCast]
theorem mem_ancList {a : Nat} (h : (readyErr ls [(a : Int)]).isSome = false) {x : Int} : x ∈ ancList ls a ↔ ∃ i : Nat, x = (i : Int) ∧ Anc ls i a := by
  obtain ⟨h60, he, hn⟩ := ready_ok h
  have := hn a (by simp)
  rw [ancList_eq h, setList_mem]
  constructor
  · rintro ⟨i, rfl, hb⟩; exact ⟨i, rfl, (ofSet_bit he h60 (by omega) i).1 hb⟩
  · rintro ⟨i, rfl, hb⟩; exact ⟨i, rfl, (ofSet_bit he h60 (by omega) i).2 hb⟩
theorem ancList_length (ls : List Commit) (a : Int) : (ancList ls a).length ≤ 60 := by
  unfold ancList
  split
  · simp
  · exact setList_length (ofSet_length _ _)

theorem setListTo_sorted (s : List Bool) : ∀ k, (setListTo s k).Pairwise (· < ·) ∧ ∀ x ∈ setListTo s k, x < (k : Int)
  | 0 => by simp [setListTo]
  | k + 1 => by
    obtain ⟨h1, h2⟩ := setListTo_sorted s k
    rw [setListTo_succ]
    constructor
    · rw [List.pairwise_append]
      refine ⟨h1, ?_, ?_⟩
      · split <;> simp
      · intro x hx y hy
        split at hy
        · rw [List.mem_singleton] at hy; subst hy; exact h2 x hx
        · simp at hy
    · intro x hx
      rcases List.mem_append.1 hx with hx | hx
      · have := h2 x hx; omega
      · split at hx
        · rw [List.mem_singleton] at hx; subst hx; omega
        · simp at hx
theorem setList_sorted {s : List Bool} (h : s.length = 60) : (setList s).Pairwise (· < ·) := by rw [setList_eq h]; exact (setListTo_sorted s 60).1
theorem ancList_sorted (ls : List Commit) (a : Int) : (ancList ls a).Pairwise (· < ·) := by
  unfold ancList
  split
  · exact List.Pairwise.nil
  · exact setList_sorted (ofSet_length _ _)

/-- what the law gathers: the commit, and what its first i parents come of -/
def wantTo (ls : List Commit) (a : Int) (c : Commit) (i : Nat) : List Int := a :: (c.parents.take i).flatMap (ancList ls)
theorem wantTo_snoc {a : Int} {c : Commit} {i : Nat} {p : Int} (h : c.parents[i]? = some p) : wantTo ls a c (i + 1) = wantTo ls a c i ++ ancList ls p := by
  unfold wantTo
  rw [take_snoc h, List.flatMap_append, List.cons_append]
  simp
theorem wantTo_length (ls : List Commit) (a : Int) (c : Commit) : ∀ i, (wantTo ls a c i).length ≤ 1 + 60 * i := by
  intro i
  have key : ∀ ps : List Int, (ps.flatMap (ancList ls)).length ≤ 60 * ps.length := by
    intro ps
    induction ps with
    | nil => simp
    | cons p ps ih =>
      rw [List.flatMap_cons, List.length_append, List.length_cons]
      have := ancList_length ls p
      omega
  have h1 := key (c.parents.take i)
  have h2 := List.length_take_le i c.parents
  unfold wantTo
  rw [List.length_cons]
  have : 60 * (c.parents.take i).length ≤ 60 * i := Nat.mul_le_mul_left _ h2
  omega
theorem parent_ready {a k : Nat} {c : Commit} {p : Int} (h : (readyErr ls [(a : Int)]).isSome = false) (hc : ls[a]? = some c) (hp : c.parents[k]? = some p) : (readyErr ls [p]).isSome = false := by
  obtain ⟨_, he, hn⟩ := ready_ok h
  have := he a c hc p (List.mem_of_getElem? hp)
  have := lt_of_get hc
  exact ready_of h (fun y hy => by rw [List.mem_singleton] at hy; subst hy; omega)

theorem mem_want {a : Nat} {c : Commit} (h : (readyErr ls [(a : Int)]).isSome = false) (hc : ls[a]? = some c) {x : Int} : x ∈ wantTo ls a c c.parents.length ↔ x ∈ ancList ls a := by
  obtain ⟨_, he, hn⟩ := ready_ok h
  rw [mem_ancList h, wantTo, List.take_length, List.mem_cons, List.mem_flatMap]
  constructor
  · rintro (rfl | ⟨p, hp, hx⟩)
    · exact ⟨a, rfl, .refl a⟩
    · obtain ⟨k, hk⟩ := List.getElem?_of_mem hp
      have hpn := he a c hc p hp
      obtain ⟨pn, rfl⟩ : ∃ n : Nat, p = (n : Int) := ⟨p.toNat, by omega⟩
      obtain ⟨i, rfl, hi⟩ := (mem_ancList (parent_ready h hc hk)).1 hx
      exact ⟨i, rfl, .step hc hp hi⟩
  · rintro ⟨i, rfl, hi⟩
    cases hi with
    | refl => exact .inl rfl
    | step hc' hp hi =>
      rw [hc] at hc'
      injection hc' with hc'; subst hc'
      obtain ⟨k, hk⟩ := List.getElem?_of_mem hp
      exact .inr ⟨_, hp, (mem_ancList (parent_ready h hc hk)).2 ⟨i, rfl, hi⟩⟩
theorem any_eq_mem {xs : List Int} {n : Int} : (xs.any fun x => decide (x = n)) = true ↔ n ∈ xs := by
  rw [List.any_eq_true]
  constructor
  · rintro ⟨x, hx, h⟩; have := of_decide_eq_true h; subst this; exact hx
  · intro h; exact ⟨n, h, decide_eq_true rfl⟩

/-! ### bases -/
theorem below_bit (ls : List Commit) : ∀ (bs : List Int) (k : Nat), Bit (belowOf ls bs) k ↔ k < 60 ∧ ∃ x ∈ bs, Bit (ofSet ls x.toNat) k ∧ k ≠ x.toNat := by
  intro bs k
  have key : ∀ (bs : List Int) (s : List Bool), s.length = 60 → (Bit (bs.foldl (fun s i => belowStep ls s i.toNat) s) k ↔ k < 60 ∧ (Bit s k ∨ ∃ x ∈ bs, Bit (ofSet ls x.toNat) k ∧ k ≠ x.toNat)) := by
    intro bs
    induction bs with
    | nil =>
      intro s hs
      simp only [List.foldl_nil, List.not_mem_nil, false_and, exists_false, or_false]
      constructor
      · intro h; exact ⟨by have := (List.getElem?_eq_some_iff.1 h).1; omega, h⟩
      · exact fun h => h.2
    | cons b bs ih =>
      intro s hs
      rw [List.foldl_cons, ih _ (by simp [belowStep])]
      have hb : Bit (belowStep ls s b.toNat) k ↔ k < 60 ∧ (Bit s k ∨ (Bit (ofSet ls b.toNat) k ∧ k ≠ b.toNat)) := by
        unfold belowStep
        rw [range_bit, Bool.or_eq_true, Bool.and_eq_true, getD_bit, getD_bit, decide_eq_true_eq]
        constructor
        · rintro ⟨h1, h2 | ⟨h2, h3⟩⟩
          · exact ⟨h1, .inl h2⟩
          · exact ⟨h1, .inr ⟨h2, by omega⟩⟩
        · rintro ⟨h1, h2 | ⟨h2, h3⟩⟩
          · exact ⟨h1, .inl h2⟩
          · exact ⟨h1, .inr ⟨h2, by omega⟩⟩
      rw [hb]
      constructor
      · rintro ⟨h1, ⟨_, h2 | h2⟩ | ⟨x, h2, h3⟩⟩
        · exact ⟨h1, .inl h2⟩
        · exact ⟨h1, .inr ⟨b, List.mem_cons_self, h2⟩⟩
        · exact ⟨h1, .inr ⟨x, List.mem_cons_of_mem _ h2, h3⟩⟩
      · rintro ⟨h1, h2 | ⟨x, h2, h3⟩⟩
        · exact ⟨h1, .inl ⟨h1, .inl h2⟩⟩
        · rcases List.mem_cons.1 h2 with rfl | h2
          · exact ⟨h1, .inl ⟨h1, .inr h3⟩⟩
          · exact ⟨h1, .inr ⟨x, h2, h3⟩⟩
  unfold belowOf
  rw [key bs _ (by simp)]
  constructor
  · rintro ⟨h1, h2 | h2⟩
    · unfold Bit at h2; rw [List.getElem?_replicate] at h2; split at h2 <;> simp at h2
    · exact ⟨h1, h2⟩
  · rintro ⟨h1, h2⟩; exact ⟨h1, .inr h2⟩

variable {a b : Nat}
theorem baseList_eq (h : (readyErr ls [(a : Int), (b : Int)]).isSome = false) : baseList ls a b = baseOf ls a b := by
  rw [baseList, if_neg (by rw [h]; simp), Int.toNat_natCast, Int.toNat_natCast]
/-- A base: both come of it, and of no base another one comes that is not it. -/
theorem mem_baseList (h : (readyErr ls [(a : Int), (b : Int)]).isSome = false) {x : Int} :
    x ∈ baseList ls a b ↔ ∃ i : Nat, x = (i : Int) ∧ Anc ls i a ∧ Anc ls i b ∧ ∀ j, Anc ls j a → Anc ls j b → Anc ls i j → i = j := by
  obtain ⟨h60, he, hn⟩ := ready_ok h
  have ha := hn a (by simp)
  have hb := hn b (by simp)
  have hbit : ∀ i, Bit (bothOf (ofSet ls a) (ofSet ls b)) i ↔ Anc ls i a ∧ Anc ls i b := fun i => by
    rw [both_bit (ofSet_length _ _), ofSet_bit he h60 (by omega), ofSet_bit he h60 (by omega)]
  rw [baseList_eq h, baseOf, List.mem_filter, setList_mem]
  constructor
  · rintro ⟨⟨i, rfl, hi⟩, hf⟩
    rw [hbit] at hi
    refine ⟨i, rfl, hi.1, hi.2, fun j hja hjb hij => ?_⟩
    apply Decidable.byContradiction
    intro hne
    have hj : j < ls.length := by have := Anc.le he hja; omega
    have : Bit (belowOf ls (setList (bothOf (ofSet ls a) (ofSet ls b)))) i := by
      rw [below_bit]
      refine ⟨by have := Anc.le he hi.1; omega, (j : Int), setList_mem.2 ⟨j, rfl, (hbit j).2 ⟨hja, hjb⟩⟩, ?_, ?_⟩
      · rw [Int.toNat_natCast, ofSet_bit he h60 hj]; exact hij
      · rw [Int.toNat_natCast]; exact hne
    rw [Int.toNat_natCast, getD_bit.2 this] at hf
    cases hf
  · rintro ⟨i, rfl, hia, hib, hmax⟩
    refine ⟨⟨i, rfl, (hbit i).2 ⟨hia, hib⟩⟩, ?_⟩
    rw [Int.toNat_natCast, Bool.not_eq_true', ← Bool.not_eq_true, getD_bit, below_bit]
    rintro ⟨_, x, hx, h1, h2⟩
    obtain ⟨j, rfl, hj⟩ := setList_mem.1 hx
    rw [hbit] at hj
    rw [Int.toNat_natCast] at h1 h2
    have hjl : j < ls.length := by have := Anc.le he hj.1; omega
    rw [ofSet_bit he h60 hjl] at h1
    exact h2 (hmax j hj.1 hj.2 h1)
theorem pairwise_filter_lt {s : List Bool} (h : s.length = 60) (p : Int → Bool) : ((setList s).filter p).Pairwise (· < ·) := (setList_sorted h).sublist List.filter_sublist
theorem baseList_sorted (h : (readyErr ls [(a : Int), (b : Int)]).isSome = false) : (baseList ls a b).Pairwise (· < ·) := by
  rw [baseList_eq h]; exact pairwise_filter_lt (bothOf_length _ _) _
theorem isB_iff (h : (readyErr ls [(a : Int), (b : Int)]).isSome = false) : isB ls a b = true ↔ Anc ls a b := by
  obtain ⟨h60, he, hn⟩ := ready_ok h
  have hb := hn b (by simp)
  rw [isB, if_neg (by rw [h]; simp), Int.toNat_natCast, Int.toNat_natCast, getD_bit, ofSet_bit he h60 (by omega)]
theorem ready_swap (h : (readyErr ls [(a : Int), (b : Int)]).isSome = false) : (readyErr ls [(b : Int), (a : Int)]).isSome = false := by
  obtain ⟨_, _, hn⟩ := ready_ok h
  exact ready_of h (fun y hy => hn y (by simp at hy ⊢; rcases hy with h | h <;> simp [h]))
/-- Two rising lists of the same members are one. -/
theorem sorted_ext {xs ys : List Int} (hx : xs.Pairwise (· < ·)) (hy : ys.Pairwise (· < ·)) (h : ∀ z, z ∈ xs ↔ z ∈ ys) : xs = ys := by
  induction xs generalizing ys with
  | nil =>
    cases ys with
    | nil => rfl
    | cons y ys => exact absurd ((h y).2 List.mem_cons_self) (by simp)
  | cons x xs ih =>
    cases ys with
    | nil => exact absurd ((h x).1 List.mem_cons_self) (by simp)
    | cons y ys =>
      rw [List.pairwise_cons] at hx hy
      have hxy : x = y := by
        rcases List.mem_cons.1 ((h x).1 List.mem_cons_self) with e | e
        · exact e
        · rcases List.mem_cons.1 ((h y).2 List.mem_cons_self) with e' | e'
          · exact e'.symm
          · have := hx.1 y e'; have := hy.1 x e; omega
      subst hxy
      rw [ih hx.2 hy.2]
      intro z
      constructor
      · intro hz
        rcases List.mem_cons.1 ((h z).1 (List.mem_cons_of_mem _ hz)) with e | e
        · have := hx.1 z hz; omega
        · exact e
      · intro hz
        rcases List.mem_cons.1 ((h z).2 (List.mem_cons_of_mem _ hz)) with e | e
        · have := hy.1 z hz; omega
        · exact e
theorem base_swap (h : (readyErr ls [(a : Int), (b : Int)]).isSome = false) : baseList ls b a = baseList ls a b := by
  refine sorted_ext (baseList_sorted (ready_swap h)) (baseList_sorted h) (fun z => ?_)
  rw [mem_baseList h, mem_baseList (ready_swap h)]
  constructor
  · rintro ⟨i, rfl, h1, h2, h3⟩; exact ⟨i, rfl, h2, h1, fun j ha hb => h3 j hb ha⟩
  · rintro ⟨i, rfl, h1, h2, h3⟩; exact ⟨i, rfl, h2, h1, fun j ha hb => h3 j hb ha⟩
theorem base_line (h : (readyErr ls [(a : Int), (b : Int)]).isSome = false) (hab : Anc ls a b) : baseList ls a b = [(a : Int)] := by
  refine sorted_ext (baseList_sorted h) (by simp) (fun z => ?_)
  rw [mem_baseList h, List.mem_singleton]
  constructor
  · rintro ⟨i, rfl, h1, h2, h3⟩; rw [h3 a (.refl a) hab h1]
  · rintro rfl
    obtain ⟨_, he, _⟩ := ready_ok h
    refine ⟨a, rfl, .refl a, hab, fun j h1 _ h3 => ?_⟩
    have := Anc.le he h1; have := Anc.le he h3; omega
/-- Of two bases the one comes of the other only if they are one. -/
theorem base_is (h : (readyErr ls [(a : Int), (b : Int)]).isSome = false) {i j : Nat} {x y : Int} (hx : (baseList ls a b)[i]? = some x) (hy : (baseList ls a b)[j]? = some y) :
    (readyErr ls [x, y]).isSome = false ∧ isB ls x y = decide ((i : Int) = (j : Int)) := by
  obtain ⟨h60, he, hn⟩ := ready_ok h
  have ha := hn a (by simp)
  obtain ⟨xi, rfl, hxa, hxb, hmax⟩ := (mem_baseList h).1 (List.mem_of_getElem? hx)
  obtain ⟨yi, rfl, hya, hyb, _⟩ := (mem_baseList h).1 (List.mem_of_getElem? hy)
  have l1 := Anc.le he hxa
  have l2 := Anc.le he hya
  have hr : (readyErr ls [(xi : Int), (yi : Int)]).isSome = false := ready_of h (fun z hz => by
    simp at hz; rcases hz with rfl | rfl <;> omega)
  refine ⟨hr, ?_⟩
  rw [Bool.eq_iff_iff, isB_iff hr, decide_eq_true_eq]
  have hi := (List.getElem?_eq_some_iff.1 hx)
  have hj := (List.getElem?_eq_some_iff.1 hy)
  obtain ⟨hi, ei⟩ := hi
  obtain ⟨hj, ej⟩ := hj
  have hs := baseList_sorted h
  constructor
  · intro hxy
    have e := hmax yi hya hyb hxy
    subst e
    rcases Nat.lt_trichotomy i j with h1 | h1 | h1
    · have := List.pairwise_iff_getElem.1 hs i j hi hj h1; omega
    · rw [h1]
    · have := List.pairwise_iff_getElem.1 hs j i hj hi h1; omega
  · intro e
    have e : i = j := by omega
    subst e
    have : xi = yi := by omega
    subst this
    exact .refl xi
theorem base_of (h : (readyErr ls [(a : Int), (b : Int)]).isSome = false) {x : Int} (hx : x ∈ baseList ls a b) :
    (readyErr ls [x, (a : Int)]).isSome = false ∧ (readyErr ls [x, (b : Int)]).isSome = false ∧ isB ls x a = true ∧ isB ls x b = true := by
  obtain ⟨h60, he, hn⟩ := ready_ok h
  have ha := hn a (by simp)
  have hb := hn b (by simp)
  obtain ⟨xi, rfl, hxa, hxb, _⟩ := (mem_baseList h).1 hx
  have l1 := Anc.le he hxa
  have r1 : (readyErr ls [(xi : Int), (a : Int)]).isSome = false := ready_of h (fun z hz => by
    simp at hz; rcases hz with rfl | rfl <;> omega)
  have r2 : (readyErr ls [(xi : Int), (b : Int)]).isSome = false := ready_of h (fun z hz => by
    simp at hz; rcases hz with rfl | rfl <;> omega)
  exact ⟨r1, r2, (isB_iff r1).2 hxa, (isB_iff r2).2 hxb⟩
/-- Rising: no element is as great as the next. -/
theorem sorted_step {xs : List Int} (h : xs.Pairwise (· < ·)) {k : Nat} {x y : Int} (hx : xs[k]? = some x) (hy : xs[k + 1]? = some y) : x < y := by
  obtain ⟨h1, e1⟩ := List.getElem?_eq_some_iff.1 hx
  obtain ⟨h2, e2⟩ := List.getElem?_eq_some_iff.1 hy
  have := List.pairwise_iff_getElem.1 h k (k + 1) h1 h2 (by omega)
  omega

/-! ### the three commits that the law lays -/
def one3 : List Commit := [⟨[], 1, ⟨#[]⟩⟩, ⟨[0], 1, ⟨#[]⟩⟩, ⟨[0], 1, ⟨#[]⟩⟩]
theorem one3_ready : (readyErr one3 [1, 2]).isSome = false := by decide
theorem one3_base : baseList one3 1 2 = [0] := by decide +kernel
theorem one3_reads {w : World} {b b1 b2 : Nat} {t t1 t2 : TypeId} (h : Blk w b t [.slice none 0 0, .int .i64 1, .string ⟨#[]⟩, .slice (some ⟨b1, 0, none⟩) 1 1, .int .i64 1, .string ⟨#[]⟩, .slice (some ⟨b2, 0, none⟩) 1 1, .int .i64 1, .string ⟨#[]⟩])
    (h1 : Blk w b1 t1 [.int .i64 0]) (h2 : Blk w b2 t2 [.int .i64 0]) : RCommits w (.slice (some ⟨b, 0, none⟩) 3 3) one3 := by
  have hz : ∀ {b t}, Blk w b t [.int .i64 0] → RInts w (.slice (some ⟨b, 0, none⟩) 1 1) [0] := fun h =>
    ⟨_, 1, rfl, by simp, by omega, fun _ => ⟨_, 0, rfl, fun k x hx => by
      have hk := lt_of_get hx
      obtain rfl : k = 0 := by simpa using hk
      have : (0 : Int) = x := by simpa using hx
      subst this
      exact ⟨_, rfl, h.cells, rfl⟩⟩⟩
  refine ⟨_, 3, rfl, by simp [one3], by omega, fun _ => ⟨b, 0, rfl, fun k x hx => ?_⟩⟩
  have hk := lt_of_get hx
  simp only [one3, List.length_cons, List.length_nil] at hk
  rcases (by omega : k = 0 ∨ k = 1 ∨ k = 2) with rfl | rfl | rfl
  · have : (⟨[], 1, ⟨#[]⟩⟩ : Commit) = x := by simpa [one3] using hx
    subst this
    exact ⟨_, rfl, fun i u hu => h.cells i u (by rcases i with _ | _ | _ | i <;> first | exact hu | simp at hu), _, rfl, RSl.nil _ _ _⟩
  · have : (⟨[0], 1, ⟨#[]⟩⟩ : Commit) = x := by simpa [one3] using hx
    subst this
    exact ⟨_, rfl, fun i u hu => by
      have := h.cells (3 + i) u (by rcases i with _ | _ | _ | i <;> first | exact hu | simp at hu)
      rwa [show 0 + (3 + i) = 0 + 1 * 3 + i by omega] at this, _, rfl, hz h1⟩
  · have : (⟨[0], 1, ⟨#[]⟩⟩ : Commit) = x := by simpa [one3] using hx
    subst this
    exact ⟨_, rfl, fun i u hu => by
      have := h.cells (6 + i) u (by rcases i with _ | _ | _ | i <;> first | exact hu | simp at hu)
      rwa [show 0 + (6 + i) = 0 + 2 * 3 + i by omega] at this, _, rfl, hz h2⟩
end
end Go.Proofs.YtjgcmpondbocfaaDoor

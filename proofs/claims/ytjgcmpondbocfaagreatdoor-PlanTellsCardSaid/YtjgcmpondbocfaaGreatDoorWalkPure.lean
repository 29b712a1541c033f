/- A walk over answers, in plain Lean: how many there are so far behind each part, and what is found. No condition. -/
import Derived.Test.YtjgcmpondbocfaaGreatDoorSolvePure
namespace Go.Proofs.YtjgcmpondbocfaaGreatDoor

def addAt (many : List Nat) (d : Nat) (cs : List Nat) : List Nat := many.take d ++ List.zipWith (· + ·) (many.drop d) cs
def AllLe (l : List Nat) : Prop := ∀ x ∈ l, x ≤ 500
theorem addAt_len {many : List Nat} {d : Nat} {cs : List Nat} (h : cs.length = many.length - d) (hd : d ≤ many.length) : (addAt many d cs).length = many.length := by
  unfold addAt
  rw [List.length_append, List.length_take, List.length_zipWith, List.length_drop]; omega
theorem addAt_cons {many : List Nat} {d m x : Nat} {cs : List Nat} (h : many[d]? = some m) : addAt many d (x :: cs) = addAt (many.set d (m + x)) (d + 1) cs := by
  unfold addAt
  have hd := lt_of_get h
  rw [drop_at h, List.zipWith_cons_cons, List.drop_set_of_lt (by omega), take_snoc (x := m + x) (by rw [List.getElem?_set_self hd]), List.take_set_of_le (Nat.le_refl _), List.append_assoc]; rfl
theorem zip_zip : ∀ (a b c : List Nat), List.zipWith (· + ·) (List.zipWith (· + ·) a b) c = List.zipWith (· + ·) a (List.zipWith (· + ·) b c)
  | [], _, _ => by simp
  | _ :: _, [], _ => by simp
  | _ :: _, _ :: _, [] => by simp
  | x :: a, y :: b, z :: c => by simp only [List.zipWith_cons_cons, zip_zip a b c, Nat.add_assoc]
theorem addAt_addAt {many : List Nat} {d : Nat} {cs es : List Nat} (hd : d ≤ many.length) : addAt (addAt many d cs) d es = addAt many d (List.zipWith (· + ·) cs es) := by
  unfold addAt
  have h1 : (many.take d ++ List.zipWith (· + ·) (many.drop d) cs).take d = many.take d := by
    rw [List.take_left']; rw [List.length_take]; omega
  have h2 : (many.take d ++ List.zipWith (· + ·) (many.drop d) cs).drop d = List.zipWith (· + ·) (many.drop d) cs := by
    rw [List.drop_left']; rw [List.length_take]; omega
  rw [h1, h2, zip_zip]
theorem zip_zero : ∀ (a : List Nat) (n : Nat), a.length ≤ n → List.zipWith (· + ·) a (List.replicate n 0) = a
  | [], _, _ => by simp
  | x :: a, 0, h => by simp at h
  | x :: a, n + 1, h => by
    rw [List.replicate_succ, List.zipWith_cons_cons, zip_zero a n (by simp at h; omega)]; rfl
theorem counts_nil (set : List Triple) (ps : List Pat) : counts set [] ps = List.replicate (ps.length + 1) 0 := by
  induction ps with
  | nil => rfl
  | cons p r ih => rw [counts, List.flatMap_nil, ih]; rfl
theorem addAt_zero {many : List Nat} {d n : Nat} (h : many.length ≤ n + d) : addAt many d (List.replicate n 0) = many := by
  unfold addAt
  rw [zip_zero _ _ (by rw [List.length_drop]; omega), List.take_append_drop]
theorem zeros_add : ∀ (cs : List Nat), List.zipWith (· + ·) (List.replicate cs.length 0) cs = cs
  | [] => rfl
  | x :: cs => by rw [List.length_cons, List.replicate_succ, List.zipWith_cons_cons, zeros_add cs, Nat.zero_add]
theorem addAt_start (cs : List Nat) : addAt (List.replicate cs.length 0) 0 cs = cs := by
  unfold addAt; rw [List.take_zero, List.drop_zero, zeros_add]; rfl
instance (l : List Nat) : Decidable (AllLe l) := inferInstanceAs (Decidable (∀ x ∈ l, x ≤ 500))
theorem addAt_end {many : List Nat} {d : Nat} {cs : List Nat} (h : many.length ≤ d) : addAt many d cs = many := by
  unfold addAt
  rw [List.take_of_length_le h, List.drop_of_length_le h]; simp
theorem AllLe.set {l : List Nat} (h : AllLe l) {d x : Nat} (hx : x ≤ 500) : AllLe (l.set d x) := fun y hy => (List.mem_or_eq_of_mem_set hy).elim (h y) (fun e => e ▸ hx)
theorem AllLe.sum {l : List Nat} (h : AllLe l) : l.sum ≤ 500 * l.length := by
  induction l with
  | nil => simp
  | cons x r ih =>
    have h1 := h x List.mem_cons_self
    have h2 := ih fun y hy => h y (List.mem_cons_of_mem _ hy)
    rw [List.sum_cons, List.length_cons]; omega
/-- What is over stays over. -/
theorem over_more {many : List Nat} {d : Nat} {cs es : List Nat} (hd : d ≤ many.length) (hl : cs.length = es.length) (h : ¬ AllLe (addAt many d cs)) : ¬ AllLe (addAt many d (List.zipWith (· + ·) cs es)) := fun hall => h fun x hx => by
  rw [← addAt_addAt hd] at hall
  obtain ⟨i, hi, rfl⟩ := List.getElem_of_mem hx
  have key : ∀ (a b c : List Nat), b.length = c.length → ∀ (i : Nat) (x : Nat), (a ++ List.zipWith (· + ·) b c)[i]? = some x → True := fun _ _ _ _ _ _ _ => trivial
  unfold addAt at hall hi ⊢
  have h1 : (many.take d ++ List.zipWith (· + ·) (many.drop d) cs).take d = many.take d := by
    rw [List.take_left']; rw [List.length_take]; omega
  have h2 : (many.take d ++ List.zipWith (· + ·) (many.drop d) cs).drop d = List.zipWith (· + ·) (many.drop d) cs := by
    rw [List.drop_left']; rw [List.length_take]; omega
  rw [h1, h2] at hall
  rcases Nat.lt_or_ge i (many.take d).length with hlt | hge
  · have := hall (many.take d)[i] (List.mem_append_left _ (List.getElem_mem hlt))
    rwa [List.getElem_append_left hlt]
  · rw [List.getElem_append_right hge]
    rw [List.length_append] at hi
    have hi2 : i - (many.take d).length < (List.zipWith (· + ·) (many.drop d) cs).length := by omega
    have hi3 : i - (many.take d).length < es.length := by rw [List.length_zipWith] at hi2; omega
    have hm : (List.zipWith (· + ·) (List.zipWith (· + ·) (many.drop d) cs) es)[i - (many.take d).length]? = some ((List.zipWith (· + ·) (many.drop d) cs)[i - (many.take d).length]'hi2 + es[i - (many.take d).length]'hi3) := by
      rw [List.getElem?_zipWith, List.getElem?_eq_getElem hi2, List.getElem?_eq_getElem hi3]
    have := hall _ (List.mem_append_right _ (List.mem_of_getElem? hm))
    omega
theorem counts_one (set : List Triple) (a : Ans) (p : Pat) (r : List Pat) : counts set [a] (p :: r) = 1 :: counts set (stepA set a p) r := by
  rw [counts]; simp
theorem levels_one (set : List Triple) (a : Ans) (p : Pat) (r : List Pat) : levels set [a] (p :: r) = levels set (stepA set a p) r := by
  rw [levels]; simp
theorem looked_cons (set : List Triple) (as : List Ans) (p : Pat) (r : List Pat) : lookedN set as (p :: r) = (as.flatMap fun a => stepA set a p).length + lookedN set (as.flatMap fun a => stepA set a p) r := by
  unfold lookedN
  rw [counts, List.tail_cons]
  cases r with
  | nil => simp [counts]
  | cons q r => simp only [counts, List.tail_cons, List.sum_cons]
theorem looked_one (set : List Triple) (a : Ans) (p : Pat) (r : List Pat) : lookedN set [a] (p :: r) = (stepA set a p).length + lookedN set (stepA set a p) r := by
  rw [looked_cons]; simp
theorem looked_append (set : List Triple) (as bs : List Ans) (ps : List Pat) : lookedN set (as ++ bs) ps = lookedN set as ps + lookedN set bs ps := by
  induction ps generalizing as bs with
  | nil => rfl
  | cons p r ih => rw [looked_cons, looked_cons, looked_cons, List.flatMap_append, ih, List.length_append]; omega
/-! ### the answers of a question -/
def fullQ (set : List Triple) (q : Query) : Prop := AllLe (counts set [[]] q.parts)
instance (set : List Triple) (q : Query) : Decidable (fullQ set q) := inferInstanceAs (Decidable (AllLe _))
def ansL (set : List Triple) (q : Query) : List Ans := levels set [[]] q.parts
/-- What solve.All comes to. -/
def allErr (set : List Triple) (q : Query) : Option Int := match setErr set with
  | some e => some e
  | none => match queryErr q with
    | some e => some e
    | none => if fullQ set q then none else some 4
end Go.Proofs.YtjgcmpondbocfaaGreatDoor

/- In which order parts are taken, in plain Lean. No condition. -/
import Derived.Test.YtjgcmpondbocfaaGreatDoorWalkPure
namespace Go.Proofs.YtjgcmpondbocfaaGreatDoor

def partAt (parts : List Pat) (i : Int) : Pat := (parts[i.toNat]?).getD default
def termsN (kl : List ByteArray) (p : Pat) : Nat := ((slotsOf p).filter fun s => decide (s.var = ⟨#[]⟩) || decide (s.var ∈ kl)).length
def cmpP (set : List Triple) (parts : List Pat) (kl : List ByteArray) (i k : Int) : Int :=
  orI (cmpI (termsN kl (partAt parts k) : Int) (termsN kl (partAt parts i) : Int)) (cmpI ((ofL set (partAt parts i)).length : Int) ((ofL set (partAt parts k)).length : Int))
/-- The first of the least. -/
def minF (f : Int → Int → Int) (m : Int) (xs : List Int) : Int := xs.foldl (fun m x => if f x m < 0 then x else m) m
theorem minF_snoc (f : Int → Int → Int) (m : Int) (xs : List Int) (x : Int) : minF f m (xs ++ [x]) = if f x (minF f m xs) < 0 then x else minF f m xs := by unfold minF; rw [List.foldl_append]; rfl
theorem minF_mem (f : Int → Int → Int) (m : Int) (xs : List Int) : minF f m xs ∈ m :: xs := by
  induction xs generalizing m with
  | nil => simp [minF]
  | cons x r ih =>
    have := ih (if f x m < 0 then x else m)
    rw [List.mem_cons] at this
    show minF f (if f x m < 0 then x else m) r ∈ m :: x :: r
    rcases this with h | h
    · rw [h]; split <;> simp
    · simp [h]
def partVars (p : Pat) : List ByteArray := ((slotsOf p).filter fun s => decide (s.var ≠ ⟨#[]⟩)).map (·.var)
def minL (f : Int → Int → Int) : List Int → Int
  | [] => 0
  | x :: r => minF f x r
theorem minL_mem (f : Int → Int → Int) {l : List Int} (h : 0 < l.length) : minL f l ∈ l := by
  cases l with
  | nil => simp at h
  | cons x r => exact minF_mem f x r
def ordL (set : List Triple) (parts : List Pat) : Nat → List Int → List ByteArray → List Int
  | 0, _, _ => []
  | n + 1, left, kl => minL (cmpP set parts kl) left :: ordL set parts n (left.filter fun x => !decide (x = minL (cmpP set parts kl) left)) (kl ++ partVars (partAt parts (minL (cmpP set parts kl) left)))
def rangeI (n : Nat) : List Int := (List.range n).map fun (k : Nat) => (k : Int)
theorem mem_rangeI {n : Nat} {x : Int} : x ∈ rangeI n ↔ 0 ≤ x ∧ x < (n : Int) := by
  unfold rangeI
  rw [List.mem_map]
  constructor
  · rintro ⟨k, hk, rfl⟩; have := List.mem_range.1 hk; omega
  · rintro ⟨h1, h2⟩; exact ⟨x.toNat, List.mem_range.2 (by omega), by omega⟩
theorem rangeI_len (n : Nat) : (rangeI n).length = n := by simp [rangeI]
theorem rangeI_succ (n : Nat) : rangeI (n + 1) = rangeI n ++ [(n : Int)] := by simp [rangeI, List.range_succ]
theorem rangeI_nodup (n : Nat) : (rangeI n).Nodup := by
  unfold rangeI
  exact List.Pairwise.map _ (fun a b h e => h (by omega)) (List.nodup_range)
theorem rangeI_asc (n : Nat) : (rangeI n).Pairwise (· < ·) := by
  unfold rangeI
  exact List.Pairwise.map _ (fun a b h => by omega) (List.pairwise_lt_range)
def orderL (set : List Triple) (q : Query) : List Int := ordL set q.parts q.parts.length (rangeI q.parts.length) []
theorem filter_ne_len {l : List Int} (hn : l.Nodup) {b : Int} (hb : b ∈ l) : (l.filter fun x => !decide (x = b)).length + 1 = l.length := by
  induction l with
  | nil => simp at hb
  | cons a r ih =>
    rw [List.nodup_cons] at hn
    rw [List.filter_cons]
    by_cases e : a = b
    · subst e
      simp only [decide_true, Bool.not_true, Bool.false_eq_true, if_false, List.length_cons]
      congr 1
      rw [List.filter_eq_self.2 (fun x hx => by
        have : x ≠ a := fun e => hn.1 (e ▸ hx)
        simp [this])]
    · simp only [e, decide_false, Bool.not_false, if_true, List.length_cons]
      rcases List.mem_cons.1 hb with h | h
      · exact absurd h.symm e
      · rw [ih hn.2 h]
/-- The known names, as a map and as a list. -/
def KnownM (ms : List (ByteArray × Bool)) (kl : List ByteArray) : Prop := ∀ v, v ≠ ⟨#[]⟩ → (getM ms v).getD false = decide (v ∈ kl)
theorem KnownM.start : KnownM [] [] := fun v _ => by simp [getM_nil]
theorem KnownM.put {ms : List (ByteArray × Bool)} {kl : List ByteArray} (h : KnownM ms kl) (s : Slot) : KnownM (putM ms s.var (decide (s.var ≠ ⟨#[]⟩))) (kl ++ if s.var ≠ ⟨#[]⟩ then [s.var] else []) := fun v hv => by
  rw [getM_put]
  by_cases e : v = s.var
  · subst e
    simp [hv]
  · rw [if_neg e, h v hv]
    by_cases e2 : s.var = ⟨#[]⟩
    · simp [e2]
    · simp [e2, e]
/-- What the reference has found among the first k that are left. -/
structure Best (f : Int → Int → Int) (left : List Int) (k : Nat) (b : Int) : Prop where
  none : b = -1 → ∀ x ∈ left, ¬ x < (k : Int)
  some : b ≠ -1 → ∃ x r, left.filter (fun x => decide (x < (k : Int))) = x :: r ∧ b = minF f x r
theorem filter_lt_succ {left : List Int} (ha : left.Pairwise (· < ·)) (k : Nat) : left.filter (fun x => decide (x < ((k + 1 : Nat) : Int))) = left.filter (fun x => decide (x < (k : Int))) ++ if (k : Int) ∈ left then [(k : Int)] else [] := by
  induction left with
  | nil => simp
  | cons a r ih =>
    rw [List.pairwise_cons] at ha
    have ih := ih ha.2
    rw [List.filter_cons, List.filter_cons]
    rcases Int.lt_trichotomy a (k : Int) with h | h | h
    · rw [if_pos (by simp; omega), if_pos (by simp; omega), ih, List.cons_append]
      have : ((k : Int) ∈ a :: r) ↔ (k : Int) ∈ r := by rw [List.mem_cons]; constructor; (rintro (e | e); omega; exact e); exact .inr
      by_cases hm : (k : Int) ∈ r
      · rw [if_pos hm, if_pos (this.2 hm)]
      · rw [if_neg hm, if_neg (fun e => hm (this.1 e))]
    · subst h
      have h0 : r.filter (fun x => decide (x < (k : Int))) = [] := List.filter_eq_nil_iff.2 fun x hx => by have := ha.1 x hx; simp; omega
      have h1 : r.filter (fun x => decide (x < ((k + 1 : Nat) : Int))) = [] := List.filter_eq_nil_iff.2 fun x hx => by have := ha.1 x hx; simp; omega
      rw [if_pos (by simp; omega), if_neg (by simp), h0, h1, if_pos List.mem_cons_self]; rfl
    · have h0 : r.filter (fun x => decide (x < (k : Int))) = [] := List.filter_eq_nil_iff.2 fun x hx => by have := ha.1 x hx; simp; omega
      have h1 : r.filter (fun x => decide (x < ((k + 1 : Nat) : Int))) = [] := List.filter_eq_nil_iff.2 fun x hx => by have := ha.1 x hx; simp; omega
      rw [if_neg (by simp; omega), if_neg (by simp; omega), h0, h1, if_neg]; · rfl
      intro hm
      rcases List.mem_cons.1 hm with e | e
      · omega
      · have := ha.1 _ e; omega
theorem Best.start (f : Int → Int → Int) (left : List Int) (h : ∀ x ∈ left, 0 ≤ x) : Best f left 0 (-1) := ⟨fun _ x hx => by have := h x hx; omega, fun h => absurd rfl h⟩
theorem Best.skip {f : Int → Int → Int} {left : List Int} {k : Nat} {b : Int} (h : Best f left k b) (ha : left.Pairwise (· < ·)) (hn : ¬ (k : Int) ∈ left) : Best f left (k + 1) b :=
  ⟨fun e x hx hlt => h.none e x hx (by have : x ≠ (k : Int) := fun e => hn (e ▸ hx); omega), fun e => by rw [filter_lt_succ ha, if_neg hn, List.append_nil]; exact h.some e⟩
theorem Best.first {f : Int → Int → Int} {left : List Int} {k : Nat} (h : Best f left k (-1)) (ha : left.Pairwise (· < ·)) (hm : (k : Int) ∈ left) : Best f left (k + 1) (k : Int) :=
  ⟨fun e => by omega, fun _ => ⟨(k : Int), [], by
    rw [filter_lt_succ ha, if_pos hm, List.filter_eq_nil_iff.2 (fun x hx => by simpa using h.none rfl x hx)]; rfl, rfl⟩⟩
theorem Best.next {f : Int → Int → Int} {left : List Int} {k : Nat} {b : Int} (h : Best f left k b) (hb : b ≠ -1) (ha : left.Pairwise (· < ·)) (hm : (k : Int) ∈ left) : Best f left (k + 1) (if f (k : Int) b < 0 then (k : Int) else b) := by
  obtain ⟨x, r, h1, h2⟩ := h.some hb
  have e : left.filter (fun x => decide (x < ((k + 1 : Nat) : Int))) = x :: (r ++ [(k : Int)]) := by rw [filter_lt_succ ha, if_pos hm, h1]; rfl
  refine ⟨fun e' => ?_, fun _ => ⟨x, _, e, by rw [minF_snoc, h2]⟩⟩
  split at e'
  · omega
  · exact absurd e' hb
theorem Best.end {f : Int → Int → Int} {left : List Int} {n : Nat} {b : Int} (h : Best f left n b) (hlt : ∀ x ∈ left, x < (n : Int)) (h0 : 0 < left.length) : b ≠ -1 ∧ b = minL f left := by
  have hb : b ≠ -1 := fun e => by
    obtain ⟨x, hx⟩ := List.exists_mem_of_length_pos h0
    exact h.none e x hx (hlt x hx)
  obtain ⟨x, r, h1, h2⟩ := h.some hb
  rw [List.filter_eq_self.2 (fun x hx => by simpa using hlt x hx)] at h1
  exact ⟨hb, by rw [h1]; exact h2⟩
end Go.Proofs.YtjgcmpondbocfaaGreatDoor

/- Go's data as Lean's: how a slice of whatever elements reads; the types of package api. No condition. -/
import Derived.Test.YtjgcmpondbocfaaGreatDoorMem
namespace Go.Proofs.YtjgcmpondbocfaaGreatDoor
open Go.RowKit

/-- A slice value that reads as a list; R: what an element's cells say. -/
def RSl {α : Type} (R : World → List Value → α → Prop) (size : Nat) (w : World) (v : Value) (xs : List α) : Prop :=
  ∃ (A : Option Addr) (c : Nat), v = .slice A xs.length c ∧ xs.length ≤ c ∧ c ≤ 9223372036854775807 ∧
    (0 < xs.length → ∃ b o, A = some ⟨b, o, none⟩ ∧ ∀ (k : Nat) x, xs[k]? = some x → ∃ cs : List Value, cs.length = size ∧ CellsAt w b (o + k * size) cs ∧ R w cs x)

/-- What a reading says it says behind an extension too. -/
def Firm {α : Type} (R : World → List Value → α → Prop) : Prop := ∀ w w' cs x, Ext w w' → R w cs x → R w' cs x

theorem RSl.ext {α : Type} {R : World → List Value → α → Prop} (hR : Firm R) {size : Nat} {w w' : World} {v : Value} {xs : List α} (e : Ext w w') (h : RSl R size w v xs) : RSl R size w' v xs := by
  obtain ⟨A, c, hv, h1, h2, h3⟩ := h
  refine ⟨A, c, hv, h1, h2, fun hn => ?_⟩
  obtain ⟨b, o, hA, hc⟩ := h3 hn
  refine ⟨b, o, hA, fun k x hx => ?_⟩
  obtain ⟨cs, g1, g2, g3⟩ := hc k x hx
  exact ⟨cs, g1, e.cells g2, hR _ _ _ _ e g3⟩

/-- Elements whose cells are known: 'enc'. -/
def REnc {α : Type} (enc : α → List Value) : World → List Value → α → Prop := fun _ cs x => cs = enc x
theorem REnc.firm {α : Type} (enc : α → List Value) : Firm (REnc enc) := fun _ _ _ _ _ h => h

def encInt (n : Int) : List Value := [.int .i64 n]
def encStr (s : ByteArray) : List Value := [.string s]
abbrev RInts : World → Value → List Int → Prop := RSl (REnc encInt) 1
abbrev RStrs : World → Value → List ByteArray → Prop := RSl (REnc encStr) 1

/-- An element's cells, where the slice's address is known. -/
theorem RSl.at {α : Type} {R : World → List Value → α → Prop} {size : Nat} {w : World} {v : Value} {xs : List α} (h : RSl R size w v xs) (h0 : 0 < xs.length) :
    ∃ b o c, v = .slice (some ⟨b, o, none⟩) xs.length c ∧ xs.length ≤ c ∧ c ≤ 9223372036854775807 ∧ ∀ (k : Nat) x, xs[k]? = some x → ∃ cs : List Value, cs.length = size ∧ CellsAt w b (o + k * size) cs ∧ R w cs x := by
  obtain ⟨A, c, hv, h1, h2, h3⟩ := h
  obtain ⟨b, o, hA, hc⟩ := h3 h0
  subst hA
  exact ⟨b, o, c, hv, h1, h2, hc⟩
theorem RSl.form {α : Type} {R : World → List Value → α → Prop} {size : Nat} {w : World} {v : Value} {xs : List α} (h : RSl R size w v xs) :
    ∃ A c, v = .slice A xs.length c ∧ xs.length ≤ c ∧ c ≤ 9223372036854775807 := by
  obtain ⟨A, c, hv, h1, h2, _⟩ := h
  exact ⟨A, c, hv, h1, h2⟩
/-- An element's cells, of a reading whose elements are known. -/
theorem RSl.get {α : Type} {enc : α → List Value} {size : Nat} {w : World} {b o n c : Nat} {xs : List α} (h : RSl (REnc enc) size w (.slice (some ⟨b, o, none⟩) n c) xs) {k : Nat} {x : α} (hx : xs[k]? = some x) : CellsAt w b (o + k * size) (enc x) := by
  obtain ⟨A, c', hv, h1, h2, h3⟩ := h
  obtain ⟨b', o', hA, hc⟩ := h3 (by have := (List.getElem?_eq_some_iff.1 hx).1; omega)
  subst hA
  injection hv with e1 _ _
  injection e1 with e1
  injection e1 with e1 e2 _
  subst e1 e2
  obtain ⟨cs, _, hcs, rfl⟩ := hc k x hx
  exact hcs
theorem RSl.get' {α : Type} {enc : α → List Value} {size : Nat} {w : World} {A : Option Addr} {n c : Nat} {xs : List α} (h : RSl (REnc enc) size w (.slice A n c) xs) {k : Nat} {x : α} (hx : xs[k]? = some x) : ∃ b o, A = some ⟨b, o, none⟩ ∧ CellsAt w b (o + k * size) (enc x) := by
  obtain ⟨b, o, c', hv, _⟩ := h.at (by have := (List.getElem?_eq_some_iff.1 hx).1; omega)
  injection hv with e1 _ _
  subst e1
  exact ⟨b, o, rfl, h.get hx⟩
theorem RSl.len {α : Type} {R : World → List Value → α → Prop} {size : Nat} {w : World} {v : Value} {xs : List α} (h : RSl R size w v xs) : xs.length ≤ 9223372036854775807 := by
  obtain ⟨A, c, hv, h1, h2, _⟩ := h
  omega
/-- A reading through the slice's own block stands while that block does. -/
theorem RSl.chg {α : Type} {enc : α → List Value} {size : Nat} {S : Nat → Prop} {w w' : World} {v : Value} {xs : List α} (h : RSl (REnc enc) size w v xs) (c : Chg S w w') (hs : 0 < xs.length → ∀ k, v.ownBlock = some k → ¬ S k) : RSl (REnc enc) size w' v xs := by
  obtain ⟨A, cp, hv, h1, h2, h3⟩ := h
  refine ⟨A, cp, hv, h1, h2, fun hn => ?_⟩
  obtain ⟨b, o, hA, hc⟩ := h3 hn
  subst hA hv
  refine ⟨b, o, rfl, fun k x hx => ?_⟩
  obtain ⟨cs, g1, g2, g3⟩ := hc k x hx
  exact ⟨cs, g1, c.cells g2 (hs hn b rfl), g3⟩
theorem RSl.lt {α : Type} {enc : α → List Value} {size : Nat} {w : World} {v : Value} {xs : List α} (he : ∀ x, 0 < (enc x).length) (h : RSl (REnc enc) size w v xs) (h0 : 0 < xs.length) {k : Nat} (hk : v.ownBlock = some k) : k < w.heap.size := by
  obtain ⟨A, cp, hv, h1, h2, h3⟩ := h
  obtain ⟨b, o, hA, hc⟩ := h3 h0
  subst hA hv
  have : b = k := by simpa [Value.ownBlock] using hk
  subst this
  obtain ⟨cs, g1, g2, g3⟩ := hc 0 xs[0] (List.getElem?_eq_getElem h0)
  have hl := he xs[0]
  rw [← g3] at hl
  exact World.block_lt_of_cell? w _ (g2 0 cs[0] (List.getElem?_eq_getElem hl))
theorem RSl.nil {α : Type} (R : World → List Value → α → Prop) (size : Nat) (w : World) : RSl R size w (.slice none 0 0) ([] : List α) :=
  ⟨none, 0, rfl, Nat.le_refl _, by omega, fun h => absurd h (by simp)⟩

/-- A row of the call's own reads so. -/
theorem RSl.own {α : Type} (enc : α → List Value) {size : Nat} (henc : ∀ x, (enc x).length = size) {w : World} {base : Nat} {e : TypeId} {v : Value} {xs : List α} (h : w.ownsRow base e size v xs.length (xs.flatMap enc)) :
    RSl (REnc enc) size w v xs := by
  rcases h.2 with ⟨rfl, h0⟩ | ⟨g, cap, cur, rfl, hb, hh, h1, h2, h3, h4⟩
  · have : xs = [] := List.eq_nil_of_length_eq_zero h0
    subst this
    exact RSl.nil _ _ _
  · refine ⟨some ⟨g, 0, none⟩, cap, rfl, h1, by simpa [maxLen] using h2, fun _ => ⟨g, 0, rfl, fun k x hx => ⟨enc x, henc x, fun i u hu => ?_, rfl⟩⟩⟩
    have hc := h.cells (g := g) rfl (k * size + i) u ?_
    · rw [add_lit] at hc
      rwa [show 0 + k * size + i = 0 + (k * size + i) by omega]
    · have hi : i < (enc x).length := (List.getElem?_eq_some_iff.1 hu).1
      have key : ∀ (xs : List α) (k : Nat), xs[k]? = some x → (xs.flatMap enc)[k * size + i]? = some u := by
        intro xs
        induction xs with
        | nil => intro k hk; simp at hk
        | cons y ys ih =>
          intro k hk
          rw [List.flatMap_cons]
          cases k with
          | zero =>
            have : y = x := by simpa using hk
            subst this
            rw [Nat.zero_mul, Nat.zero_add, List.getElem?_append_left hi]
            exact hu
          | succ k =>
            rw [List.getElem?_append_right (by rw [henc, Nat.succ_mul]; omega), henc, show (k + 1) * size + i - size = k * size + i by rw [Nat.succ_mul]; omega]
            exact ih k (by simpa using hk)
      exact key xs k hx

structure Commit where
  parents : List Int
  layer : Int
  msg : ByteArray
def RCommit : World → List Value → Commit → Prop := fun w cs c => ∃ pv, cs = [pv, .int .i64 c.layer, .string c.msg] ∧ RInts w pv c.parents
theorem RCommit.firm : Firm RCommit := fun _ _ _ _ e ⟨pv, h1, h2⟩ => ⟨pv, h1, h2.ext (REnc.firm _) e⟩
theorem take_snoc {α : Type} {xs : List α} {k : Nat} {x : α} (h : xs[k]? = some x) : xs.take (k + 1) = xs.take k ++ [x] := by
  obtain ⟨hk, rfl⟩ := List.getElem?_eq_some_iff.1 h
  rw [List.take_succ_eq_append_getElem hk]
theorem get_of_lt {α : Type} {xs : List α} {k : Nat} (h : k < xs.length) : ∃ x, xs[k]? = some x := ⟨xs[k], List.getElem?_eq_getElem h⟩
theorem lt_of_get {α : Type} {xs : List α} {k : Nat} {x : α} (h : xs[k]? = some x) : k < xs.length := (List.getElem?_eq_some_iff.1 h).1
end Go.Proofs.YtjgcmpondbocfaaGreatDoor

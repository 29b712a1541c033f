/- Terms and triples as plain data: what is wrong with one, which comes first, sets of them. No condition. -/
import Derived.Test.YtjgcmpondbocfaaGreatDoorListPure
import Derived.Lib.Bytealg
namespace Go.Proofs.YtjgcmpondbocfaaGreatDoor

/-! ### orders -/
structure IsCmp {α : Type} (f : α → α → Int) : Prop where
  eq : ∀ a b, f a b = 0 ↔ a = b
  neg : ∀ a b, f b a = - f a b
  trans : ∀ a b c, f a b < 0 → f b c < 0 → f a c < 0
def cmpI (a b : Int) : Int := if a < b then -1 else if b < a then 1 else 0
theorem cmpI_lt {a b : Int} : cmpI a b < 0 ↔ a < b := by
  unfold cmpI; split
  · omega
  · split <;> omega
theorem cmpI_is : IsCmp cmpI := by
  refine ⟨fun a b => ?_, fun a b => ?_, fun a b c h1 h2 => ?_⟩
  · unfold cmpI; split
    · omega
    · split <;> omega
  · unfold cmpI; split <;> split <;> first | omega | (split <;> omega) | rfl
  · rw [cmpI_lt] at *; omega
def cmpL : List UInt8 → List UInt8 → Int := Go.Lib.compareBytes
theorem u8_lt {a b : UInt8} : a < b ↔ a.toNat < b.toNat := Iff.rfl
theorem u8_eq {a b : UInt8} : a = b ↔ a.toNat = b.toNat := ⟨fun h => by rw [h], fun h => UInt8.toNat_inj.1 h⟩
theorem cmpL_is : IsCmp cmpL := by
  refine ⟨?_, ?_, ?_⟩
  · intro a
    induction a with
    | nil => intro b; cases b <;> simp [cmpL, Go.Lib.compareBytes]
    | cons x xs ih =>
      intro b
      cases b with
      | nil => simp [cmpL, Go.Lib.compareBytes]
      | cons y ys =>
        have := ih ys
        simp only [cmpL, Go.Lib.compareBytes] at this ⊢
        have e := u8_eq (a := x) (b := y)
        split
        · rename_i h; rw [u8_lt] at h
          simp only [List.cons.injEq, e]; omega
        · rename_i h; rw [u8_lt] at h
          split
          · rename_i h'; rw [u8_lt] at h'
            simp only [List.cons.injEq, e]; omega
          · rename_i h'; rw [u8_lt] at h'
            rw [this]
            simp only [List.cons.injEq, e]
            constructor
            · intro h; exact ⟨by omega, h⟩
            · exact fun h => h.2
  · intro a
    induction a with
    | nil => intro b; cases b <;> simp [cmpL, Go.Lib.compareBytes]
    | cons x xs ih =>
      intro b
      cases b with
      | nil => simp [cmpL, Go.Lib.compareBytes]
      | cons y ys =>
        have := ih ys
        simp only [cmpL, Go.Lib.compareBytes] at this ⊢
        simp only [u8_lt]
        split
        · rw [if_neg (by omega)]
        · split
          · rfl
          · rw [this]
  · intro a
    induction a with
    | nil => intro b c; cases b <;> cases c <;> simp [cmpL, Go.Lib.compareBytes]
    | cons x xs ih =>
      intro b c
      cases b with
      | nil => simp [cmpL, Go.Lib.compareBytes]
      | cons y ys =>
        cases c with
        | nil => simp [cmpL, Go.Lib.compareBytes]
        | cons z zs =>
          have := ih ys zs
          simp only [cmpL, Go.Lib.compareBytes, u8_lt] at this ⊢
          intro h1 h2
          split at h1
          · split at h2
            · rw [if_pos (by omega)]; omega
            · split at h2
              · omega
              · rw [if_pos (by omega)]; omega
          · split at h1
            · omega
            · split at h2
              · rw [if_pos (by omega)]; omega
              · split at h2
                · omega
                · rw [if_neg (by omega), if_neg (by omega)]; exact this h1 h2
def cmpS (a b : ByteArray) : Int := cmpL a.data.toList b.data.toList
theorem bytes_inj {a b : ByteArray} (h : a.data.toList = b.data.toList) : a = b := by
  cases a; cases b; simp only at h; rw [Array.toList_inj.1 h]
theorem cmpS_is : IsCmp cmpS := ⟨fun a b => (cmpL_is.eq _ _).trans ⟨bytes_inj, fun h => by rw [h]⟩, fun a b => cmpL_is.neg _ _, fun a b c => cmpL_is.trans _ _ _⟩
def orI (a b : Int) : Int := if a ≠ 0 then a else b
def firstI : List Int → Int
  | [] => 0
  | x :: r => if x ≠ 0 then x else firstI r
theorem firstI3 (a b c : Int) : firstI [a, b, c] = orI a (orI b c) := by
  simp only [firstI, orI]
  by_cases h : c = 0 <;> simp [h]
theorem firstI2 (a b : Int) : firstI [a, b] = orI a b := by
  simp only [firstI, orI]
  by_cases h : b = 0 <;> simp [h]
theorem drop_at {α : Type} {xs : List α} {k : Nat} {x : α} (h : xs[k]? = some x) : xs.drop k = x :: xs.drop (k + 1) := by
  obtain ⟨hk, rfl⟩ := List.getElem?_eq_some_iff.1 h
  exact List.drop_eq_getElem_cons hk
theorem IsCmp.lex {α β : Type} {f : α → α → Int} {g : β → β → Int} (hf : IsCmp f) (hg : IsCmp g) : IsCmp (fun (a b : α × β) => orI (f a.1 b.1) (g a.2 b.2)) := by
  refine ⟨fun a b => ?_, fun a b => ?_, fun a b c => ?_⟩
  · have h1 := hf.eq a.1 b.1; have h2 := hg.eq a.2 b.2
    unfold orI
    rw [Prod.ext_iff]
    split
    · rename_i h; constructor
      · intro e; exact absurd e h
      · intro e; exact absurd (h1.2 e.1) h
    · rename_i h
      have h0 := h1.1 (by simpa using h)
      rw [h2]; exact ⟨fun e => ⟨h0, e⟩, fun e => e.2⟩
  · have h1 := hf.neg a.1 b.1; have h2 := hg.neg a.2 b.2
    unfold orI
    rw [h1, h2]
    split <;> split <;> first | rfl | omega
  · have h1 := hf.trans a.1 b.1 c.1; have h2 := hg.trans a.2 b.2 c.2
    have e1 := hf.eq a.1 b.1; have e2 := hf.eq b.1 c.1
    unfold orI
    intro k1 k2
    by_cases c1 : f a.1 b.1 = 0
    · rw [if_neg (by simpa using c1)] at k1
      by_cases c2 : f b.1 c.1 = 0
      · rw [if_neg (by simpa using c2)] at k2
        have : f a.1 c.1 = 0 := (hf.eq _ _).2 ((e1.1 c1).trans (e2.1 c2))
        rw [if_neg (by simpa using this)]
        exact h2 k1 k2
      · rw [if_pos c2] at k2
        rw [e1.1 c1, if_pos c2]; exact k2
    · rw [if_pos c1] at k1
      by_cases c2 : f b.1 c.1 = 0
      · rw [if_neg (by simpa using c2)] at k2
        rw [← e2.1 c2, if_pos c1]; exact k1
      · rw [if_pos c2] at k2
        have := h1 k1 k2
        rw [if_pos (by omega)]; exact this
theorem IsCmp.map {α β : Type} {f : α → α → Int} (hf : IsCmp f) (g : β → α) (hg : ∀ a b, g a = g b → a = b) : IsCmp (fun a b => f (g a) (g b)) :=
  ⟨fun a b => (hf.eq _ _).trans ⟨hg a b, fun h => by rw [h]⟩, fun a b => hf.neg _ _, fun a b c => hf.trans _ _ _⟩
section
variable {α : Type} {f : α → α → Int}
theorem IsCmp.refl (h : IsCmp f) (a : α) : f a a = 0 := (h.eq a a).2 rfl
/-! ### lists that rise -/
def Rises (f : α → α → Int) (l : List α) : Prop := l.Pairwise fun a b => f a b < 0
theorem Rises.nodup (h : IsCmp f) {l : List α} (hl : Rises f l) : l.Nodup := List.Pairwise.imp (fun {a b} hab e => by subst e; have := h.refl a; omega) hl
theorem Rises.eq (h : IsCmp f) : ∀ {a b : List α}, Rises f a → Rises f b → (∀ x, x ∈ a ↔ x ∈ b) → a = b
  | [], [], _, _, _ => rfl
  | [], y :: b, _, _, hm => absurd ((hm y).2 List.mem_cons_self) (by simp)
  | x :: a, [], _, _, hm => absurd ((hm x).1 List.mem_cons_self) (by simp)
  | x :: a, y :: b, ha, hb, hm => by
    unfold Rises at ha hb
    rw [List.pairwise_cons] at ha hb
    have hxy : x = y := by
      rcases List.mem_cons.1 ((hm x).1 List.mem_cons_self) with e | h1
      · exact e
      · rcases List.mem_cons.1 ((hm y).2 List.mem_cons_self) with e | h2
        · exact e.symm
        · have k1 := hb.1 x h1; have k2 := ha.1 y h2
          rw [h.neg] at k1; omega
    subst hxy
    have := Rises.eq h ha.2 hb.2 (fun z => by
      have := hm z
      simp only [List.mem_cons] at this
      constructor
      · intro hz
        rcases this.1 (.inr hz) with e | e
        · subst e; have := ha.1 z hz; rw [h.refl] at this; omega
        · exact e
      · intro hz
        rcases this.2 (.inr hz) with e | e
        · subst e; have := hb.1 z hz; rw [h.refl] at this; omega
        · exact e)
    rw [this]
theorem Rises.filter {l : List α} (hl : Rises f l) (p : α → Bool) : Rises f (l.filter p) := List.Pairwise.sublist List.filter_sublist hl
end

/-! ### terms, triples -/
structure Term where
  kind : Int
  s : ByteArray
  lang : ByteArray
structure Triple where
  s : Term
  p : Term
  o : Term
theorem Term.ext' {a b : Term} (h1 : a.kind = b.kind) (h2 : a.s = b.s) (h3 : a.lang = b.lang) : a = b := by cases a; cases b; simp only at h1 h2 h3; rw [h1, h2, h3]
theorem Triple.ext' {a b : Triple} (h1 : a.s = b.s) (h2 : a.p = b.p) (h3 : a.o = b.o) : a = b := by cases a; cases b; simp only at h1 h2 h3; rw [h1, h2, h3]
instance : DecidableEq Term := fun a b => if h : a.kind = b.kind ∧ a.s = b.s ∧ a.lang = b.lang then isTrue (Term.ext' h.1 h.2.1 h.2.2) else isFalse (fun e => h (by rw [e]; exact ⟨rfl, rfl, rfl⟩))
instance : DecidableEq Triple := fun a b => if h : a.s = b.s ∧ a.p = b.p ∧ a.o = b.o then isTrue (Triple.ext' h.1 h.2.1 h.2.2) else isFalse (fun e => h (by rw [e]; exact ⟨rfl, rfl, rfl⟩))
def encTerm (t : Term) : List Value := [.int .i64 t.kind, .string t.s, .string t.lang]
def encTriple (t : Triple) : List Value := encTerm t.s ++ (encTerm t.p ++ encTerm t.o)
theorem encTerm_len (t : Term) : (encTerm t).length = 3 := rfl
theorem encTriple_len (t : Triple) : (encTriple t).length = 9 := rfl
abbrev RTriples : World → Value → List Triple → Prop := RSl (REnc encTriple) 9
abbrev RTerms : World → Value → List Term → Prop := RSl (REnc encTerm) 3
theorem one_term (t : Term) : ∀ u ∈ encTerm t, u.oneCell' = true := by
  intro u hu; simp only [encTerm, List.mem_cons, List.not_mem_nil, or_false] at hu
  rcases hu with rfl | rfl | rfl <;> rfl
theorem one_triple (t : Triple) : ∀ u ∈ encTriple t, u.oneCell' = true := by
  intro u hu; simp only [encTriple, List.mem_append] at hu
  rcases hu with h | h | h <;> exact one_term _ u h

theorem triple_s {w : World} {b : Nat} {t : TypeId} {x : Triple} (h : Blk w b t (encTriple x)) : CellsAt w b 0 (encTerm x.s) := fun i v hv => by
  refine h.cells.at i ?_
  rw [encTriple, List.getElem?_append_left (lt_of_get hv)]; exact hv
theorem triple_p {w : World} {b : Nat} {t : TypeId} {x : Triple} (h : Blk w b t (encTriple x)) : CellsAt w b 3 (encTerm x.p) := fun i v hv => by
  rw [Nat.add_comm]
  have := h.cells.at (i + 3) (v := v) (by
    rw [encTriple, List.getElem?_append_right (by rw [encTerm_len]; omega), encTerm_len, Nat.add_sub_cancel, List.getElem?_append_left (lt_of_get hv)]; exact hv)
  rwa [Nat.zero_add] at this
theorem triple_o {w : World} {b : Nat} {t : TypeId} {x : Triple} (h : Blk w b t (encTriple x)) : CellsAt w b 6 (encTerm x.o) := fun i v hv => by
  rw [Nat.add_comm]
  have := h.cells.at (i + 6) (v := v) (by
    rw [encTriple, List.getElem?_append_right (by rw [encTerm_len]; omega), encTerm_len, List.getElem?_append_right (by rw [encTerm_len]; omega), encTerm_len, show i + 6 - 3 - 3 = i by omega]; exact hv)
  rwa [Nat.zero_add] at this
def termCmp (a b : Term) : Int := orI (cmpI a.kind b.kind) (orI (cmpS a.s b.s) (cmpS a.lang b.lang))
theorem termCmp_is : IsCmp termCmp :=
  (cmpI_is.lex (cmpS_is.lex cmpS_is)).map (fun t : Term => (t.kind, t.s, t.lang)) (fun a b h => by simp only [Prod.mk.injEq] at h; exact Term.ext' h.1 h.2.1 h.2.2)
def tripCmp (a b : Triple) : Int := orI (termCmp a.s b.s) (orI (termCmp a.p b.p) (termCmp a.o b.o))
theorem tripCmp_is : IsCmp tripCmp :=
  (termCmp_is.lex (termCmp_is.lex termCmp_is)).map (fun t : Triple => (t.s, t.p, t.o)) (fun a b h => by simp only [Prod.mk.injEq] at h; exact Triple.ext' h.1 h.2.1 h.2.2)

def letterB (c : UInt8) : Bool := decide (97 ≤ (c.toNat : Int)) && decide ((c.toNat : Int) ≤ 122)
def digitB (c : UInt8) : Bool := decide (48 ≤ (c.toNat : Int)) && decide ((c.toNat : Int) ≤ 57)
def nameB (c : UInt8) : Bool := letterB c || (digitB c || (decide ((c.toNat : Int) = 58) || (decide ((c.toNat : Int) = 47) || decide ((c.toNat : Int) = 46))))
def anonB (c : UInt8) : Bool := letterB c || digitB c
def printB (c : UInt8) : Bool := decide (32 ≤ (c.toNat : Int)) && decide ((c.toNat : Int) ≤ 126)
def okByte (kind : Int) (c : UInt8) : Bool := if kind = 1 then nameB c else if kind = 2 then anonB c else printB c
def kindB (k : Int) : Bool := decide (1 ≤ k) && decide (k ≤ 3)
def firstLetter (s : ByteArray) : Bool := match s.data.toList with | [] => false | c :: _ => letterB c
def textB (t : Term) : Bool := t.s.data.toList.all (okByte t.kind) && (!(decide (t.kind ≠ 3) && decide (t.s = ⟨#[]⟩)) && !(decide (t.kind = 1) && !firstLetter t.s))
def langB (t : Term) : Bool := !(decide (t.lang ≠ ⟨#[]⟩) && (decide (t.kind ≠ 3) || (decide ((t.lang.size : Int) ≠ 2) || !(t.lang.data.toList.all letterB))))
def termErr (t : Term) : Option Int :=
  if kindB t.kind = false then some 1 else if 24 < (t.s.size : Int) then some 4 else if textB t = false then some 2 else if langB t = false then some 2 else none
theorem not_any {α : Type} (xs : List α) (p : α → Bool) : (!(xs.any fun x => !p x)) = xs.all p := by
  induction xs with
  | nil => rfl
  | cons x xs ih => rw [List.any_cons, List.all_cons, ← ih]; cases p x <;> simp
theorem bytes_first {s : ByteArray} (h : ¬ s = ⟨#[]⟩) : ∃ c, s.data.toList[0]? = some c ∧ firstLetter s = letterB c := by
  cases hs : s.data.toList with
  | nil => exact absurd (bytes_inj hs) h
  | cons c r => exact ⟨c, rfl, by unfold firstLetter; rw [hs]⟩
/-- The first fault of some. -/
def firstE (l : List (Option Int)) : Option Int := match l with
  | [] => none
  | a :: r => match a with
    | some e => some e
    | none => firstE r
theorem firstE_some {a : Option Int} {r : List (Option Int)} (h : a.isSome = true) : firstE (a :: r) = a := by
  cases a with
  | none => cases h
  | some e => rfl
theorem firstE_none {a : Option Int} {r : List (Option Int)} (h : a.isSome = false) : firstE (a :: r) = firstE r := by
  cases a with
  | none => rfl
  | some e => cases h
def shapeB (t : Triple) : Bool := decide (t.s.kind ≠ 3) && decide (t.p.kind = 1)
def termsOf (t : Triple) : List Term := [t.s, t.p, t.o]
def tripErr (t : Triple) : Option Int := match firstE ((termsOf t).map termErr) with
  | some e => some e
  | none => if shapeB t then none else some 3
/-- What is wrong with a set, from some place on, behind what stands ahead. -/
def setErrFrom : Option Triple → List Triple → Option Int
  | _, [] => none
  | prev, t :: r => match tripErr t with
    | some e => some e
    | none => match prev with
      | some q => if 0 ≤ tripCmp q t then some 6 else setErrFrom (some t) r
      | none => setErrFrom (some t) r
theorem setErrFrom_cons (prev : Option Triple) (t : Triple) (r : List Triple) : setErrFrom prev (t :: r) = match tripErr t with
    | some e => some e
    | none => match prev with
      | some q => if 0 ≤ tripCmp q t then some 6 else setErrFrom (some t) r
      | none => setErrFrom (some t) r := by cases prev <;> rfl
def setErr (l : List Triple) : Option Int := if 200 < l.length then some 4 else setErrFrom none l
theorem setErrFrom_ok : ∀ {l : List Triple} {prev : Option Triple}, setErrFrom prev l = none → (∀ t ∈ l, tripErr t = none) ∧ Rises tripCmp l ∧ ∀ q, prev = some q → ∀ t ∈ l, tripCmp q t < 0
  | [], _, _ => ⟨by simp, List.Pairwise.nil, by simp⟩
  | t :: r, prev, h => by
    rw [setErrFrom_cons] at h
    cases ht : tripErr t with
    | some e => rw [ht] at h; cases h
    | none =>
      rw [ht] at h
      have hr : setErrFrom (some t) r = none ∧ ∀ q, prev = some q → tripCmp q t < 0 := by
        cases prev with
        | none => exact ⟨h, fun q hq => by cases hq⟩
        | some q =>
          simp only at h
          split at h
          · cases h
          · rename_i hlt
            exact ⟨h, fun q' hq => by injection hq with hq; subst hq; omega⟩
      obtain ⟨h1, h2, h3⟩ := setErrFrom_ok hr.1
      refine ⟨fun x hx => ?_, List.pairwise_cons.2 ⟨h3 t rfl, h2⟩, fun q hq x hx => ?_⟩
      · rcases List.mem_cons.1 hx with rfl | hx
        · exact ht
        · exact h1 x hx
      · rcases List.mem_cons.1 hx with rfl | hx
        · exact hr.2 q hq
        · exact tripCmp_is.trans _ _ _ (hr.2 q hq) (h3 t rfl x hx)
theorem setErrFrom_of : ∀ {l : List Triple} {prev : Option Triple}, (∀ t ∈ l, tripErr t = none) → Rises tripCmp l → (∀ q, prev = some q → ∀ t ∈ l, tripCmp q t < 0) → setErrFrom prev l = none
  | [], _, _, _, _ => rfl
  | t :: r, prev, h1, h2, h3 => by
    unfold Rises at h2
    rw [List.pairwise_cons] at h2
    rw [setErrFrom_cons, h1 t List.mem_cons_self]
    have hr := setErrFrom_of (l := r) (prev := some t) (fun x hx => h1 x (List.mem_cons_of_mem _ hx)) h2.2 (fun q hq x hx => by injection hq with hq; subst hq; exact h2.1 x hx)
    cases prev with
    | none => exact hr
    | some q =>
      have := h3 q rfl t List.mem_cons_self
      simp only
      rw [if_neg (by omega)]; exact hr
/-- A set that is right. -/
structure IsSet (l : List Triple) : Prop where
  few : l.length ≤ 200
  ok : ∀ t ∈ l, tripErr t = none
  rises : Rises tripCmp l
def pvL (l : List Triple) : Nat → Option Triple
  | 0 => none
  | k + 1 => l[k]?
theorem pv_next {l : List Triple} {k : Nat} {t : Triple} (h : l[k]? = some t) : pvL l (k + 1) = some t := h
theorem pv_prev {l : List Triple} {k : Nat} {t : Triple} (h0 : 0 < k) (h : l[k - 1]? = some t) : pvL l k = some t := by
  obtain ⟨j, rfl⟩ : ∃ j, k = j + 1 := ⟨k - 1, by omega⟩
  exact h
theorem setErr_iff {l : List Triple} : setErr l = none ↔ IsSet l := by
  unfold setErr
  constructor
  · intro h
    split at h
    · cases h
    · rename_i hl
      obtain ⟨h1, h2, _⟩ := setErrFrom_ok h
      exact ⟨by omega, h1, h2⟩
  · intro ⟨h1, h2, h3⟩
    rw [if_neg (by omega)]
    exact setErrFrom_of h2 h3 (fun q hq => by cases hq)
/-- What is, or is not, in another set. -/
def partL (a b : List Triple) (is : Bool) : List Triple := a.filter fun t => decide (t ∈ b) == is
theorem IsSet.part {a : List Triple} (h : IsSet a) (b : List Triple) (is : Bool) : IsSet (partL a b is) :=
  ⟨Nat.le_trans (List.length_filter_le _ _) h.few, fun t ht => h.ok t (List.mem_filter.1 ht).1, h.rises.filter _⟩
/-! ### slices as values -/
structure Hd where
  A : Option Addr
  n : Nat
  c : Nat
def Hd.val (h : Hd) : Value := .slice h.A h.n h.c
def encHd (h : Hd) : List Value := [h.val]
theorem encHd_len (x : Hd) : (encHd x).length = 1 := rfl
theorem one_hd : ∀ x, ∀ u ∈ encHd x, u.oneCell' = true := by
  intro x u hu; simp only [encHd, List.mem_singleton] at hu; subst hu; rfl
end Go.Proofs.YtjgcmpondbocfaaGreatDoor

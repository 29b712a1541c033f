/- Pairs of terms, sides, what comes of two that came of one: plain data. No condition. -/
import Derived.Test.YtjgcmpondbocfaaGreatDoorTermPure
import Derived.Test.YtjgcmpondbocfaaGreatDoorMaps
namespace Go.Proofs.YtjgcmpondbocfaaGreatDoor

structure Clash where
  s : Term
  p : Term
deriving DecidableEq
instance : Inhabited Term := ⟨⟨0, ⟨#[]⟩, ⟨#[]⟩⟩⟩
instance : Inhabited Clash := ⟨⟨default, default⟩⟩
instance : Inhabited Triple := ⟨⟨default, default, default⟩⟩
def clashCmp (a b : Clash) : Int := orI (termCmp a.s b.s) (termCmp a.p b.p)
theorem clashCmp_is : IsCmp clashCmp :=
  (termCmp_is.lex termCmp_is).map (fun c : Clash => (c.s, c.p)) (fun a b h => by simp only [Prod.mk.injEq] at h; cases a; cases b; simp only at h; rw [h.1, h.2])
def keyOf (t : Triple) : Clash := ⟨t.s, t.p⟩
/-- The triples of a pair. -/
def sideOf (l : List Triple) (k : Clash) : List Triple := l.filter fun t => decide (keyOf t = k)
theorem sideOf_snoc (l : List Triple) (t : Triple) (k : Clash) : sideOf (l ++ [t]) k = sideOf l k ++ if keyOf t = k then [t] else [] := by
  unfold sideOf
  rw [List.filter_append]
  congr 1
  by_cases h : keyOf t = k <;> simp [h]
/-- The pairs of some sets, rising: told by what is in it. -/
structure IsPairs (ls : List (List Triple)) (ks : List Clash) : Prop where
  rises : Rises clashCmp ks
  mem : ∀ k, k ∈ ks ↔ ∃ l ∈ ls, ∃ t ∈ l, keyOf t = k
/-! ### sides in memory -/
/-- The sides of a set: keys and slices; each slice a row of its own. -/
structure SidesO (T : TypeId) (B : Nat) (w : World) (l : List Triple) (ms : List (Clash × Hd)) : Prop where
  own : ∀ k h, getM ms k = some h → Own encTriple 9 B T w h.val (sideOf l k)
  emp : ∀ k, getM ms k = none → sideOf l k = []
  apart : ∀ k k' h h' x, getM ms k = some h → getM ms k' = some h' → k ≠ k' → h.val.ownBlock = some x → h'.val.ownBlock ≠ some x
  full : ∀ k h, getM ms k = some h → sideOf l k ≠ []
theorem SidesO.chg {T : TypeId} {B : Nat} {w w' : World} {l : List Triple} {ms : List (Clash × Hd)} {S : Nat → Prop} (h : SidesO T B w l ms) (c : Chg S w w') (hs : ∀ k hd, getM ms k = some hd → ∀ x, hd.val.ownBlock = some x → ¬ S x) : SidesO T B w' l ms :=
  ⟨fun k hd hk => (h.own k hd hk).chg c (hs k hd hk), h.emp, h.apart, h.full⟩
theorem SidesO.ext {T : TypeId} {B : Nat} {w w' : World} {l : List Triple} {ms : List (Clash × Hd)} (h : SidesO T B w l ms) (c : Ext w w') : SidesO T B w' l ms := h.chg c fun _ _ _ _ _ h => h
theorem SidesO.start (T : TypeId) (B : Nat) (w : World) : SidesO T B w [] [] := ⟨fun k h e => by simp [getM_nil] at e, fun k _ => rfl, fun k k' h h' x e => by simp [getM_nil] at e, fun k h e => by simp [getM_nil] at e⟩
theorem SidesO.lower {T : TypeId} {B B' : Nat} {w : World} {l : List Triple} {ms : List (Clash × Hd)} (h : SidesO T B w l ms) (hb : B' ≤ B) : SidesO T B' w l ms := ⟨fun k hd hk => (h.own k hd hk).lower hb, h.emp, h.apart, h.full⟩
/-- One more triple. -/
theorem SidesO.step {T : TypeId} {B : Nat} {w w' : World} {l : List Triple} {ms : List (Clash × Hd)} {t : Triple} {h' : Hd} (h : SidesO T B w l ms) (hl : ∀ k hd, getM ms k = some hd → ∀ x, hd.val.ownBlock = some x → x < w.heap.size)
    (ho : Own encTriple 9 B T w' h'.val (sideOf l (keyOf t) ++ [t])) (c : Chg (fun x => ((getM ms (keyOf t)).getD ⟨none, 0, 0⟩).val.ownBlock = some x) w w') (hat : h'.val.ownBlock = ((getM ms (keyOf t)).getD ⟨none, 0, 0⟩).val.ownBlock ∨ ∃ n, h'.val.ownBlock = some n ∧ w.heap.size ≤ n) :
    SidesO T B w' (l ++ [t]) (putM ms (keyOf t) h') := by
  have old : ∀ k hd, getM ms k = some hd → k ≠ keyOf t → ∀ x, hd.val.ownBlock = some x → h'.val.ownBlock ≠ some x := fun k hd hk hne x hx hx' => by
    rcases hat with e | ⟨n, e, hn⟩
    · rw [e] at hx'
      cases hg : getM ms (keyOf t) with
      | none => rw [hg] at hx'; cases hx'
      | some hd' => rw [hg] at hx'; exact h.apart k (keyOf t) hd hd' x hk hg hne hx hx'
    · rw [e] at hx'; injection hx' with hx'; subst hx'
      have := hl k hd hk _ hx; omega
  refine ⟨fun k hd hk => ?_, fun k hk => ?_, fun k k' h1 h2 x hk hk' hne hx => ?_, fun k hd hk => ?_⟩
  rotate_right
  · rw [sideOf_snoc]
    by_cases e : keyOf t = k
    · rw [if_pos e]; simp
    · rw [getM_put, if_neg (fun e' => e e'.symm)] at hk
      rw [if_neg e, List.append_nil]; exact h.full k hd hk
  · rw [getM_put] at hk
    split at hk
    · rename_i e
      injection hk with hk; subst hk
      rw [sideOf_snoc, e, if_pos rfl]; exact ho
    · rename_i hne
      rw [sideOf_snoc, if_neg (fun e => hne e.symm), List.append_nil]
      refine (h.own k hd hk).chg c fun x hx hx' => ?_
      cases hg : getM ms (keyOf t) with
      | none => rw [hg] at hx'; cases hx'
      | some hd' => rw [hg] at hx'; exact h.apart k (keyOf t) hd hd' x hk hg hne hx hx'
  · rw [getM_put] at hk
    split at hk
    · cases hk
    · rename_i hne
      rw [sideOf_snoc, if_neg (fun e => hne e.symm), List.append_nil]; exact h.emp k hk
  · rw [getM_put] at hk hk'
    split at hk
    · rename_i e
      injection hk with hk; subst hk
      rw [if_neg (fun e' => hne (e.trans e'.symm))] at hk'
      exact fun hx' => old k' h2 hk' (fun e' => hne (e.trans e'.symm)) x hx' hx
    · rename_i hn
      split at hk'
      · injection hk' with hk'; subst hk'
        exact old k h1 hk hn x hx
      · exact h.apart k k' h1 h2 x hk hk' hne hx

theorem Own.notMap {α : Type} {enc : α → List Value} {size base : Nat} {e : TypeId} {w : World} {v : Value} {xs : List α} (h : Own enc size base e w v xs) {b : Nat} (hb : ∃ es cl, w.heap[b]? = some (.map es cl)) {x : Nat} (hx : v.ownBlock = some x) : x ≠ b := fun e => by
  subst e
  obtain ⟨es, cl, hb⟩ := hb
  rcases h.2 with ⟨rfl, _⟩ | ⟨g, cap, cur, rfl, _, hg, _⟩
  · cases hx
  · injection hx with hx; subst hx
    rw [hb] at hg; injection hg with hg; cases hg
theorem MapB.isMap {α β : Type} {encK : α → Value} {encV : β → Value} {w : World} {b : Nat} {ms : List (α × β)} (h : MapB encK encV w b ms) : ∃ es cl, w.heap[b]? = some (.map es cl) := by
  obtain ⟨es, cl, hb, _⟩ := h; exact ⟨es, cl, hb⟩
theorem MapS.chg {α β : Type} {encK : α → Value} {encV : β → Value} {w w' : World} {b : Nat} {ms : List (α × β)} {k : α} {st : Nat} {S : Nat → Prop} (h : MapS encK encV w b ms k st) (c : Chg S w w') (hs : ¬ S b) : MapS encK encV w' b ms k st := by
  obtain ⟨es, cl, hb, rest⟩ := h
  exact ⟨es, cl, (c.block b (Array.getElem?_eq_some_iff.1 hb).1 hs).trans hb, rest⟩
theorem MapS.ext {α β : Type} {encK : α → Value} {encV : β → Value} {w w' : World} {b : Nat} {ms : List (α × β)} {k : α} {st : Nat} (h : MapS encK encV w b ms k st) (c : Ext w w') : MapS encK encV w' b ms k st := h.chg c fun x => x
theorem MapS.isMap {α β : Type} {encK : α → Value} {encV : β → Value} {w : World} {b : Nat} {ms : List (α × β)} {k : α} {st : Nat} (h : MapS encK encV w b ms k st) : ∃ es cl, w.heap[b]? = some (.map es cl) := by
  obtain ⟨es, cl, hb, _⟩ := h; exact ⟨_, _, hb⟩
theorem SidesO.off {T : TypeId} {B : Nat} {w : World} {l : List Triple} {ms : List (Clash × Hd)} (h : SidesO T B w l ms) {b : Nat} (hb : ∃ es cl, w.heap[b]? = some (.map es cl)) : ∀ k hd, getM ms k = some hd → ∀ x, hd.val.ownBlock = some x → ¬ x = b :=
  fun k hd hk _ hx => (h.own k hd hk).notMap hb hx
theorem SidesO.at {T : TypeId} {B : Nat} {w : World} {l : List Triple} {ms : List (Clash × Hd)} (h : SidesO T B w l ms) (k : Clash) : Own encTriple 9 B T w ((getM ms k).getD ⟨none, 0, 0⟩).val (sideOf l k) := by
  cases hk : getM ms k with
  | none => rw [h.emp k hk]; exact Own.nil _ _ _ _ _
  | some hd => exact h.own k hd hk
theorem SidesO.lt {T : TypeId} {B : Nat} {w : World} {l : List Triple} {ms : List (Clash × Hd)} (h : SidesO T B w l ms) : ∀ k hd, getM ms k = some hd → ∀ x, hd.val.ownBlock = some x → x < w.heap.size :=
  fun k hd hk _ hx => ((h.own k hd hk).base hx).2
/-! ### what a merge comes to -/
end Go.Proofs.YtjgcmpondbocfaaGreatDoor

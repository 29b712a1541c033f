/- What is drawn only grows. No condition. -/
import Derived.Below
namespace Go.Proofs.YtjgcmpondbocfaaGreatDoor

theorem viewStore_drawn {p : Program} {w w2 : World} {at_ : Addr} {u : TypeId} {k : Addr} {v : Value} {atomic : Bool} {l : List Addr} (h : w.viewStore p at_ u k v atomic = .ok (w2, l)) : w2.drawn = w.drawn := by
  have bind_ok : ∀ {α β : Type} {x : Except String α} {f : α → Except String β} {b : β}, (x >>= f) = .ok b → ∃ a, x = .ok a ∧ f a = .ok b := by
    intro α β x f b hb
    cases x with
    | error e => cases hb
    | ok a => exact ⟨a, rfl, hb⟩
  unfold World.viewStore at h
  dsimp only at h
  by_cases ht : (!tight p p.depth u) = true
  · rw [if_pos ht] at h
    obtain ⟨_, h0, _⟩ := bind_ok h
    cases h0
  · rw [if_neg ht] at h
    obtain ⟨⟨c, e, frozen, first, like, cells⟩, _, h⟩ := bind_ok h
    dsimp only at h
    split at h
    · split at h
      · obtain ⟨_, h0, _⟩ := bind_ok h
        cases h0
      · obtain ⟨c', _, h⟩ := bind_ok h
        injection h with h
        injection h with h _
        rw [← h]
    · cases h
theorem ask_drawn {α : Type} : ∀ (a : Ask α) (w : World), w.drawn ≤ (w.ask a).2.drawn
  | .done a, w => Nat.le_refl _
  | .ask what range k, w => by
    unfold World.ask
    simp only
    split
    · exact ask_drawn _ w
    · exact Nat.le_trans (Nat.le_succ _) (ask_drawn _ { w with drawn := w.drawn + 1 })
theorem sys_drawn (w : World) (c : Sys) : w.drawn ≤ (w.sys c).2.drawn := by
  have h := ask_drawn (Kernel.perform c w.os) w
  unfold World.sys
  split
  · exact Nat.le_refl _
  · rename_i r os w2 heq
    rw [heq] at h
    exact h
theorem sem_drawn {α : Type} {P : Program} : ∀ (s : Sem α) (w w' : World) (a : α), s.run P w = .ok a w' → w.drawn ≤ w'.drawn := by
  intro s
  induction s with
  | pure a => intro w w' b h; injection h with _ h; subst h; exact Nat.le_refl _
  | load m a k ih =>
    intro w w' b h
    unfold Sem.run at h
    split at h
    · exact ih _ w w' b h
    · split at h
      · exact ih _ w w' b h
      · cases h
  | store m a v k ih =>
    intro w w' b h
    have key : (match w.cell? a with
        | some _ => if w.frozen? a then .halt (.unsupported (.unsafePointer "a write to bytes that a string shares")) w else k.run P (w.setCell a v)
        | none => match w.farStore P a v (m == .atomic) with
          | .ok (w, _) => k.run P w
          | .error h => .halt h w) = Result.ok b w' → w.drawn ≤ w'.drawn := fun h => by
      split at h
      · split at h
        · cases h
        · exact ih (w.setCell a v) w' b h
      · split at h
        · rename_i w2 l heq
          have : w2.drawn = w.drawn := by
            unfold World.farStore at heq
            split at heq
            · split at heq
              · rename_i r hr
                injection heq with heq
                subst heq
                exact viewStore_drawn hr
              · cases heq
            · cases heq
          rw [← this]
          exact ih w2 w' b h
        · cases h
    cases v <;> first | (exact key h) | (cases h)
  | new o k ih => intro w w' b h; exact ih _ { w with heap := w.heap.push o } w' b h
  | shape r k ih => intro w w' b h; exact ih _ _ w' b h
  | freeze a n k ih =>
    intro w w' b h
    have := ih _ w' b h
    unfold World.freeze at this
    split at this <;> exact this
  | frozen a k ih => intro w w' b h; exact ih _ _ w' b h
  | getObj r k ih =>
    intro w w' b h
    unfold Sem.run at h
    split at h
    · cases h
    · exact ih _ _ w' b h
    · cases h
  | setObj r o k ih =>
    intro w w' b h
    unfold Sem.run at h
    split at h
    · cases h
    · exact ih { w with heap := w.heap.setIfInBounds r o } w' b h
    · cases h
  | choose q k ih =>
    intro w w' b h
    unfold Sem.run at h
    split at h
    · exact ih _ _ w' b h
    · exact Nat.le_trans (Nat.le_succ _) (ih _ _ w' b h)
  | sys c k ih => intro w w' b h; exact Nat.le_trans (sys_drawn w c) (ih _ _ w' b h)
  | program k ih => intro w w' b h; exact ih _ _ w' b h
  | mark m k ih => intro w w' b h; exact ih _ w' b h
  | halt e => intro w w' b h; cases h
end Go.Proofs.YtjgcmpondbocfaaGreatDoor

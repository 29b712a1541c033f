/- Who is above whom: what the set of a commit holds, in plain Lean. No condition. -/
import Derived.Test.YtjgcmpondbocfaaGreatDoorDagPure
namespace Go.Proofs.YtjgcmpondbocfaaGreatDoor

/-- j is i, or comes above one of its parents. -/
inductive Anc (ls : List Commit) : Nat → Nat → Prop
  | refl (i : Nat) : Anc ls i i
  | step {j p i : Nat} {c : Commit} : ls[i]? = some c → (p : Int) ∈ c.parents → Anc ls j p → Anc ls j i

theorem Anc.trans {ls : List Commit} {k j i : Nat} (h : Anc ls k j) (h' : Anc ls j i) : Anc ls k i := by
  induction h' with
  | refl => exact h
  | step hc hp _ ih => exact .step hc hp ih

/-! ### what 'Base' steps through -/
/-! ### what no fault says -/
end Go.Proofs.YtjgcmpondbocfaaGreatDoor

/-
  No cell of these rows narrows 'for every input' (looked for: loops, veiled, ifaces, maps, wideKeys, modest, calm, conditions, laid).
  DERIVED. THE GIVEN ROWS OF THIS SEAT. 4 by the template 'for every input the law returns true; each argument reads behind the call as it read before'; 0 by the template 'total and deterministic' (their statements: YtjgcmpondbocfaaTotals.lean).
  GIVEN WITH THE SEED: the statements are not yours to turn. If you find one false, say at which input.
  Laid BY PROGRAM, IN A SANDBOX (cutbox-rows.mjs): the forced cells as the released guide's own fill.sh prints them over the translation 86585445776e2e16… (all of the seat's roots in one cut). By AI agents, Wed Nov 11 2026. No macro, syntax, notation, axiom, sorry.
-/
import Derived.Test.YtjgcmpondbocfaaChecked
import GoSem.Claim
import GoSem.ClaimJoined
import GoSem.ClaimMapViews
import Derived.JoinedTies
import Derived.KernelRfl
namespace Go.Proofs.Ytjgcmpondbocfaa
/- THE CELL 'sum', in the pinned program and in every row, IS THE sha256 OF THE DUMP (.gsa) THAT YtjgcmpondbocfaaProg.lean LOADS. Nothing in Lean hashes anything: it is a label: what it is worth is what the hold of that sum in a sandbox is worth. -/
noncomputable def Try.pinned : Pinned := { name := "ytjgcmpondbocfaa", sum := "86585445776e2e1639adf9dad4a7a9e58fd165bfdfd2fc1ac2e9a91aa6145fa4", checked := Try.checked }
namespace Rows
def none {H : Type} : Left H := { results := [], args := [] }

/-- 'stratalaw2.DagHolds': WHATEVER THE INPUT: true; the input reads as it did. -/
def dagHoldsSpec : ChangeSpec := { name := "dagHolds", fn := fun _ => fun
  | [d1, d2, d3] => { results := [.lit (.bool true)], args := [d1, d2, d3] }
  | _ => none }
def dagHoldsRow : OpenClaim := { program := "ytjgcmpondbocfaa", sum := "86585445776e2e1639adf9dad4a7a9e58fd165bfdfd2fc1ac2e9a91aa6145fa4", func := "strataweb/stratalaw2.DagHolds", spec := "dagHolds", unfollowed := true, recurses := true, apart := false }
def DagHoldsSaid : Prop := dagHoldsRow.holds Try.pinned (OpenSpec.ofChange dagHoldsSpec)

/-- ITS FALSE NEIGHBOUR: 'it returns false'. Refute it at one input. -/
def dagHoldsWrong : ChangeSpec := { name := "dagHolds", fn := fun _ => fun
  | [d1, d2, d3] => { results := [.lit (.bool false)], args := [d1, d2, d3] }
  | _ => none }
def DagHoldsWrongFalsely : Prop := dagHoldsRow.holds Try.pinned (OpenSpec.ofChange dagHoldsWrong)

/-- 'stratalaw2.RepoKeeps': WHATEVER THE INPUT: true; the input reads as it did. -/
def repoKeepsSpec : ChangeSpec := { name := "repoKeeps", fn := fun _ => fun
  | [d1, d2] => { results := [.lit (.bool true)], args := [d1, d2] }
  | _ => none }
def repoKeepsRow : OpenClaim := { program := "ytjgcmpondbocfaa", sum := "86585445776e2e1639adf9dad4a7a9e58fd165bfdfd2fc1ac2e9a91aa6145fa4", func := "strataweb/stratalaw2.RepoKeeps", spec := "repoKeeps", inPlace := ["internal/bytealg.abigen_runtime_cmpstring"], unfollowed := true, recurses := true, apart := false }
def RepoKeepsSaid : Prop := repoKeepsRow.holds Try.pinned (OpenSpec.ofChange repoKeepsSpec)

/-- ITS FALSE NEIGHBOUR: 'it returns false'. Refute it at one input. -/
def repoKeepsWrong : ChangeSpec := { name := "repoKeeps", fn := fun _ => fun
  | [d1, d2] => { results := [.lit (.bool false)], args := [d1, d2] }
  | _ => none }
def RepoKeepsWrongFalsely : Prop := repoKeepsRow.holds Try.pinned (OpenSpec.ofChange repoKeepsWrong)

/-- 'stratalaw2.StoreBack': WHATEVER THE INPUT: true; the input reads as it did. -/
def storeBackSpec : ChangeSpec := { name := "storeBack", fn := fun _ => fun
  | [d1, d2] => { results := [.lit (.bool true)], args := [d1, d2] }
  | _ => none }
def storeBackRow : OpenClaim := { program := "ytjgcmpondbocfaa", sum := "86585445776e2e1639adf9dad4a7a9e58fd165bfdfd2fc1ac2e9a91aa6145fa4", func := "strataweb/stratalaw2.StoreBack", spec := "storeBack", unfollowed := true, recurses := true, apart := false }
def StoreBackSaid : Prop := storeBackRow.holds Try.pinned (OpenSpec.ofChange storeBackSpec)

/-- ITS FALSE NEIGHBOUR: 'it returns false'. Refute it at one input. -/
def storeBackWrong : ChangeSpec := { name := "storeBack", fn := fun _ => fun
  | [d1, d2] => { results := [.lit (.bool false)], args := [d1, d2] }
  | _ => none }
def StoreBackWrongFalsely : Prop := storeBackRow.holds Try.pinned (OpenSpec.ofChange storeBackWrong)

/-- 'stratalaw2.SolveHolds': WHATEVER THE INPUT: true; the input reads as it did. -/
def solveHoldsSpec : ChangeSpec := { name := "solveHolds", fn := fun _ => fun
  | [d1, d2] => { results := [.lit (.bool true)], args := [d1, d2] }
  | _ => none }
def solveHoldsRow : OpenClaim := { program := "ytjgcmpondbocfaa", sum := "86585445776e2e1639adf9dad4a7a9e58fd165bfdfd2fc1ac2e9a91aa6145fa4", func := "strataweb/stratalaw2.SolveHolds", spec := "solveHolds", inPlace := ["internal/bytealg.abigen_runtime_cmpstring", "maps.clone"], unfollowed := true, recurses := true, apart := false }
def SolveHoldsSaid : Prop := solveHoldsRow.holds Try.pinned (OpenSpec.ofChange solveHoldsSpec)

/-- ITS FALSE NEIGHBOUR: 'it returns false'. Refute it at one input. -/
def solveHoldsWrong : ChangeSpec := { name := "solveHolds", fn := fun _ => fun
  | [d1, d2] => { results := [.lit (.bool false)], args := [d1, d2] }
  | _ => none }
def SolveHoldsWrongFalsely : Prop := solveHoldsRow.holds Try.pinned (OpenSpec.ofChange solveHoldsWrong)

/- THE SECOND FORM. 'bulk': how many values and letters a reading holds, each counted each time it is reached (what is shared counts as often as it is met; a slice's spare places count too). A statement '..UptoSaid' is the law's where the arguments, and the package variables that the reading takes, are together of bulk at most 1048576: NARROWER than '..Said'. Prove '..Said' where nothing that the law and all that it calls make is longer than what came in: it says more and counts as full. Else prove '..UptoSaid'. A law counts once. -/
mutual
def uptoBulk {H : Type} : DataW H → Nat
  | .lit (.string bytes) => bytes.length + 1
  | .lit _ => 1
  | .nil => 1
  | .ptr d => uptoBulk d + 1
  | .slice elems spare => uptoBulkAll elems + uptoBulkAll spare + 1
  | .agg parts => uptoBulkAll parts + 1
  | .iface _ d => uptoBulk d + 1
  | .map entries => uptoBulkEntries entries + 1
  | .held _ => 1
def uptoBulkAll {H : Type} : List (DataW H) → Nat
  | [] => 0
  | d :: r => uptoBulk d + uptoBulkAll r
def uptoBulkEntries {H : Type} : List (Lit × DataW H) → Nat
  | [] => 0
  | x :: r => uptoBulkEntry x + uptoBulkEntries r
def uptoBulkEntry {H : Type} : Lit × DataW H → Nat
  | (.string bytes, d) => bytes.length + uptoBulk d + 1
  | (_, d) => uptoBulk d + 1
 end
def uptoSmall : (H : Type) → List (DataW H) → Bool := fun _ ds => decide (uptoBulkAll ds ≤ 1048576)
def OpenSpec.upto (s : _root_.Go.ChangeSpec) : _root_.Go.OpenSpec := { _root_.Go.OpenSpec.ofChange s with cond := some uptoSmall }

/-- 'stratalaw2.DagHolds', WHERE WHAT IT READS IS OF BULK AT MOST 1048576: true; the input reads as it did. -/
def dagHoldsUptoRow : OpenClaim := { program := "ytjgcmpondbocfaa", sum := "86585445776e2e1639adf9dad4a7a9e58fd165bfdfd2fc1ac2e9a91aa6145fa4", func := "strataweb/stratalaw2.DagHolds", spec := "dagHolds", unfollowed := true, recurses := true, apart := false, narrowed := true }
def DagHoldsUptoSaid : Prop := dagHoldsUptoRow.holds Try.pinned (OpenSpec.upto dagHoldsSpec)

/-- 'stratalaw2.RepoKeeps', WHERE WHAT IT READS IS OF BULK AT MOST 1048576: true; the input reads as it did. -/
def repoKeepsUptoRow : OpenClaim := { program := "ytjgcmpondbocfaa", sum := "86585445776e2e1639adf9dad4a7a9e58fd165bfdfd2fc1ac2e9a91aa6145fa4", func := "strataweb/stratalaw2.RepoKeeps", spec := "repoKeeps", inPlace := ["internal/bytealg.abigen_runtime_cmpstring"], unfollowed := true, recurses := true, apart := false, narrowed := true }
def RepoKeepsUptoSaid : Prop := repoKeepsUptoRow.holds Try.pinned (OpenSpec.upto repoKeepsSpec)

/-- 'stratalaw2.StoreBack', WHERE WHAT IT READS IS OF BULK AT MOST 1048576: true; the input reads as it did. -/
def storeBackUptoRow : OpenClaim := { program := "ytjgcmpondbocfaa", sum := "86585445776e2e1639adf9dad4a7a9e58fd165bfdfd2fc1ac2e9a91aa6145fa4", func := "strataweb/stratalaw2.StoreBack", spec := "storeBack", unfollowed := true, recurses := true, apart := false, narrowed := true }
def StoreBackUptoSaid : Prop := storeBackUptoRow.holds Try.pinned (OpenSpec.upto storeBackSpec)

/-- 'stratalaw2.SolveHolds', WHERE WHAT IT READS IS OF BULK AT MOST 1048576: true; the input reads as it did. -/
def solveHoldsUptoRow : OpenClaim := { program := "ytjgcmpondbocfaa", sum := "86585445776e2e1639adf9dad4a7a9e58fd165bfdfd2fc1ac2e9a91aa6145fa4", func := "strataweb/stratalaw2.SolveHolds", spec := "solveHolds", inPlace := ["internal/bytealg.abigen_runtime_cmpstring", "maps.clone"], unfollowed := true, recurses := true, apart := false, narrowed := true }
def SolveHoldsUptoSaid : Prop := solveHoldsUptoRow.holds Try.pinned (OpenSpec.upto solveHoldsSpec)

end Rows
end Go.Proofs.Ytjgcmpondbocfaa

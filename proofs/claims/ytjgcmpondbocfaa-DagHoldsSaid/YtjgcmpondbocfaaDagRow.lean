/- THE LAW DagHolds COMES TO true, WHATEVER ITS ARGUMENTS, AND LEAVES WHAT IT READS. Conditions: those of the given row alone (DagHoldsSaid). -/
import Derived.Test.YtjgcmpondbocfaaRows
import Derived.Test.YtjgcmpondbocfaaOpen
import Derived.Test.YtjgcmpondbocfaaDlawW
namespace Go.Proofs.Ytjgcmpondbocfaa.dagHolds
open Go.ChangeShapes Go.WideShapes Go.ChangeAt Go.RowKit
open Go.Proofs.Ytjgcmpondbocfaa

theorem own : ownKnob Try.prog.godebug = none := by kernel_rfl
theorem laid : laidOutB Try.prog = true := by kernel_rfl
theorem params_read : Try.f3.params.toList.all (fun t => Try.prog.readableRec t && Nat.blt t Try.prog.types.size) = true := by kernel_rfl
theorem result : Try.f3.resultTypes = #[4] := by kernel_rfl
theorem size3 : Try.prog.cellsOf 3 = 1 := by kernel_rfl
theorem size9 : Try.prog.cellsOf 9 = 1 := by kernel_rfl
theorem size23 : Try.prog.cellsOf 23 = 1 := by kernel_rfl
theorem size25 : Try.prog.cellsOf 25 = 3 := by kernel_rfl
theorem opens_ints : Opens Try.prog 23 (fun w cs (xs : List Int) => ∃ v, cs = [v] ∧ RInts w v xs) :=
  Opens.slice Try.underlying23 size3 rfl (Opens.mono (Opens.int Try.underlying3) id (fun _ _ _ h => h.1))
/-- A commit's cells. -/
theorem opens_commit : Opens Try.prog 25 RCommit := fun enc w base sp held fuel cs x h => by
  obtain ⟨xs, n, -, -, hl, hn, hf⟩ := DataW.trod_struct Try.underlying25 h
  rw [size25] at hl
  obtain ⟨y0, y1, y2, rfl⟩ := len3 hn
  obtain ⟨c0, c1, c2, rfl⟩ := len3 hl
  have h0 : DataW.trod enc Try.prog w base sp held n 23 (List.take (Try.prog.cellsOf 23) (List.drop 0 [c0, c1, c2])) = some y0 := hf 0 _ rfl
  have h1 : DataW.trod enc Try.prog w base sp held n 3 (List.take (Try.prog.cellsOf 3) (List.drop 1 [c0, c1, c2])) = some y1 := hf 1 _ rfl
  have h2 : DataW.trod enc Try.prog w base sp held n 9 (List.take (Try.prog.cellsOf 9) (List.drop 2 [c0, c1, c2])) = some y2 := hf 2 _ rfl
  rw [size23] at h0
  rw [size3] at h1
  rw [size9] at h2
  obtain ⟨ps, v, e0, hp⟩ := opens_ints enc w base sp held n _ _ h0
  obtain ⟨ly, e1, -⟩ := Opens.int Try.underlying3 enc w base sp held n _ _ h1
  obtain ⟨ms, e2, -⟩ := Opens.str Try.underlying9 enc w base sp held n _ _ h2
  refine ⟨⟨ps, ly, ms⟩, v, ?_, hp⟩
  simp at e0 e1 e2
  rw [e0, e1, e2]
theorem opens_commits : Opens Try.prog 22 (fun w cs (xs : List Commit) => ∃ v, cs = [v] ∧ RCommits w v xs) := Opens.slice Try.underlying22 size25 rfl opens_commit

set_option maxRecDepth 100000 in
theorem contract (H : Type) (enc : TypeId × Value → H) (W : World) (base : Nat) (args : Array Value) (ds gs : List (DataW H)) (before : List MemPlace)
    (hval : ∀ (j : Nat) t v, Try.f3.params[j]? = some t → args[j]? = some v → Value.okWide Try.prog W .any base t v)
    (hW : DataW.Whole enc Try.prog Try.f3.params.toList Rows.dagHoldsSpec.vars false W args.toList ds gs before) :
    Calls Try.prog 3 args W fun e W' => ∃ v, e = .returned v ∧ Rows.dagHoldsSpec.post enc Try.prog Try.f3 false true false false W args v W' := by
  have hW' := hW
  obtain ⟨p, q, hA0, hV, rfl, hfz, hnd⟩ := hW
  have hA : DataW.TrodAll enc Try.prog W 0 (fun _ => true) true Try.f3.params.toList args.toList ds p := hA0
  rw [Try.params3] at hA hval
  obtain ⟨v0, v1, v2, d0, d1, d2, p0, p1, p2, rfl, rfl, rfl, h0, h1, h2⟩ := trodAll_three hA
  obtain ⟨rfl, rfl⟩ := trodVars_none hV
  have hv0 := hval 0 22 v0 rfl rfl
  have hx := open_sl Try.underlying22 opens_commits hv0 h0
  obtain ⟨ls, hv⟩ := hx
  obtain ⟨a, rfl, rfl, rfl, -⟩ := open_int Try.underlying3 (hval 1 3 v1 rfl rfl) h1
  obtain ⟨b, rfl, rfl, rfl, -⟩ := open_int Try.underlying3 (hval 2 3 v2 rfl rfl) h2
  refine Calls.mono (DagHolds_ret W hv) fun e W' ⟨v, he, hr, hE⟩ => ?_
  subst hr
  exact ⟨_, he, post_bool laid params_read rfl result Try.underlying4 hW' rfl hE.below⟩

set_option maxRecDepth 100000 in
theorem lifted (os : Os) (started : os.Started) (H : Type) (enc : TypeId × Value → H) :
    ReturnsInHanded {} Try.checked os 3 .any (Rows.dagHoldsSpec.pre6 enc Try.prog Try.f3 Rows.dagHoldsRow.domain false) (Rows.dagHoldsSpec.post enc Try.prog Try.f3 false true false false) := by
  refine returnsInHanded_of_change (C := Try.checked) own started (by kernel_rfl) Try.func3
    (ChangeSpec.witness6 (enc := enc) (C := Try.checked) false ⟨#[], #[.slice none 0 0, .int .i64 0, .int .i64 0], []⟩ 8 (by kernel_rfl) (by kernel_rfl) (by kernel_rfl) (by kernel_rfl)) ?_
  intro W base args ds gs before hval hW _ _
  exact contract H enc W base args ds gs before hval hW

theorem proved : Rows.DagHoldsSaid :=
  OpenClaim.holds_of_wide (p := Try.pinned) (s := Rows.dagHoldsSpec) (c := Rows.dagHoldsRow) 3 Try.f3 rfl rfl rfl rfl rfl rfl rfl ⟨rfl, rfl, rfl, rfl, rfl⟩ rfl rfl rfl rfl rfl (by kernel_rfl) Try.func3 (by kernel_rfl)
    (of_decide_eq_true (by kernel_rfl)) (by unfold Func.isWrapper; first | (rw [if_pos (by decide +kernel)]; kernel_rfl) | (rw [if_neg (by decide +kernel)]; exact ⟨rfl, rfl⟩))
    (fun os started H enc _ => lifted os started H enc)
#print axioms proved
end Go.Proofs.Ytjgcmpondbocfaa.dagHolds

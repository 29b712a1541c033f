/- THE LAW StoreBack COMES TO true, WHATEVER ITS ARGUMENTS, AND LEAVES WHAT IT READS. Conditions: those of the given row alone (StoreBackSaid). -/
import Derived.Test.YtjgcmpondbocfaaProg
import Derived.Test.YtjgcmpondbocfaaRows
import Derived.Test.YtjgcmpondbocfaaOpen
import Derived.Test.YtjgcmpondbocfaaSbackW
import Derived.Test.YtjgcmpondbocfaaSortI
import Derived.SizedLaws
namespace Go.Proofs.Ytjgcmpondbocfaa.storeBack
open Go.RowKit Go.ChangeShapes Go.WideShapes Go.ChangeAt

theorem own : ownKnob Try.prog.godebug = none := by kernel_rfl
theorem laidOut : laidOutB Try.prog = true := by kernel_rfl
theorem params_read : Try.f5.params.toList.all (fun t => Try.prog.readableRec t && Nat.blt t Try.prog.types.size) = true := by kernel_rfl
theorem result : Try.f5.resultTypes = #[4] := by kernel_rfl
theorem size_string : Try.prog.cellsOf 9 = 1 := by kernel_rfl
theorem bytes_string : Try.prog.bytesOf 9 = 16 := by kernel_rfl
theorem opens_strings : Opens Try.prog 37 (fun w cs (xs : List ByteArray) => (∃ v, cs = [v] ∧ RSl (fun _ cs s => cs = encStr s ∧ s.size ≤ 140737488351232) 1 w v xs) ∧ xs.length * Try.prog.bytesOf 9 ≤ 140737488351232) :=
  Opens.slice Try.underlying37 size_string rfl (Opens.str Try.underlying9)
theorem size_int : Try.prog.cellsOf 3 = 1 := by kernel_rfl
theorem bytes_int : Try.prog.bytesOf 3 = 8 := by kernel_rfl
theorem size_ints : Try.prog.cellsOf 23 = 1 := by kernel_rfl
theorem opens_ints : Opens Try.prog 23 (fun w cs (xs : List Int) => (∃ v, cs = [v] ∧ RInts w v xs) ∧ xs.length * Try.prog.bytesOf 3 ≤ 140737488351232) :=
  Opens.slice Try.underlying23 size_int rfl (Opens.mono (Opens.int Try.underlying3) id (fun _ _ _ h => h.1))

set_option maxRecDepth 100000 in
theorem contract (H : Type) (enc : TypeId × Value → H) (W : World) (base : Nat) (args : Array Value) (ds gs : List (DataW H)) (before : List MemPlace)
    (hval : ∀ (j : Nat) t v, Try.f5.params[j]? = some t → args[j]? = some v → Value.okWide Try.prog W .any base t v)
    (hW : DataW.Whole enc Try.prog Try.f5.params.toList Rows.storeBackSpec.vars false W args.toList ds gs before) (hz : (DataW.weightsEach Try.prog (Try.f5.params.toList ++ Rows.storeBackSpec.plain.varTypes Try.prog) (ds ++ gs)).all (· ≤ reachBytes) = true) :
    Calls Try.prog 5 args W fun e W' => ∃ v, e = .returned v ∧ Rows.storeBackSpec.post enc Try.prog Try.f5 false true false false W args v W' := by
  have hW' := hW
  obtain ⟨p, q, hA0, hV, rfl, hfz, hnd⟩ := hW
  have hA : DataW.TrodAll enc Try.prog W 0 (fun _ => true) true Try.f5.params.toList args.toList ds p := hA0
  rw [Try.params5] at hA hval hz
  obtain ⟨v0, v1, d0, d1, p0, p1, rfl, rfl, rfl, h0, h1⟩ := trodAll_two hA
  have hV' : DataW.TrodVars enc Try.prog W (fun _ => true) [] gs q := hV
  obtain ⟨rfl, rfl⟩ := trodVars_none hV'
  have hwt : ∀ (j : Nat) t d, (_ : List TypeId)[j]? = some t → (_ : List (DataW H))[j]? = some d → ∀ n ∈ d.weights Try.prog t, n ≤ reachBytes := fun j t d ht hd n hn => of_decide_eq_true (List.all_eq_true.1 hz n (DataW.weights_mem_each ht hd n hn))
  obtain ⟨x0, r0, s0⟩ := open_sl Try.underlying37 opens_strings (hval 0 37 v0 rfl rfl) h0 (hwt 0 _ _ rfl rfl)
  have q0 := r0.split.2
  replace r0 := r0.split.1
  obtain ⟨x1, r1, s1⟩ := open_sl Try.underlying23 opens_ints (hval 1 23 v1 rfl rfl) h1 (hwt 1 _ _ rfl rfl)
  refine Calls.mono (StoreBack_ret sortInts W r0 (fun b hb => by have := q0 b hb; omega) (by rw [bytes_string] at s0; omega) r1) fun e W' ⟨v, he, hr, hE⟩ => ?_
  subst hr
  exact ⟨_, he, post_bool laidOut params_read rfl result Try.underlying4 hW' rfl hE.below⟩

set_option maxRecDepth 100000 in
theorem lifted (os : Os) (started : os.Started) (H : Type) (enc : TypeId × Value → H) :
    ReturnsInHanded {} Try.checked os 5 .any (Rows.storeBackSpec.pre6 enc Try.prog Try.f5 Rows.storeBackRow.domain false) (Rows.storeBackSpec.post enc Try.prog Try.f5 false true false false) := by
  refine returnsInHanded_of_change_sized (C := Try.checked) own started (by kernel_rfl) Try.func5
    (ChangeSpec.witness6 (enc := enc) (C := Try.checked) false ⟨#[], #[.slice none 0 0, .slice none 0 0], []⟩ 8 (by kernel_rfl) (by kernel_rfl) (by kernel_rfl) (by kernel_rfl)) ?_
  intro W base args ds gs before hval hW _ hz _
  exact contract H enc W base args ds gs before hval hW hz
theorem proved : Rows.StoreBackSaid :=
  OpenClaim.holds_of_wide (p := Try.pinned) (s := Rows.storeBackSpec) (c := Rows.storeBackRow) 5 Try.f5 rfl rfl rfl rfl rfl rfl rfl ⟨rfl, rfl, rfl, rfl, rfl⟩ rfl rfl rfl rfl rfl (by kernel_rfl) Try.func5 (by kernel_rfl)
    (of_decide_eq_true (by kernel_rfl)) (by unfold Func.isWrapper; first | (rw [if_pos (by decide +kernel)]; kernel_rfl) | (rw [if_neg (by decide +kernel)]; exact ⟨rfl, rfl⟩))
    (fun os started H enc _ => lifted os started H enc)

end Go.Proofs.Ytjgcmpondbocfaa.storeBack

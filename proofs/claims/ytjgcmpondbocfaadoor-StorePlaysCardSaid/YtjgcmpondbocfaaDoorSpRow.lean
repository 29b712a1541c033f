/- THE LAW StorePlays COMES TO true, WHATEVER ITS ARGUMENTS, AND LEAVES WHAT IT READS: the row and its card. Conditions: those of the given row and card alone (StorePlaysCardSaid). -/
import Derived.Test.YtjgcmpondbocfaaDoorProg
import Derived.Test.YtjgcmpondbocfaaDoorRows
import Derived.Test.YtjgcmpondbocfaaDoorCards
import Derived.Test.YtjgcmpondbocfaaDoorTie
import Derived.Test.YtjgcmpondbocfaaDoorOpen
import Derived.Test.YtjgcmpondbocfaaDoorSplaysW
import Derived.LaidLaws
import Derived.LaidHandle
import Derived.Stop.Joined
import Derived.SevenTiedAt
import Derived.ChangeVars
namespace Go.Proofs.YtjgcmpondbocfaaDoor.storePlays
open Go.RowKit Go.ChangeShapes Go.WideShapes Go.ChangeAt

theorem own : ownKnob Tryd.prog.godebug = none := by kernel_rfl
theorem laidOut : laidOutB Tryd.prog = true := by kernel_rfl
theorem params_read : Tryd.f4.params.toList.all (fun t => Tryd.prog.readableRec t && Nat.blt t Tryd.prog.types.size) = true := by kernel_rfl
theorem result : Tryd.f4.resultTypes = #[4] := by kernel_rfl
theorem size_int : Tryd.prog.cellsOf 3 = 1 := by kernel_rfl
theorem bytes_int : Tryd.prog.bytesOf 3 = 8 := by kernel_rfl
theorem size_ints : Tryd.prog.cellsOf 30 = 1 := by kernel_rfl
theorem opens_ints : Opens Tryd.prog 30 (fun w cs (xs : List Int) => (∃ v, cs = [v] ∧ RInts w v xs) ∧ xs.length * Tryd.prog.bytesOf 3 ≤ 140737488351232) :=
  Opens.slice Tryd.underlying30 size_int rfl (Opens.mono (Opens.int Tryd.underlying3) id (fun _ _ _ h => h.1))
theorem size_intss : Tryd.prog.cellsOf 30 = 1 := by kernel_rfl
theorem opens_intss : Opens Tryd.prog 41 (fun w cs (xs : List (List Int)) => (∃ v, cs = [v] ∧ RSl RIL 1 w v xs) ∧ xs.length * Tryd.prog.bytesOf 30 ≤ 140737488351232) :=
  Opens.slice Tryd.underlying41 size_intss rfl (Opens.mono opens_ints id (fun _ _ _ h => h.1))
theorem size_string : Tryd.prog.cellsOf 9 = 1 := by kernel_rfl
theorem bytes_string : Tryd.prog.bytesOf 9 = 16 := by kernel_rfl
theorem opens_strings : Opens Tryd.prog 42 (fun w cs (xs : List ByteArray) => (∃ v, cs = [v] ∧ RSl (fun _ cs s => cs = encStr s ∧ s.size ≤ 140737488351232) 1 w v xs) ∧ xs.length * Tryd.prog.bytesOf 9 ≤ 140737488351232) :=
  Opens.slice Tryd.underlying42 size_string rfl (Opens.str Tryd.underlying9)

theorem et : Tryd.prog.globalNamed "errors.errorType" = some 0 := by kernel_rfl
theorem rt : (Tryd.prog.cutTypes.find? (·.1 == "internal/reflectlite.rtype")).map (·.2) = some 166 := by kernel_rfl
theorem oneRow : ((List.range 242).filter fun t => Tryd.prog.rowNamed t [101, 114, 114, 111, 114]) = [26] := by kernel_rfl
theorem typesSize : Tryd.prog.types.size = 242 := by kernel_rfl
/-- What the row's listed variable gives a walk. -/
theorem handle_of_laid {W : World} (h : laidMetH Tryd.prog Rows.storePlaysRow.laid W) : ErrType W := by
  have h' : laidMet Tryd.prog [] W ∧ handlesMet Tryd.prog Rows.storePlaysRow.laid W := h
  obtain ⟨name, u, ty, e1, e2, e3, e4, e5⟩ := h'.2 _ (List.mem_singleton.2 rfl)
  have en : name = [101, 114, 114, 111, 114] := (Option.some.inj e1).symm
  subst en
  obtain rfl := Option.some.inj (rt.symm.trans e2)
  have hm : ty ∈ (List.range 242).filter fun t => Tryd.prog.rowNamed t [101, 114, 114, 111, 114] := List.mem_filter.2 ⟨List.mem_range.2 (by rw [← typesSize]; exact e3), e4⟩
  rw [oneRow] at hm
  obtain rfl := List.mem_singleton.1 hm
  have hh : typeHandle Tryd.prog 26 = .pointer (some ⟨2, 26, none⟩) := by kernel_rfl
  rw [hh] at e5
  have := World.var?_cell et e5 0
  simpa [ErrType] using this
/-- A world in which the variable holds what the row lists. -/
noncomputable def laidWorld (os : Os) : World :=
  let w0 := World.holding Tryd.prog os ⟨#[], #[], []⟩
  { w0 with heap := w0.heap.modify 0 fun
      | .cells _ t frozen => .cells #[.iface 166 (.agg #[.pointer (some ⟨2, 26, none⟩)])] t frozen
      | o => o }
theorem laidWorld_met (os : Os) (args : Array Value) : laidMetH Tryd.prog Rows.storePlaysRow.laid ((laidWorld os).forCall (fun _ _ => 0) ⟨#[], args, []⟩).memory :=
  laidMetH_of_parts (laidMet_nil _ _) (by kernel_rfl)

set_option maxRecDepth 100000 in
theorem contract (H : Type) (enc : TypeId × Value → H) (W : World) (base : Nat) (args : Array Value) (ds gs : List (DataW H)) (before : List MemPlace)
    (hval : ∀ (j : Nat) t v, Tryd.f4.params[j]? = some t → args[j]? = some v → Value.okWide Tryd.prog W .any base t v)
    (hW : DataW.Whole enc Tryd.prog Tryd.f4.params.toList Rows.storePlaysSpec.vars false W args.toList ds gs before) (hg : ErrType W) (hz : (DataW.weightsEach Tryd.prog (Tryd.f4.params.toList ++ Rows.storePlaysSpec.plain.varTypes Tryd.prog) (ds ++ gs)).all (· ≤ reachBytes) = true) :
    Calls Tryd.prog 4 args W fun e W' => ∃ v, e = .returned v ∧ Rows.storePlaysSpec.post enc Tryd.prog Tryd.f4 false true false false W args v W' := by
  have hW' := hW
  obtain ⟨p, q, hA0, hV, rfl, hfz, hnd⟩ := hW
  have hA : DataW.TrodAll enc Tryd.prog W 0 (fun _ => true) true Tryd.f4.params.toList args.toList ds p := hA0
  rw [Tryd.params4] at hA hval hz
  obtain ⟨v0, v1, v2, d0, d1, d2, p0, p1, p2, rfl, rfl, rfl, h0, h1, h2⟩ := trodAll_three hA
  have hV' : DataW.TrodVars enc Tryd.prog W (fun _ => true) [] gs q := hV
  obtain ⟨rfl, rfl⟩ := trodVars_none hV'
  have hwt : ∀ (j : Nat) t d, (_ : List TypeId)[j]? = some t → (_ : List (DataW H))[j]? = some d → ∀ n ∈ d.weights Tryd.prog t, n ≤ reachBytes := fun j t d ht hd n hn => of_decide_eq_true (List.all_eq_true.1 hz n (DataW.weights_mem_each ht hd n hn))
  obtain ⟨x0, r0, s0⟩ := open_sl Tryd.underlying41 opens_intss (hval 0 41 v0 rfl rfl) h0 (hwt 0 _ _ rfl rfl)
  obtain ⟨x1, r1, s1⟩ := open_sl Tryd.underlying42 opens_strings (hval 1 42 v1 rfl rfl) h1 (hwt 1 _ _ rfl rfl)
  have q1 := r1.split.2
  replace r1 := r1.split.1
  obtain ⟨x2, r2, s2⟩ := open_sl Tryd.underlying41 opens_intss (hval 2 41 v2 rfl rfl) h2 (hwt 2 _ _ rfl rfl)
  refine Calls.mono (StorePlays_ret W hg r0 r1 q1 r2) fun e W' ⟨v, he, hr, hE⟩ => ?_
  subst hr
  exact ⟨_, he, post_bool laidOut params_read rfl result Tryd.underlying4 hW' rfl hE.below⟩

set_option maxRecDepth 100000 in
theorem lifted (os : Os) (started : os.Started) (H : Type) (enc : TypeId × Value → H) :
    ReturnsInHanded {} Tryd.checked os 4 .any (fun w args => (Rows.storePlaysSpec.pre enc Tryd.prog Tryd.f4 [] false w args ∧ laidMetH Tryd.prog Rows.storePlaysRow.laid w) ∧ sizedMet enc Tryd.prog Tryd.f4 (OpenSpec.ofChange Rows.storePlaysSpec) false w args)
      (Rows.storePlaysSpec.post enc Tryd.prog Tryd.f4 false true false false) := by
  refine returnsInHanded_of_change_and (C := Tryd.checked) (X := fun w _ => laidMetH Tryd.prog Rows.storePlaysRow.laid w) (fun _ _ _ hh h => h.of_heap hh) own started (by kernel_rfl) Tryd.func4
    (ChangeSpec.witness_at (enc := enc) (C := Tryd.checked) (os := os) (X := fun w _ => laidMetH Tryd.prog Rows.storePlaysRow.laid w) false (laidWorld os) #[.slice none 0 0, .slice none 0 0, .slice none 0 0] 8 rfl (by kernel_rfl) (by kernel_rfl) (by kernel_rfl) (by kernel_rfl) (by kernel_rfl) (laidWorld_met os _)) ?_
  intro W base args ds gs before hval hW _ hz hL _
  exact contract H enc W base args ds gs before hval hW (handle_of_laid hL) hz
theorem holds : Rows.StorePlaysSaid :=
  OpenClaim.holds_of_wide 4 Tryd.f4 rfl rfl rfl rfl rfl rfl rfl ⟨rfl, rfl, rfl, rfl, rfl⟩ rfl rfl rfl rfl rfl (by kernel_rfl) Tryd.func4 (by kernel_rfl)
    (of_decide_eq_true (by kernel_rfl)) (by unfold Func.isWrapper; first | (rw [if_pos (by decide +kernel)]; kernel_rfl) | (rw [if_neg (by decide +kernel)]; exact ⟨rfl, rfl⟩))
    (fun os started H enc _ => lifted os started H enc)
set_option maxRecDepth 100000 in
theorem proved : Rows.StorePlaysCardSaid :=
  Claim7.holds_tied_plain_at .later [] [.handle] true Rows.storePlaysCard.stood.harness true
    holds (fun _ h => by cases h) (by kernel_rfl) (fun _ h => by cases h) storePlays_row_tie rfl ⟨rfl, rfl⟩ (by kernel_rfl) rfl
    (fun f fn hf hfn => by
      obtain rfl : f = 4 := Option.some.inj ((show Tryd.prog.funcNamed "strataweb/stratalaw2.StorePlays" = some 4 by kernel_rfl).symm.trans hf) |>.symm
      obtain rfl : fn = Tryd.f4 := (Option.some.inj (Tryd.func4.symm.trans hfn)).symm
      exact ⟨by kernel_rfl, fun j t ht => by
        rw [Tryd.params4] at ht
        have hm : t ∈ ([41, 42, 41] : List TypeId) := by
          have := List.mem_of_getElem? (l := ([41, 42, 41] : List TypeId)) (i := j) (a := t) (by simpa using ht)
          exact this
        have hall : ([41, 42, 41] : List TypeId).all (fun t => !Tryd.prog.wantsStandIn t) = true := by kernel_rfl
        have := List.all_eq_true.1 hall t hm
        have h2 : Tryd.prog.wantsStandIn t = false := by simpa using this
        exact h2⟩)
    (by kernel_rfl)

end Go.Proofs.YtjgcmpondbocfaaDoor.storePlays

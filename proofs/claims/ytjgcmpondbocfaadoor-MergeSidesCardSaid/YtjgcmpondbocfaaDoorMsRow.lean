/- THE LAW MergeSides COMES TO true, WHATEVER ITS ARGUMENTS, AND LEAVES WHAT IT READS: the row and its card. Conditions: those of the given row and card alone (MergeSidesCardSaid). -/
import Derived.Test.YtjgcmpondbocfaaDoorProg
import Derived.Test.YtjgcmpondbocfaaDoorRows
import Derived.Test.YtjgcmpondbocfaaDoorCards
import Derived.Test.YtjgcmpondbocfaaDoorTie
import Derived.Test.YtjgcmpondbocfaaDoorOpen
import Derived.Test.YtjgcmpondbocfaaDoorMsidesW
import Derived.LaidLaws
import Derived.LaidHandle
import Derived.Stop.Joined
import Derived.SevenTiedAt
import Derived.ChangeVars
namespace Go.Proofs.YtjgcmpondbocfaaDoor.mergeSides
open Go.RowKit Go.ChangeShapes Go.WideShapes Go.ChangeAt

theorem own : ownKnob Tryd.prog.godebug = none := by kernel_rfl
theorem laidOut : laidOutB Tryd.prog = true := by kernel_rfl
theorem params_read : Tryd.f5.params.toList.all (fun t => Tryd.prog.readableRec t && Nat.blt t Tryd.prog.types.size) = true := by kernel_rfl
theorem result : Tryd.f5.resultTypes = #[4] := by kernel_rfl
theorem size_int : Tryd.prog.cellsOf 3 = 1 := by kernel_rfl
theorem bytes_int : Tryd.prog.bytesOf 3 = 8 := by kernel_rfl
theorem size_string : Tryd.prog.cellsOf 9 = 1 := by kernel_rfl
theorem bytes_string : Tryd.prog.bytesOf 9 = 16 := by kernel_rfl
theorem size_term : Tryd.prog.cellsOf 66 = 3 := by kernel_rfl
theorem opens_term : Opens Tryd.prog 66 (REnc encTerm) := fun enc w base sp held fuel cs x h hz => by
  obtain ⟨xs, n, -, hx, hl, hn, hf⟩ := DataW.trod_struct Tryd.underlying66 h
  rw [size_term] at hl
  obtain ⟨y0, y1, y2, rfl⟩ := len3 hn
  obtain ⟨c0, c1, c2, rfl⟩ := len3 hl
  have h0 : DataW.trod enc Tryd.prog w base sp held n 3 (List.take (Tryd.prog.cellsOf 3) (List.drop 0 [c0, c1, c2])) = some y0 := hf 0 _ rfl
  have h1 : DataW.trod enc Tryd.prog w base sp held n 9 (List.take (Tryd.prog.cellsOf 9) (List.drop 1 [c0, c1, c2])) = some y1 := hf 1 _ rfl
  have h2 : DataW.trod enc Tryd.prog w base sp held n 9 (List.take (Tryd.prog.cellsOf 9) (List.drop 2 [c0, c1, c2])) = some y2 := hf 2 _ rfl
  rw [size_int] at h0
  rw [size_string] at h1 h2
  have hw : x.1.weights Tryd.prog 66 = y0.1.weights Tryd.prog 3 ++ (y1.1.weights Tryd.prog 9 ++ (y2.1.weights Tryd.prog 9 ++ [])) := by
    rw [hx]
    show DataW.weights Tryd.prog 66 (.agg _) = _
    rw [DataW.weights, Tryd.underlying66]
    rfl
  obtain ⟨k, e0, -⟩ := Opens.int Tryd.underlying3 enc w base sp held n _ _ h0 (fun m hm => hz m (by rw [hw]; simp [hm]))
  obtain ⟨s, e1, -⟩ := Opens.str Tryd.underlying9 enc w base sp held n _ _ h1 (fun m hm => hz m (by rw [hw]; simp [hm]))
  obtain ⟨l, e2, -⟩ := Opens.str Tryd.underlying9 enc w base sp held n _ _ h2 (fun m hm => hz m (by rw [hw]; simp [hm]))
  refine ⟨⟨k, s, l⟩, ?_⟩
  simp at e0 e1 e2
  show _ = encTerm _
  rw [e0, e1, e2]; rfl
theorem size_triple : Tryd.prog.cellsOf 68 = 9 := by kernel_rfl
theorem cut9 {α : Type} {l : List α} (h : l.length = 9) : l = l.take 3 ++ ((l.drop 3).take 3 ++ (l.drop 6).take 3) := by
  have e : (l.drop 6).take 3 = l.drop 6 := List.take_of_length_le (by rw [List.length_drop]; omega)
  rw [e, show l.drop 6 = (l.drop 3).drop 3 by rw [List.drop_drop], List.take_append_drop, List.take_append_drop]
theorem opens_triple : Opens Tryd.prog 68 (REnc encTriple) := fun enc w base sp held fuel cs x h hz => by
  obtain ⟨xs, n, -, hx, hl, hn, hf⟩ := DataW.trod_struct Tryd.underlying68 h
  rw [size_triple] at hl
  obtain ⟨y0, y1, y2, rfl⟩ := len3 hn
  have h0 : DataW.trod enc Tryd.prog w base sp held n 66 (List.take (Tryd.prog.cellsOf 66) (List.drop 0 cs)) = some y0 := hf 0 _ rfl
  have h1 : DataW.trod enc Tryd.prog w base sp held n 66 (List.take (Tryd.prog.cellsOf 66) (List.drop 3 cs)) = some y1 := hf 1 _ rfl
  have h2 : DataW.trod enc Tryd.prog w base sp held n 66 (List.take (Tryd.prog.cellsOf 66) (List.drop 6 cs)) = some y2 := hf 2 _ rfl
  rw [size_term] at h0 h1 h2
  have hw : x.1.weights Tryd.prog 68 = y0.1.weights Tryd.prog 66 ++ (y1.1.weights Tryd.prog 66 ++ (y2.1.weights Tryd.prog 66 ++ [])) := by
    rw [hx]
    show DataW.weights Tryd.prog 68 (.agg _) = _
    rw [DataW.weights, Tryd.underlying68]
    rfl
  obtain ⟨s, e0⟩ := opens_term enc w base sp held n _ _ h0 (fun m hm => hz m (by rw [hw]; simp [hm]))
  obtain ⟨p, e1⟩ := opens_term enc w base sp held n _ _ h1 (fun m hm => hz m (by rw [hw]; simp [hm]))
  obtain ⟨o, e2⟩ := opens_term enc w base sp held n _ _ h2 (fun m hm => hz m (by rw [hw]; simp [hm]))
  replace e0 : List.take 3 cs = encTerm s := e0
  replace e1 : List.take 3 (List.drop 3 cs) = encTerm p := e1
  replace e2 : List.take 3 (List.drop 6 cs) = encTerm o := e2
  refine ⟨⟨s, p, o⟩, ?_⟩
  show cs = encTriple _
  rw [cut9 hl, e0, e1, e2]; rfl
theorem opens_triples : Opens Tryd.prog 64 (fun w cs (xs : List Triple) => (∃ v, cs = [v] ∧ RTriples w v xs) ∧ xs.length * Tryd.prog.bytesOf 68 ≤ 140737488351232) := Opens.slice Tryd.underlying64 size_triple rfl opens_triple

theorem et : Tryd.prog.globalNamed "errors.errorType" = some 0 := by kernel_rfl
theorem rt : (Tryd.prog.cutTypes.find? (·.1 == "internal/reflectlite.rtype")).map (·.2) = some 166 := by kernel_rfl
theorem oneRow : ((List.range 242).filter fun t => Tryd.prog.rowNamed t [101, 114, 114, 111, 114]) = [26] := by kernel_rfl
theorem typesSize : Tryd.prog.types.size = 242 := by kernel_rfl
/-- What the row's listed variable gives a walk. -/
theorem handle_of_laid {W : World} (h : laidMetH Tryd.prog Rows.mergeSidesRow.laid W) : ErrType W := by
  have h' : laidMet Tryd.prog [] W ∧ handlesMet Tryd.prog Rows.mergeSidesRow.laid W := h
  obtain ⟨name, u, ty, e1, e2, e3, e4, e5⟩ := h'.2 _ (List.mem_singleton.2 rfl)
  have en : name = [101, 114, 114, 111, 114] := (Option.some.inj e1).symm
  subst en
  obtain rfl := Option.some.inj (rt.symm.trans e2)
  have hm : ty ∈ (List.range 242).filter fun t => Tryd.prog.rowNamed t [101, 114, 114, 111, 114] := List.mem_filter.2 ⟨List.mem_range.2 (by rw [← typesSize]; exact e3), e4⟩
  rw [oneRow] at hm
  obtain rfl := List.mem_singleton.1 hm
  have hh : typeHandle Tryd.prog 26 = .pointer (some ⟨2, 26, none⟩) := by kernel_rfl
  rw [hh] at e5
  have := World.var?_cell et e5 0
  simpa [ErrType] using this
/-- A world in which the variable holds what the row lists. -/
noncomputable def laidWorld (os : Os) : World :=
  let w0 := World.holding Tryd.prog os ⟨#[], #[], []⟩
  { w0 with heap := w0.heap.modify 0 fun
      | .cells _ t frozen => .cells #[.iface 166 (.agg #[.pointer (some ⟨2, 26, none⟩)])] t frozen
      | o => o }
theorem laidWorld_met (os : Os) (args : Array Value) : laidMetH Tryd.prog Rows.mergeSidesRow.laid ((laidWorld os).forCall (fun _ _ => 0) ⟨#[], args, []⟩).memory :=
  laidMetH_of_parts (laidMet_nil _ _) (by kernel_rfl)

set_option maxRecDepth 100000 in
theorem contract (H : Type) (enc : TypeId × Value → H) (W : World) (base : Nat) (args : Array Value) (ds gs : List (DataW H)) (before : List MemPlace)
    (hval : ∀ (j : Nat) t v, Tryd.f5.params[j]? = some t → args[j]? = some v → Value.okWide Tryd.prog W .any base t v)
    (hW : DataW.Whole enc Tryd.prog Tryd.f5.params.toList Rows.mergeSidesSpec.vars false W args.toList ds gs before) (hg : ErrType W) (hz : (DataW.weightsEach Tryd.prog (Tryd.f5.params.toList ++ Rows.mergeSidesSpec.plain.varTypes Tryd.prog) (ds ++ gs)).all (· ≤ reachBytes) = true) :
    Calls Tryd.prog 5 args W fun e W' => ∃ v, e = .returned v ∧ Rows.mergeSidesSpec.post enc Tryd.prog Tryd.f5 false true false false W args v W' := by
  have hW' := hW
  obtain ⟨p, q, hA0, hV, rfl, hfz, hnd⟩ := hW
  have hA : DataW.TrodAll enc Tryd.prog W 0 (fun _ => true) true Tryd.f5.params.toList args.toList ds p := hA0
  rw [Tryd.params5] at hA hval hz
  obtain ⟨v0, v1, v2, d0, d1, d2, p0, p1, p2, rfl, rfl, rfl, h0, h1, h2⟩ := trodAll_three hA
  have hV' : DataW.TrodVars enc Tryd.prog W (fun _ => true) [] gs q := hV
  obtain ⟨rfl, rfl⟩ := trodVars_none hV'
  have hwt : ∀ (j : Nat) t d, (_ : List TypeId)[j]? = some t → (_ : List (DataW H))[j]? = some d → ∀ n ∈ d.weights Tryd.prog t, n ≤ reachBytes := fun j t d ht hd n hn => of_decide_eq_true (List.all_eq_true.1 hz n (DataW.weights_mem_each ht hd n hn))
  obtain ⟨x0, r0, s0⟩ := open_sl Tryd.underlying64 opens_triples (hval 0 64 v0 rfl rfl) h0 (hwt 0 _ _ rfl rfl)
  obtain ⟨x1, r1, s1⟩ := open_sl Tryd.underlying64 opens_triples (hval 1 64 v1 rfl rfl) h1 (hwt 1 _ _ rfl rfl)
  obtain ⟨x2, r2, s2⟩ := open_sl Tryd.underlying64 opens_triples (hval 2 64 v2 rfl rfl) h2 (hwt 2 _ _ rfl rfl)
  refine Calls.mono (MergeSides_ret W hg r0 r1 r2) fun e W' ⟨v, he, hr, hE⟩ => ?_
  subst hr
  exact ⟨_, he, post_bool laidOut params_read rfl result Tryd.underlying4 hW' rfl hE.below⟩

set_option maxRecDepth 100000 in
theorem lifted (os : Os) (started : os.Started) (H : Type) (enc : TypeId × Value → H) :
    ReturnsInHanded {} Tryd.checked os 5 .any (fun w args => (Rows.mergeSidesSpec.pre enc Tryd.prog Tryd.f5 [] false w args ∧ laidMetH Tryd.prog Rows.mergeSidesRow.laid w) ∧ sizedMet enc Tryd.prog Tryd.f5 (OpenSpec.ofChange Rows.mergeSidesSpec) false w args)
      (Rows.mergeSidesSpec.post enc Tryd.prog Tryd.f5 false true false false) := by
  refine returnsInHanded_of_change_and (C := Tryd.checked) (X := fun w _ => laidMetH Tryd.prog Rows.mergeSidesRow.laid w) (fun _ _ _ hh h => h.of_heap hh) own started (by kernel_rfl) Tryd.func5
    (ChangeSpec.witness_at (enc := enc) (C := Tryd.checked) (os := os) (X := fun w _ => laidMetH Tryd.prog Rows.mergeSidesRow.laid w) false (laidWorld os) #[.slice none 0 0, .slice none 0 0, .slice none 0 0] 8 rfl (by kernel_rfl) (by kernel_rfl) (by kernel_rfl) (by kernel_rfl) (by kernel_rfl) (laidWorld_met os _)) ?_
  intro W base args ds gs before hval hW _ hz hL _
  exact contract H enc W base args ds gs before hval hW (handle_of_laid hL) hz
theorem holds : Rows.MergeSidesSaid :=
  OpenClaim.holds_of_wide 5 Tryd.f5 rfl rfl rfl rfl rfl rfl rfl ⟨rfl, rfl, rfl, rfl, rfl⟩ rfl rfl rfl rfl rfl (by kernel_rfl) Tryd.func5 (by kernel_rfl)
    (of_decide_eq_true (by kernel_rfl)) (by unfold Func.isWrapper; first | (rw [if_pos (by decide +kernel)]; kernel_rfl) | (rw [if_neg (by decide +kernel)]; exact ⟨rfl, rfl⟩))
    (fun os started H enc _ => lifted os started H enc)
set_option maxRecDepth 100000 in
theorem proved : Rows.MergeSidesCardSaid :=
  Claim7.holds_tied_plain_at .later [] [.handle] true Rows.mergeSidesCard.stood.harness true
    holds (fun _ h => by cases h) (by kernel_rfl) (fun _ h => by cases h) mergeSides_row_tie rfl ⟨rfl, rfl⟩ (by kernel_rfl) rfl
    (fun f fn hf hfn => by
      obtain rfl : f = 5 := Option.some.inj ((show Tryd.prog.funcNamed "strataweb/stratalaw2.MergeSides" = some 5 by kernel_rfl).symm.trans hf) |>.symm
      obtain rfl : fn = Tryd.f5 := (Option.some.inj (Tryd.func5.symm.trans hfn)).symm
      exact ⟨by kernel_rfl, fun j t ht => by
        rw [Tryd.params5] at ht
        have hm : t ∈ ([64, 64, 64] : List TypeId) := by
          have := List.mem_of_getElem? (l := ([64, 64, 64] : List TypeId)) (i := j) (a := t) (by simpa using ht)
          exact this
        have hall : ([64, 64, 64] : List TypeId).all (fun t => !Tryd.prog.wantsStandIn t) = true := by kernel_rfl
        have := List.all_eq_true.1 hall t hm
        have h2 : Tryd.prog.wantsStandIn t = false := by simpa using this
        exact h2⟩)
    (by kernel_rfl)

end Go.Proofs.YtjgcmpondbocfaaDoor.mergeSides

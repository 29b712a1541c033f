/- THE LAW MergeTells COMES TO true, WHATEVER ITS ARGUMENTS, AND LEAVES WHAT IT READS: the row and its card. Conditions: those of the given row and card alone (MergeTellsCardSaid). -/
import Derived.Test.YtjgcmpondbocfaaGreatDoorProg
import Derived.Test.YtjgcmpondbocfaaGreatDoorRows
import Derived.Test.YtjgcmpondbocfaaGreatDoorCards
import Derived.Test.YtjgcmpondbocfaaGreatDoorTie
import Derived.Test.YtjgcmpondbocfaaGreatDoorOpen
import Derived.Test.YtjgcmpondbocfaaGreatDoorMtellsW
import Derived.LaidLaws
import Derived.LaidHandle
import Derived.Stop.Joined
import Derived.SevenTiedAt
import Derived.ChangeVars
namespace Go.Proofs.YtjgcmpondbocfaaGreatDoor.mergeTells
open Go.RowKit Go.ChangeShapes Go.WideShapes Go.ChangeAt

theorem own : ownKnob Tryz.prog.godebug = none := by kernel_rfl
theorem laidOut : laidOutB Tryz.prog = true := by kernel_rfl
theorem params_read : Tryz.f5.params.toList.all (fun t => Tryz.prog.readableRec t && Nat.blt t Tryz.prog.types.size) = true := by kernel_rfl
theorem result : Tryz.f5.resultTypes = #[4] := by kernel_rfl
theorem size_int : Tryz.prog.cellsOf 3 = 1 := by kernel_rfl
theorem bytes_int : Tryz.prog.bytesOf 3 = 8 := by kernel_rfl
theorem size_string : Tryz.prog.cellsOf 9 = 1 := by kernel_rfl
theorem bytes_string : Tryz.prog.bytesOf 9 = 16 := by kernel_rfl
theorem size_term : Tryz.prog.cellsOf 44 = 3 := by kernel_rfl
theorem opens_term : Opens Tryz.prog 44 (REnc encTerm) := fun enc w base sp held fuel cs x h hz => by
  obtain ⟨xs, n, -, hx, hl, hn, hf⟩ := DataW.trod_struct Tryz.underlying44 h
  rw [size_term] at hl
  obtain ⟨y0, y1, y2, rfl⟩ := len3 hn
  obtain ⟨c0, c1, c2, rfl⟩ := len3 hl
  have h0 : DataW.trod enc Tryz.prog w base sp held n 3 (List.take (Tryz.prog.cellsOf 3) (List.drop 0 [c0, c1, c2])) = some y0 := hf 0 _ rfl
  have h1 : DataW.trod enc Tryz.prog w base sp held n 9 (List.take (Tryz.prog.cellsOf 9) (List.drop 1 [c0, c1, c2])) = some y1 := hf 1 _ rfl
  have h2 : DataW.trod enc Tryz.prog w base sp held n 9 (List.take (Tryz.prog.cellsOf 9) (List.drop 2 [c0, c1, c2])) = some y2 := hf 2 _ rfl
  rw [size_int] at h0
  rw [size_string] at h1 h2
  have hw : x.1.weights Tryz.prog 44 = y0.1.weights Tryz.prog 3 ++ (y1.1.weights Tryz.prog 9 ++ (y2.1.weights Tryz.prog 9 ++ [])) := by
    rw [hx]
    show DataW.weights Tryz.prog 44 (.agg _) = _
    rw [DataW.weights, Tryz.underlying44]
    rfl
  obtain ⟨k, e0, -⟩ := Opens.int Tryz.underlying3 enc w base sp held n _ _ h0 (fun m hm => hz m (by rw [hw]; simp [hm]))
  obtain ⟨s, e1, -⟩ := Opens.str Tryz.underlying9 enc w base sp held n _ _ h1 (fun m hm => hz m (by rw [hw]; simp [hm]))
  obtain ⟨l, e2, -⟩ := Opens.str Tryz.underlying9 enc w base sp held n _ _ h2 (fun m hm => hz m (by rw [hw]; simp [hm]))
  refine ⟨⟨k, s, l⟩, ?_⟩
  simp at e0 e1 e2
  show _ = encTerm _
  rw [e0, e1, e2]; rfl
theorem size_triple : Tryz.prog.cellsOf 100 = 9 := by kernel_rfl
theorem cut9 {α : Type} {l : List α} (h : l.length = 9) : l = l.take 3 ++ ((l.drop 3).take 3 ++ (l.drop 6).take 3) := by
  have e : (l.drop 6).take 3 = l.drop 6 := List.take_of_length_le (by rw [List.length_drop]; omega)
  rw [e, show l.drop 6 = (l.drop 3).drop 3 by rw [List.drop_drop], List.take_append_drop, List.take_append_drop]
theorem opens_triple : Opens Tryz.prog 100 (REnc encTriple) := fun enc w base sp held fuel cs x h hz => by
  obtain ⟨xs, n, -, hx, hl, hn, hf⟩ := DataW.trod_struct Tryz.underlying100 h
  rw [size_triple] at hl
  obtain ⟨y0, y1, y2, rfl⟩ := len3 hn
  have h0 : DataW.trod enc Tryz.prog w base sp held n 44 (List.take (Tryz.prog.cellsOf 44) (List.drop 0 cs)) = some y0 := hf 0 _ rfl
  have h1 : DataW.trod enc Tryz.prog w base sp held n 44 (List.take (Tryz.prog.cellsOf 44) (List.drop 3 cs)) = some y1 := hf 1 _ rfl
  have h2 : DataW.trod enc Tryz.prog w base sp held n 44 (List.take (Tryz.prog.cellsOf 44) (List.drop 6 cs)) = some y2 := hf 2 _ rfl
  rw [size_term] at h0 h1 h2
  have hw : x.1.weights Tryz.prog 100 = y0.1.weights Tryz.prog 44 ++ (y1.1.weights Tryz.prog 44 ++ (y2.1.weights Tryz.prog 44 ++ [])) := by
    rw [hx]
    show DataW.weights Tryz.prog 100 (.agg _) = _
    rw [DataW.weights, Tryz.underlying100]
    rfl
  obtain ⟨s, e0⟩ := opens_term enc w base sp held n _ _ h0 (fun m hm => hz m (by rw [hw]; simp [hm]))
  obtain ⟨p, e1⟩ := opens_term enc w base sp held n _ _ h1 (fun m hm => hz m (by rw [hw]; simp [hm]))
  obtain ⟨o, e2⟩ := opens_term enc w base sp held n _ _ h2 (fun m hm => hz m (by rw [hw]; simp [hm]))
  replace e0 : List.take 3 cs = encTerm s := e0
  replace e1 : List.take 3 (List.drop 3 cs) = encTerm p := e1
  replace e2 : List.take 3 (List.drop 6 cs) = encTerm o := e2
  refine ⟨⟨s, p, o⟩, ?_⟩
  show cs = encTriple _
  rw [cut9 hl, e0, e1, e2]; rfl
theorem opens_triples : Opens Tryz.prog 22 (fun w cs (xs : List Triple) => (∃ v, cs = [v] ∧ RTriples w v xs) ∧ xs.length * Tryz.prog.bytesOf 100 ≤ 140737488351232) := Opens.slice Tryz.underlying22 size_triple rfl opens_triple
theorem size_bool : Tryz.prog.cellsOf 4 = 1 := by kernel_rfl

theorem et : Tryz.prog.globalNamed "errors.errorType" = some 0 := by kernel_rfl
theorem rt : (Tryz.prog.cutTypes.find? (·.1 == "internal/reflectlite.rtype")).map (·.2) = some 307 := by kernel_rfl
theorem oneRow : ((List.range 410).filter fun t => Tryz.prog.rowNamed t [101, 114, 114, 111, 114]) = [32] := by kernel_rfl
theorem typesSize : Tryz.prog.types.size = 410 := by kernel_rfl
/-- What the row's listed variable gives a walk. -/
theorem handle_of_laid {W : World} (h : laidMetH Tryz.prog Rows.mergeTellsRow.laid W) : ErrType W := by
  have h' : laidMet Tryz.prog [] W ∧ handlesMet Tryz.prog Rows.mergeTellsRow.laid W := h
  obtain ⟨name, u, ty, e1, e2, e3, e4, e5⟩ := h'.2 _ (List.mem_singleton.2 rfl)
  have en : name = [101, 114, 114, 111, 114] := (Option.some.inj e1).symm
  subst en
  obtain rfl := Option.some.inj (rt.symm.trans e2)
  have hm : ty ∈ (List.range 410).filter fun t => Tryz.prog.rowNamed t [101, 114, 114, 111, 114] := List.mem_filter.2 ⟨List.mem_range.2 (by rw [← typesSize]; exact e3), e4⟩
  rw [oneRow] at hm
  obtain rfl := List.mem_singleton.1 hm
  have hh : typeHandle Tryz.prog 32 = .pointer (some ⟨7, 32, none⟩) := by kernel_rfl
  rw [hh] at e5
  have := World.var?_cell et e5 0
  simpa [ErrType] using this
/-- A world in which the variable holds what the row lists. -/
noncomputable def laidWorld (os : Os) : World :=
  let w0 := World.holding Tryz.prog os ⟨#[], #[], []⟩
  { w0 with heap := w0.heap.modify 0 fun
      | .cells _ t frozen => .cells #[.iface 307 (.agg #[.pointer (some ⟨7, 32, none⟩)])] t frozen
      | o => o }
theorem laidWorld_met (os : Os) (args : Array Value) : laidMetH Tryz.prog Rows.mergeTellsRow.laid ((laidWorld os).forCall (fun _ _ => 0) ⟨#[], args, []⟩).memory :=
  laidMetH_of_parts (laidMet_nil _ _) (by kernel_rfl)

set_option maxRecDepth 100000 in
theorem contract (H : Type) (enc : TypeId × Value → H) (W : World) (base : Nat) (args : Array Value) (ds gs : List (DataW H)) (before : List MemPlace)
    (hval : ∀ (j : Nat) t v, Tryz.f5.params[j]? = some t → args[j]? = some v → Value.okWide Tryz.prog W .any base t v)
    (hW : DataW.Whole enc Tryz.prog Tryz.f5.params.toList Rows.mergeTellsSpec.vars false W args.toList ds gs before) (hg : ErrType W) (hz : (DataW.weightsEach Tryz.prog (Tryz.f5.params.toList ++ Rows.mergeTellsSpec.plain.varTypes Tryz.prog) (ds ++ gs)).all (· ≤ reachBytes) = true) :
    Calls Tryz.prog 5 args W fun e W' => ∃ v, e = .returned v ∧ Rows.mergeTellsSpec.post enc Tryz.prog Tryz.f5 false true false false W args v W' := by
  have hW' := hW
  obtain ⟨p, q, hA0, hV, rfl, hfz, hnd⟩ := hW
  have hA : DataW.TrodAll enc Tryz.prog W 0 (fun _ => true) true Tryz.f5.params.toList args.toList ds p := hA0
  rw [Tryz.params5] at hA hval hz
  obtain ⟨v0, v1, v2, v3, d0, d1, d2, d3, p0, p1, p2, p3, rfl, rfl, rfl, h0, h1, h2, h3⟩ := trodAll_four hA
  have hV' : DataW.TrodVars enc Tryz.prog W (fun _ => true) [] gs q := hV
  obtain ⟨rfl, rfl⟩ := trodVars_none hV'
  have hwt : ∀ (j : Nat) t d, (_ : List TypeId)[j]? = some t → (_ : List (DataW H))[j]? = some d → ∀ n ∈ d.weights Tryz.prog t, n ≤ reachBytes := fun j t d ht hd n hn => of_decide_eq_true (List.all_eq_true.1 hz n (DataW.weights_mem_each ht hd n hn))
  obtain ⟨x0, r0, s0⟩ := open_sl Tryz.underlying22 opens_triples (hval 0 22 v0 rfl rfl) h0 (hwt 0 _ _ rfl rfl)
  obtain ⟨x1, r1, s1⟩ := open_sl Tryz.underlying22 opens_triples (hval 1 22 v1 rfl rfl) h1 (hwt 1 _ _ rfl rfl)
  obtain ⟨x2, r2, s2⟩ := open_sl Tryz.underlying22 opens_triples (hval 2 22 v2 rfl rfl) h2 (hwt 2 _ _ rfl rfl)
  obtain ⟨x3, rfl, rfl, rfl⟩ := open_bool Tryz.underlying4 (hval 3 4 v3 rfl rfl) h3
  refine Calls.mono (MergeTells_ret W hg r0 r1 r2) fun e W' ⟨v, he, hr, hE⟩ => ?_
  subst hr
  exact ⟨_, he, post_bool laidOut params_read rfl result Tryz.underlying4 hW' rfl hE.below⟩

set_option maxRecDepth 100000 in
theorem lifted (os : Os) (started : os.Started) (H : Type) (enc : TypeId × Value → H) :
    ReturnsInHanded {} Tryz.checked os 5 .any (fun w args => (Rows.mergeTellsSpec.pre enc Tryz.prog Tryz.f5 [] false w args ∧ laidMetH Tryz.prog Rows.mergeTellsRow.laid w) ∧ sizedMet enc Tryz.prog Tryz.f5 (OpenSpec.ofChange Rows.mergeTellsSpec) false w args)
      (Rows.mergeTellsSpec.post enc Tryz.prog Tryz.f5 false true false false) := by
  refine returnsInHanded_of_change_and (C := Tryz.checked) (X := fun w _ => laidMetH Tryz.prog Rows.mergeTellsRow.laid w) (fun _ _ _ hh h => h.of_heap hh) own started (by kernel_rfl) Tryz.func5
    (ChangeSpec.witness_at (enc := enc) (C := Tryz.checked) (os := os) (X := fun w _ => laidMetH Tryz.prog Rows.mergeTellsRow.laid w) false (laidWorld os) #[.slice none 0 0, .slice none 0 0, .slice none 0 0, .bool false] 8 rfl (by kernel_rfl) (by kernel_rfl) (by kernel_rfl) (by kernel_rfl) (by kernel_rfl) (laidWorld_met os _)) ?_
  intro W base args ds gs before hval hW _ hz hL _
  exact contract H enc W base args ds gs before hval hW (handle_of_laid hL) hz
theorem holds : Rows.MergeTellsSaid :=
  OpenClaim.holds_of_wide 5 Tryz.f5 rfl rfl rfl rfl rfl rfl rfl ⟨rfl, rfl, rfl, rfl, rfl⟩ rfl rfl rfl rfl rfl (by kernel_rfl) Tryz.func5 (by kernel_rfl)
    (of_decide_eq_true (by kernel_rfl)) (by unfold Func.isWrapper; first | (rw [if_pos (by decide +kernel)]; kernel_rfl) | (rw [if_neg (by decide +kernel)]; exact ⟨rfl, rfl⟩))
    (fun os started H enc _ => lifted os started H enc)
set_option maxRecDepth 100000 in
theorem proved : Rows.MergeTellsCardSaid :=
  Claim7.holds_tied_plain_at .later [] [.handle] true Rows.mergeTellsCard.stood.harness true
    holds (fun _ h => by cases h) (by kernel_rfl) (fun _ h => by cases h) mergeTells_row_tie rfl ⟨rfl, rfl⟩ (by kernel_rfl) rfl
    (fun f fn hf hfn => by
      obtain rfl : f = 5 := Option.some.inj ((show Tryz.prog.funcNamed "strataweb/stratalaw2.MergeTells" = some 5 by kernel_rfl).symm.trans hf) |>.symm
      obtain rfl : fn = Tryz.f5 := (Option.some.inj (Tryz.func5.symm.trans hfn)).symm
      exact ⟨by kernel_rfl, fun j t ht => by
        rw [Tryz.params5] at ht
        have hm : t ∈ ([22, 22, 22, 4] : List TypeId) := by
          have := List.mem_of_getElem? (l := ([22, 22, 22, 4] : List TypeId)) (i := j) (a := t) (by simpa using ht)
          exact this
        have hall : ([22, 22, 22, 4] : List TypeId).all (fun t => !Tryz.prog.wantsStandIn t) = true := by kernel_rfl
        have := List.all_eq_true.1 hall t hm
        have h2 : Tryz.prog.wantsStandIn t = false := by simpa using this
        exact h2⟩)
    (by kernel_rfl)

end Go.Proofs.YtjgcmpondbocfaaGreatDoor.mergeTells

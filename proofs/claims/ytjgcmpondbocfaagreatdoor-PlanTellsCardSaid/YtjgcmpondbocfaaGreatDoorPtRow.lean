/- THE LAW PlanTells COMES TO true, WHATEVER ITS ARGUMENTS, AND LEAVES WHAT IT READS: the row and its card. Conditions: those of the given row and card alone (PlanTellsCardSaid). -/
import Derived.Test.YtjgcmpondbocfaaGreatDoorProg
import Derived.Test.YtjgcmpondbocfaaGreatDoorRows
import Derived.Test.YtjgcmpondbocfaaGreatDoorCards
import Derived.Test.YtjgcmpondbocfaaGreatDoorTie
import Derived.Test.YtjgcmpondbocfaaGreatDoorOpen
import Derived.Test.YtjgcmpondbocfaaGreatDoorPtellsW
import Derived.LaidLaws
import Derived.LaidHandle
import Derived.Stop.Joined
import Derived.SevenTiedAt
import Derived.ChangeVars
import Derived.SizedLaws
namespace Go.Proofs.YtjgcmpondbocfaaGreatDoor.planTells
open Go.RowKit Go.ChangeShapes Go.WideShapes Go.ChangeAt

theorem own : ownKnob Tryz.prog.godebug = none := by kernel_rfl
theorem laidOut : laidOutB Tryz.prog = true := by kernel_rfl
theorem params_read : Tryz.f3.params.toList.all (fun t => Tryz.prog.readableRec t && Nat.blt t Tryz.prog.types.size) = true := by kernel_rfl
theorem result : Tryz.f3.resultTypes = #[4] := by kernel_rfl
theorem size_int : Tryz.prog.cellsOf 3 = 1 := by kernel_rfl
theorem bytes_int : Tryz.prog.bytesOf 3 = 8 := by kernel_rfl
theorem size_string : Tryz.prog.cellsOf 9 = 1 := by kernel_rfl
theorem bytes_string : Tryz.prog.bytesOf 9 = 16 := by kernel_rfl
theorem size_term : Tryz.prog.cellsOf 44 = 3 := by kernel_rfl
theorem opens_term : Opens Tryz.prog 44 (REnc encTerm) := fun enc w base sp held fuel cs x h hz => by
  obtain ⟨xs, n, -, hx, hl, hn, hf⟩ := DataW.trod_struct Tryz.underlying44 h
  rw [size_term] at hl
  obtain ⟨y0, y1, y2, rfl⟩ := len3 hn
  obtain ⟨c0, c1, c2, rfl⟩ := len3 hl
  have h0 : DataW.trod enc Tryz.prog w base sp held n 3 (List.take (Tryz.prog.cellsOf 3) (List.drop 0 [c0, c1, c2])) = some y0 := hf 0 _ rfl
  have h1 : DataW.trod enc Tryz.prog w base sp held n 9 (List.take (Tryz.prog.cellsOf 9) (List.drop 1 [c0, c1, c2])) = some y1 := hf 1 _ rfl
  have h2 : DataW.trod enc Tryz.prog w base sp held n 9 (List.take (Tryz.prog.cellsOf 9) (List.drop 2 [c0, c1, c2])) = some y2 := hf 2 _ rfl
  rw [size_int] at h0
  rw [size_string] at h1 h2
  have hw : x.1.weights Tryz.prog 44 = y0.1.weights Tryz.prog 3 ++ (y1.1.weights Tryz.prog 9 ++ (y2.1.weights Tryz.prog 9 ++ [])) := by
    rw [hx]
    show DataW.weights Tryz.prog 44 (.agg _) = _
    rw [DataW.weights, Tryz.underlying44]
    rfl
  obtain ⟨k, e0, -⟩ := Opens.int Tryz.underlying3 enc w base sp held n _ _ h0 (fun m hm => hz m (by rw [hw]; simp [hm]))
  obtain ⟨s, e1, -⟩ := Opens.str Tryz.underlying9 enc w base sp held n _ _ h1 (fun m hm => hz m (by rw [hw]; simp [hm]))
  obtain ⟨l, e2, -⟩ := Opens.str Tryz.underlying9 enc w base sp held n _ _ h2 (fun m hm => hz m (by rw [hw]; simp [hm]))
  refine ⟨⟨k, s, l⟩, ?_⟩
  simp at e0 e1 e2
  show _ = encTerm _
  rw [e0, e1, e2]; rfl
theorem size_triple : Tryz.prog.cellsOf 100 = 9 := by kernel_rfl
theorem cut9 {α : Type} {l : List α} (h : l.length = 9) : l = l.take 3 ++ ((l.drop 3).take 3 ++ (l.drop 6).take 3) := by
  have e : (l.drop 6).take 3 = l.drop 6 := List.take_of_length_le (by rw [List.length_drop]; omega)
  rw [e, show l.drop 6 = (l.drop 3).drop 3 by rw [List.drop_drop], List.take_append_drop, List.take_append_drop]
theorem opens_triple : Opens Tryz.prog 100 (REnc encTriple) := fun enc w base sp held fuel cs x h hz => by
  obtain ⟨xs, n, -, hx, hl, hn, hf⟩ := DataW.trod_struct Tryz.underlying100 h
  rw [size_triple] at hl
  obtain ⟨y0, y1, y2, rfl⟩ := len3 hn
  have h0 : DataW.trod enc Tryz.prog w base sp held n 44 (List.take (Tryz.prog.cellsOf 44) (List.drop 0 cs)) = some y0 := hf 0 _ rfl
  have h1 : DataW.trod enc Tryz.prog w base sp held n 44 (List.take (Tryz.prog.cellsOf 44) (List.drop 3 cs)) = some y1 := hf 1 _ rfl
  have h2 : DataW.trod enc Tryz.prog w base sp held n 44 (List.take (Tryz.prog.cellsOf 44) (List.drop 6 cs)) = some y2 := hf 2 _ rfl
  rw [size_term] at h0 h1 h2
  have hw : x.1.weights Tryz.prog 100 = y0.1.weights Tryz.prog 44 ++ (y1.1.weights Tryz.prog 44 ++ (y2.1.weights Tryz.prog 44 ++ [])) := by
    rw [hx]
    show DataW.weights Tryz.prog 100 (.agg _) = _
    rw [DataW.weights, Tryz.underlying100]
    rfl
  obtain ⟨s, e0⟩ := opens_term enc w base sp held n _ _ h0 (fun m hm => hz m (by rw [hw]; simp [hm]))
  obtain ⟨p, e1⟩ := opens_term enc w base sp held n _ _ h1 (fun m hm => hz m (by rw [hw]; simp [hm]))
  obtain ⟨o, e2⟩ := opens_term enc w base sp held n _ _ h2 (fun m hm => hz m (by rw [hw]; simp [hm]))
  replace e0 : List.take 3 cs = encTerm s := e0
  replace e1 : List.take 3 (List.drop 3 cs) = encTerm p := e1
  replace e2 : List.take 3 (List.drop 6 cs) = encTerm o := e2
  refine ⟨⟨s, p, o⟩, ?_⟩
  show cs = encTriple _
  rw [cut9 hl, e0, e1, e2]; rfl
theorem opens_triples : Opens Tryz.prog 22 (fun w cs (xs : List Triple) => (∃ v, cs = [v] ∧ RTriples w v xs) ∧ xs.length * Tryz.prog.bytesOf 100 ≤ 140737488351232) := Opens.slice Tryz.underlying22 size_triple rfl opens_triple
theorem size_bool : Tryz.prog.cellsOf 4 = 1 := by kernel_rfl
theorem opens_strings : Opens Tryz.prog 23 (fun w cs (xs : List ByteArray) => (∃ v, cs = [v] ∧ RSl (fun _ cs s => cs = encStr s ∧ s.size ≤ 140737488351232) 1 w v xs) ∧ xs.length * Tryz.prog.bytesOf 9 ≤ 140737488351232) :=
  Opens.slice Tryz.underlying23 size_string rfl (Opens.str Tryz.underlying9)
theorem size_slot : Tryz.prog.cellsOf 46 = 4 := by kernel_rfl
theorem opens_slot : Opens Tryz.prog 46 (REnc encSlot) := fun enc w base sp held fuel cs x h hz => by
  obtain ⟨xs, n, -, hx, hl, hn, hf⟩ := DataW.trod_struct Tryz.underlying46 h
  rw [size_slot] at hl
  obtain ⟨y0, y1, rfl⟩ := len2 hn
  have h0 : DataW.trod enc Tryz.prog w base sp held n 9 (List.take (Tryz.prog.cellsOf 9) (List.drop 0 cs)) = some y0 := hf 0 _ rfl
  have h1 : DataW.trod enc Tryz.prog w base sp held n 44 (List.take (Tryz.prog.cellsOf 44) (List.drop 1 cs)) = some y1 := hf 1 _ rfl
  rw [size_string] at h0
  rw [size_term] at h1
  have hw : x.1.weights Tryz.prog 46 = y0.1.weights Tryz.prog 9 ++ (y1.1.weights Tryz.prog 44 ++ []) := by
    rw [hx]
    show DataW.weights Tryz.prog 46 (.agg _) = _
    rw [DataW.weights, Tryz.underlying46]
    rfl
  obtain ⟨v, e0, -⟩ := Opens.str Tryz.underlying9 enc w base sp held n _ _ h0 (fun m hm => hz m (by rw [hw]; simp [hm]))
  obtain ⟨t, e1⟩ := opens_term enc w base sp held n _ _ h1 (fun m hm => hz m (by rw [hw]; simp [hm]))
  replace e1 : List.take 3 (List.drop 1 cs) = encTerm t := e1
  have e2 : cs = cs.take 1 ++ (cs.drop 1).take 3 := by
    rw [List.take_of_length_le (l := cs.drop 1) (by rw [List.length_drop]; omega), List.take_append_drop]
  refine ⟨⟨v, t⟩, ?_⟩
  show cs = encSlot _
  rw [e2, e1]
  simp at e0
  rw [e0]; rfl
theorem size_pattern : Tryz.prog.cellsOf 48 = 12 := by kernel_rfl
theorem cut12 {α : Type} {l : List α} (h : l.length = 12) : l = l.take 4 ++ ((l.drop 4).take 4 ++ (l.drop 8).take 4) := by
  have e : (l.drop 8).take 4 = l.drop 8 := List.take_of_length_le (by rw [List.length_drop]; omega)
  rw [e, show l.drop 8 = (l.drop 4).drop 4 by rw [List.drop_drop], List.take_append_drop, List.take_append_drop]
theorem opens_pattern : Opens Tryz.prog 48 (REnc encPat) := fun enc w base sp held fuel cs x h hz => by
  obtain ⟨xs, n, -, hx, hl, hn, hf⟩ := DataW.trod_struct Tryz.underlying48 h
  rw [size_pattern] at hl
  obtain ⟨y0, y1, y2, rfl⟩ := len3 hn
  have h0 : DataW.trod enc Tryz.prog w base sp held n 46 (List.take (Tryz.prog.cellsOf 46) (List.drop 0 cs)) = some y0 := hf 0 _ rfl
  have h1 : DataW.trod enc Tryz.prog w base sp held n 46 (List.take (Tryz.prog.cellsOf 46) (List.drop 4 cs)) = some y1 := hf 1 _ rfl
  have h2 : DataW.trod enc Tryz.prog w base sp held n 46 (List.take (Tryz.prog.cellsOf 46) (List.drop 8 cs)) = some y2 := hf 2 _ rfl
  rw [size_slot] at h0 h1 h2
  have hw : x.1.weights Tryz.prog 48 = y0.1.weights Tryz.prog 46 ++ (y1.1.weights Tryz.prog 46 ++ (y2.1.weights Tryz.prog 46 ++ [])) := by
    rw [hx]
    show DataW.weights Tryz.prog 48 (.agg _) = _
    rw [DataW.weights, Tryz.underlying48]
    rfl
  obtain ⟨s, e0⟩ := opens_slot enc w base sp held n _ _ h0 (fun m hm => hz m (by rw [hw]; simp [hm]))
  obtain ⟨p, e1⟩ := opens_slot enc w base sp held n _ _ h1 (fun m hm => hz m (by rw [hw]; simp [hm]))
  obtain ⟨o, e2⟩ := opens_slot enc w base sp held n _ _ h2 (fun m hm => hz m (by rw [hw]; simp [hm]))
  replace e0 : List.take 4 cs = encSlot s := e0
  replace e1 : List.take 4 (List.drop 4 cs) = encSlot p := e1
  replace e2 : List.take 4 (List.drop 8 cs) = encSlot o := e2
  refine ⟨⟨s, p, o⟩, ?_⟩
  show cs = encPat _
  rw [cut12 hl, e0, e1, e2]; rfl
theorem opens_patterns : Opens Tryz.prog 24 (fun w cs (xs : List Pat) => (∃ v, cs = [v] ∧ RPats w v xs) ∧ xs.length * Tryz.prog.bytesOf 48 ≤ 140737488351232) := Opens.slice Tryz.underlying24 size_pattern rfl opens_pattern
theorem size_strings : Tryz.prog.cellsOf 23 = 1 := by kernel_rfl
theorem size_patterns : Tryz.prog.cellsOf 24 = 1 := by kernel_rfl
theorem size_query : Tryz.prog.cellsOf 26 = 6 := by kernel_rfl
theorem len6 {α : Type} {l : List α} (h : l.length = 6) : ∃ a b c d e f, l = [a, b, c, d, e, f] := by
  match l, h with
  | [a, b, c, d, e, f], _ => exact ⟨a, b, c, d, e, f, rfl⟩
theorem opens_bool {fuel n : Nat} {H : Type} {enc : TypeId × Value → H} {w : World} {base : Nat} {sp : Nat → Bool} {held : Bool} {cs : List Value} {x : DataW H × List MemPlace} (h : DataW.trod enc Tryz.prog w base sp held n 4 cs = some x) : ∃ b : Bool, cs = [.bool b] := by
  obtain ⟨b, h1, _⟩ := DataW.trod_bool Tryz.underlying4 h
  exact ⟨b, h1⟩
set_option maxRecDepth 100000 in
theorem opens_query : Opens Tryz.prog 26 (fun w cs (q : Query) => RQuery w cs q ∧ q.vars.length * Tryz.prog.bytesOf 9 ≤ 140737488351232 ∧ q.parts.length * Tryz.prog.bytesOf 48 ≤ 140737488351232) := fun enc w base sp held fuel cs x h hz => by
  obtain ⟨xs, n, -, hx, hl, hn, hf⟩ := DataW.trod_struct Tryz.underlying26 h
  rw [size_query] at hl
  obtain ⟨y0, y1, y2, y3, y4, y5, rfl⟩ := len6 hn
  obtain ⟨c0, c1, c2, c3, c4, c5, rfl⟩ := len6 hl
  have h0 : DataW.trod enc Tryz.prog w base sp held n 23 (List.take (Tryz.prog.cellsOf 23) (List.drop 0 [c0, c1, c2, c3, c4, c5])) = some y0 := hf 0 _ rfl
  have h1 : DataW.trod enc Tryz.prog w base sp held n 24 (List.take (Tryz.prog.cellsOf 24) (List.drop 1 [c0, c1, c2, c3, c4, c5])) = some y1 := hf 1 _ rfl
  have h2 : DataW.trod enc Tryz.prog w base sp held n 9 (List.take (Tryz.prog.cellsOf 9) (List.drop 2 [c0, c1, c2, c3, c4, c5])) = some y2 := hf 2 _ rfl
  have h3 : DataW.trod enc Tryz.prog w base sp held n 4 (List.take (Tryz.prog.cellsOf 4) (List.drop 3 [c0, c1, c2, c3, c4, c5])) = some y3 := hf 3 _ rfl
  have h4 : DataW.trod enc Tryz.prog w base sp held n 4 (List.take (Tryz.prog.cellsOf 4) (List.drop 4 [c0, c1, c2, c3, c4, c5])) = some y4 := hf 4 _ rfl
  have h5 : DataW.trod enc Tryz.prog w base sp held n 3 (List.take (Tryz.prog.cellsOf 3) (List.drop 5 [c0, c1, c2, c3, c4, c5])) = some y5 := hf 5 _ rfl
  rw [size_strings] at h0
  rw [size_patterns] at h1
  rw [size_string] at h2
  rw [size_bool] at h3 h4
  rw [size_int] at h5
  have hw : x.1.weights Tryz.prog 26 = y0.1.weights Tryz.prog 23 ++ (y1.1.weights Tryz.prog 24 ++ (y2.1.weights Tryz.prog 9 ++ (y3.1.weights Tryz.prog 4 ++ (y4.1.weights Tryz.prog 4 ++ (y5.1.weights Tryz.prog 3 ++ []))))) := by
    rw [hx]
    show DataW.weights Tryz.prog 26 (.agg _) = _
    rw [DataW.weights, Tryz.underlying26]
    rfl
  obtain ⟨vs, ⟨vv, e0, hv⟩, hvs⟩ := opens_strings enc w base sp held n _ _ h0 (fun m hm => hz m (by rw [hw]; simp [hm]))
  obtain ⟨ps, ⟨pv, e1, hp⟩, hps⟩ := opens_patterns enc w base sp held n _ _ h1 (fun m hm => hz m (by rw [hw]; simp [hm]))
  obtain ⟨o, e2, -⟩ := Opens.str Tryz.underlying9 enc w base sp held n _ _ h2 (fun m hm => hz m (by rw [hw]; simp [hm]))
  obtain ⟨d1, e3⟩ := opens_bool (fuel := 0) h3
  obtain ⟨d2, e4⟩ := opens_bool (fuel := 0) h4
  obtain ⟨k, e5, -⟩ := Opens.int Tryz.underlying3 enc w base sp held n _ _ h5 (fun m hm => hz m (by rw [hw]; simp [hm]))
  refine ⟨⟨vs, ps, o, d1, d2, k⟩, ⟨vv, pv, ?_, hv.split.1, hp⟩, hvs, hps⟩
  simp at e0 e1 e2 e3 e4 e5
  rw [e0, e1, e2, e3, e4, e5]
theorem size_ints : Tryz.prog.cellsOf 27 = 1 := by kernel_rfl
theorem opens_ints : Opens Tryz.prog 27 (fun w cs (xs : List Int) => (∃ v, cs = [v] ∧ RInts w v xs) ∧ xs.length * Tryz.prog.bytesOf 3 ≤ 140737488351232) :=
  Opens.slice Tryz.underlying27 size_int rfl (Opens.mono (Opens.int Tryz.underlying3) id (fun _ _ _ h => h.1))

theorem et : Tryz.prog.globalNamed "errors.errorType" = some 0 := by kernel_rfl
theorem rt : (Tryz.prog.cutTypes.find? (·.1 == "internal/reflectlite.rtype")).map (·.2) = some 307 := by kernel_rfl
theorem oneRow : ((List.range 410).filter fun t => Tryz.prog.rowNamed t [101, 114, 114, 111, 114]) = [32] := by kernel_rfl
theorem typesSize : Tryz.prog.types.size = 410 := by kernel_rfl
/-- What the row's listed variable gives a walk. -/
theorem handle_of_laid {W : World} (h : laidMetH Tryz.prog Rows.planTellsRow.laid W) : ErrType W := by
  have h' : laidMet Tryz.prog [] W ∧ handlesMet Tryz.prog Rows.planTellsRow.laid W := h
  obtain ⟨name, u, ty, e1, e2, e3, e4, e5⟩ := h'.2 _ (List.mem_singleton.2 rfl)
  have en : name = [101, 114, 114, 111, 114] := (Option.some.inj e1).symm
  subst en
  obtain rfl := Option.some.inj (rt.symm.trans e2)
  have hm : ty ∈ (List.range 410).filter fun t => Tryz.prog.rowNamed t [101, 114, 114, 111, 114] := List.mem_filter.2 ⟨List.mem_range.2 (by rw [← typesSize]; exact e3), e4⟩
  rw [oneRow] at hm
  obtain rfl := List.mem_singleton.1 hm
  have hh : typeHandle Tryz.prog 32 = .pointer (some ⟨7, 32, none⟩) := by kernel_rfl
  rw [hh] at e5
  have := World.var?_cell et e5 0
  simpa [ErrType] using this
/-- A world in which the variable holds what the row lists. -/
noncomputable def laidWorld (os : Os) : World :=
  let w0 := World.holding Tryz.prog os ⟨#[], #[], []⟩
  { w0 with heap := w0.heap.modify 0 fun
      | .cells _ t frozen => .cells #[.iface 307 (.agg #[.pointer (some ⟨7, 32, none⟩)])] t frozen
      | o => o }
theorem laidWorld_met (os : Os) (args : Array Value) : laidMetH Tryz.prog Rows.planTellsRow.laid ((laidWorld os).forCall (fun _ _ => 0) ⟨#[], args, []⟩).memory :=
  laidMetH_of_parts (laidMet_nil _ _) (by kernel_rfl)

set_option maxRecDepth 100000 in
theorem contract (H : Type) (enc : TypeId × Value → H) (W : World) (base : Nat) (args : Array Value) (ds gs : List (DataW H)) (before : List MemPlace)
    (hval : ∀ (j : Nat) t v, Tryz.f3.params[j]? = some t → args[j]? = some v → Value.okWide Tryz.prog W .any base t v)
    (hW : DataW.Whole enc Tryz.prog Tryz.f3.params.toList Rows.planTellsSpec.vars false W args.toList ds gs before) (hg : ErrType W) (hz : (DataW.weightsEach Tryz.prog (Tryz.f3.params.toList ++ Rows.planTellsSpec.plain.varTypes Tryz.prog) (ds ++ gs)).all (· ≤ reachBytes) = true) :
    Calls Tryz.prog 3 args W fun e W' => ∃ v, e = .returned v ∧ Rows.planTellsSpec.post enc Tryz.prog Tryz.f3 false true false false W args v W' := by
  have hW' := hW
  obtain ⟨p, q, hA0, hV, rfl, hfz, hnd⟩ := hW
  have hA : DataW.TrodAll enc Tryz.prog W 0 (fun _ => true) true Tryz.f3.params.toList args.toList ds p := hA0
  rw [Tryz.params3] at hA hval hz
  obtain ⟨v0, v1, v2, d0, d1, d2, p0, p1, p2, rfl, rfl, rfl, h0, h1, h2⟩ := trodAll_three hA
  have hV' : DataW.TrodVars enc Tryz.prog W (fun _ => true) [] gs q := hV
  obtain ⟨rfl, rfl⟩ := trodVars_none hV'
  have hwt : ∀ (j : Nat) t d, (_ : List TypeId)[j]? = some t → (_ : List (DataW H))[j]? = some d → ∀ n ∈ d.weights Tryz.prog t, n ≤ reachBytes := fun j t d ht hd n hn => of_decide_eq_true (List.all_eq_true.1 hz n (DataW.weights_mem_each ht hd n hn))
  obtain ⟨x0, r0, s0⟩ := open_sl Tryz.underlying22 opens_triples (hval 0 22 v0 rfl rfl) h0 (hwt 0 _ _ rfl rfl)
  obtain ⟨c1, x1, rfl, r1⟩ := open_st Tryz.underlying26 opens_query (hval 1 26 v1 rfl rfl) h1 (hwt 1 _ _ rfl rfl)
  obtain ⟨x2, r2, s2⟩ := open_sl Tryz.underlying27 opens_ints (hval 2 27 v2 rfl rfl) h2 (hwt 2 _ _ rfl rfl)
  refine Calls.mono (PlanTells_ret W hg r0 r1.1 r2 (by have h := r1.2.2; rwa [show Tryz.prog.bytesOf 48 = 168 from by kernel_rfl] at h) (by have h := r1.2.1; rwa [bytes_string] at h)) fun e W' ⟨v, he, hr, hE⟩ => ?_
  subst hr
  exact ⟨_, he, post_bool laidOut params_read rfl result Tryz.underlying4 hW' rfl hE.below⟩

set_option maxRecDepth 100000 in
theorem lifted (os : Os) (started : os.Started) (H : Type) (enc : TypeId × Value → H) :
    ReturnsInHanded {} Tryz.checked os 3 .any (fun w args => (Rows.planTellsSpec.pre enc Tryz.prog Tryz.f3 [] false w args ∧ laidMetH Tryz.prog Rows.planTellsRow.laid w) ∧ sizedMet enc Tryz.prog Tryz.f3 (OpenSpec.ofChange Rows.planTellsSpec) false w args)
      (Rows.planTellsSpec.post enc Tryz.prog Tryz.f3 false true false false) := by
  refine returnsInHanded_of_change_and (C := Tryz.checked) (X := fun w _ => laidMetH Tryz.prog Rows.planTellsRow.laid w) (fun _ _ _ hh h => h.of_heap hh) own started (by kernel_rfl) Tryz.func3
    (ChangeSpec.witness_at (enc := enc) (C := Tryz.checked) (os := os) (X := fun w _ => laidMetH Tryz.prog Rows.planTellsRow.laid w) false (laidWorld os) #[.slice none 0 0, .agg #[.slice none 0 0, .slice none 0 0, .string .empty, .bool false, .bool false, .int .i64 0], .slice none 0 0] 8 rfl (by kernel_rfl) (by kernel_rfl) (by kernel_rfl) (by kernel_rfl) (by kernel_rfl) (laidWorld_met os _)) ?_
  intro W base args ds gs before hval hW _ hz hL _
  exact contract H enc W base args ds gs before hval hW (handle_of_laid hL) hz
theorem holds : Rows.PlanTellsSaid :=
  OpenClaim.holds_of_wide 3 Tryz.f3 rfl rfl rfl rfl rfl rfl rfl ⟨rfl, rfl, rfl, rfl, rfl⟩ rfl rfl rfl rfl rfl (by kernel_rfl) Tryz.func3 (by kernel_rfl)
    (of_decide_eq_true (by kernel_rfl)) (by unfold Func.isWrapper; first | (rw [if_pos (by decide +kernel)]; kernel_rfl) | (rw [if_neg (by decide +kernel)]; exact ⟨rfl, rfl⟩))
    (fun os started H enc _ => lifted os started H enc)
set_option maxRecDepth 100000 in
theorem proved : Rows.PlanTellsCardSaid :=
  Claim7.holds_tied_plain_at .later [] [.handle] true Rows.planTellsCard.stood.harness true
    holds (fun _ h => by cases h) (by kernel_rfl) (fun _ h => by cases h) planTells_row_tie rfl ⟨rfl, rfl⟩ (by kernel_rfl) rfl
    (fun f fn hf hfn => by
      obtain rfl : f = 3 := Option.some.inj ((show Tryz.prog.funcNamed "strataweb/stratalaw2.PlanTells" = some 3 by kernel_rfl).symm.trans hf) |>.symm
      obtain rfl : fn = Tryz.f3 := (Option.some.inj (Tryz.func3.symm.trans hfn)).symm
      exact ⟨by kernel_rfl, fun j t ht => by
        rw [Tryz.params3] at ht
        have hm : t ∈ ([22, 26, 27] : List TypeId) := by
          have := List.mem_of_getElem? (l := ([22, 26, 27] : List TypeId)) (i := j) (a := t) (by simpa using ht)
          exact this
        have hall : ([22, 26, 27] : List TypeId).all (fun t => !Tryz.prog.wantsStandIn t) = true := by kernel_rfl
        have := List.all_eq_true.1 hall t hm
        have h2 : Tryz.prog.wantsStandIn t = false := by simpa using this
        exact h2⟩)
    (by kernel_rfl)

end Go.Proofs.YtjgcmpondbocfaaGreatDoor.planTells

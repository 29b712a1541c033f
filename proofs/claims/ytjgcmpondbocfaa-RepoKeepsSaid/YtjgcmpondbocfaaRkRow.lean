/- THE LAW RepoKeeps COMES TO true, WHATEVER ITS ARGUMENTS, AND LEAVES WHAT IT READS. Conditions: those of the given row alone (RepoKeepsSaid). -/
import Derived.Test.YtjgcmpondbocfaaProg
import Derived.Test.YtjgcmpondbocfaaRows
import Derived.Test.YtjgcmpondbocfaaOpen
import Derived.Test.YtjgcmpondbocfaaRkeepsW
import Derived.SizedLaws
namespace Go.Proofs.Ytjgcmpondbocfaa.repoKeeps
open Go.RowKit Go.ChangeShapes Go.WideShapes Go.ChangeAt

theorem own : ownKnob Try.prog.godebug = none := by kernel_rfl
theorem laidOut : laidOutB Try.prog = true := by kernel_rfl
theorem params_read : Try.f4.params.toList.all (fun t => Try.prog.readableRec t && Nat.blt t Try.prog.types.size) = true := by kernel_rfl
theorem result : Try.f4.resultTypes = #[4] := by kernel_rfl
theorem size_int : Try.prog.cellsOf 3 = 1 := by kernel_rfl
theorem bytes_int : Try.prog.bytesOf 3 = 8 := by kernel_rfl
theorem size_string : Try.prog.cellsOf 9 = 1 := by kernel_rfl
theorem bytes_string : Try.prog.bytesOf 9 = 16 := by kernel_rfl
theorem size_term : Try.prog.cellsOf 62 = 3 := by kernel_rfl
theorem opens_term : Opens Try.prog 62 (REnc encTerm) := fun enc w base sp held fuel cs x h hz => by
  obtain ⟨xs, n, -, hx, hl, hn, hf⟩ := DataW.trod_struct Try.underlying62 h
  rw [size_term] at hl
  obtain ⟨y0, y1, y2, rfl⟩ := len3 hn
  obtain ⟨c0, c1, c2, rfl⟩ := len3 hl
  have h0 : DataW.trod enc Try.prog w base sp held n 3 (List.take (Try.prog.cellsOf 3) (List.drop 0 [c0, c1, c2])) = some y0 := hf 0 _ rfl
  have h1 : DataW.trod enc Try.prog w base sp held n 9 (List.take (Try.prog.cellsOf 9) (List.drop 1 [c0, c1, c2])) = some y1 := hf 1 _ rfl
  have h2 : DataW.trod enc Try.prog w base sp held n 9 (List.take (Try.prog.cellsOf 9) (List.drop 2 [c0, c1, c2])) = some y2 := hf 2 _ rfl
  rw [size_int] at h0
  rw [size_string] at h1 h2
  have hw : x.1.weights Try.prog 62 = y0.1.weights Try.prog 3 ++ (y1.1.weights Try.prog 9 ++ (y2.1.weights Try.prog 9 ++ [])) := by
    rw [hx]
    show DataW.weights Try.prog 62 (.agg _) = _
    rw [DataW.weights, Try.underlying62]
    rfl
  obtain ⟨k, e0, -⟩ := Opens.int Try.underlying3 enc w base sp held n _ _ h0 (fun m hm => hz m (by rw [hw]; simp [hm]))
  obtain ⟨s, e1, -⟩ := Opens.str Try.underlying9 enc w base sp held n _ _ h1 (fun m hm => hz m (by rw [hw]; simp [hm]))
  obtain ⟨l, e2, -⟩ := Opens.str Try.underlying9 enc w base sp held n _ _ h2 (fun m hm => hz m (by rw [hw]; simp [hm]))
  refine ⟨⟨k, s, l⟩, ?_⟩
  simp at e0 e1 e2
  show _ = encTerm _
  rw [e0, e1, e2]; rfl
theorem size_triple : Try.prog.cellsOf 64 = 9 := by kernel_rfl
theorem cut9 {α : Type} {l : List α} (h : l.length = 9) : l = l.take 3 ++ ((l.drop 3).take 3 ++ (l.drop 6).take 3) := by
  have e : (l.drop 6).take 3 = l.drop 6 := List.take_of_length_le (by rw [List.length_drop]; omega)
  rw [e, show l.drop 6 = (l.drop 3).drop 3 by rw [List.drop_drop], List.take_append_drop, List.take_append_drop]
theorem opens_triple : Opens Try.prog 64 (REnc encTriple) := fun enc w base sp held fuel cs x h hz => by
  obtain ⟨xs, n, -, hx, hl, hn, hf⟩ := DataW.trod_struct Try.underlying64 h
  rw [size_triple] at hl
  obtain ⟨y0, y1, y2, rfl⟩ := len3 hn
  have h0 : DataW.trod enc Try.prog w base sp held n 62 (List.take (Try.prog.cellsOf 62) (List.drop 0 cs)) = some y0 := hf 0 _ rfl
  have h1 : DataW.trod enc Try.prog w base sp held n 62 (List.take (Try.prog.cellsOf 62) (List.drop 3 cs)) = some y1 := hf 1 _ rfl
  have h2 : DataW.trod enc Try.prog w base sp held n 62 (List.take (Try.prog.cellsOf 62) (List.drop 6 cs)) = some y2 := hf 2 _ rfl
  rw [size_term] at h0 h1 h2
  have hw : x.1.weights Try.prog 64 = y0.1.weights Try.prog 62 ++ (y1.1.weights Try.prog 62 ++ (y2.1.weights Try.prog 62 ++ [])) := by
    rw [hx]
    show DataW.weights Try.prog 64 (.agg _) = _
    rw [DataW.weights, Try.underlying64]
    rfl
  obtain ⟨s, e0⟩ := opens_term enc w base sp held n _ _ h0 (fun m hm => hz m (by rw [hw]; simp [hm]))
  obtain ⟨p, e1⟩ := opens_term enc w base sp held n _ _ h1 (fun m hm => hz m (by rw [hw]; simp [hm]))
  obtain ⟨o, e2⟩ := opens_term enc w base sp held n _ _ h2 (fun m hm => hz m (by rw [hw]; simp [hm]))
  replace e0 : List.take 3 cs = encTerm s := e0
  replace e1 : List.take 3 (List.drop 3 cs) = encTerm p := e1
  replace e2 : List.take 3 (List.drop 6 cs) = encTerm o := e2
  refine ⟨⟨s, p, o⟩, ?_⟩
  show cs = encTriple _
  rw [cut9 hl, e0, e1, e2]; rfl
theorem opens_triples : Opens Try.prog 44 (fun w cs (xs : List Triple) => (∃ v, cs = [v] ∧ RTriples w v xs) ∧ xs.length * Try.prog.bytesOf 64 ≤ 140737488351232) := Opens.slice Try.underlying44 size_triple rfl opens_triple
theorem size_triples : Try.prog.cellsOf 44 = 1 := by kernel_rfl
theorem opens_tripless : Opens Try.prog 36 (fun w cs (xs : List (List Triple)) => (∃ v, cs = [v] ∧ RSl RTL 1 w v xs) ∧ xs.length * Try.prog.bytesOf 44 ≤ 140737488351232) :=
  Opens.slice Try.underlying36 size_triples rfl (Opens.mono opens_triples id (fun _ _ _ h => h.1))
theorem opens_strings : Opens Try.prog 37 (fun w cs (xs : List ByteArray) => (∃ v, cs = [v] ∧ RSl (fun _ cs s => cs = encStr s ∧ s.size ≤ 140737488351232) 1 w v xs) ∧ xs.length * Try.prog.bytesOf 9 ≤ 140737488351232) :=
  Opens.slice Try.underlying37 size_string rfl (Opens.str Try.underlying9)

set_option maxRecDepth 100000 in
theorem contract (H : Type) (enc : TypeId × Value → H) (W : World) (base : Nat) (args : Array Value) (ds gs : List (DataW H)) (before : List MemPlace)
    (hval : ∀ (j : Nat) t v, Try.f4.params[j]? = some t → args[j]? = some v → Value.okWide Try.prog W .any base t v)
    (hW : DataW.Whole enc Try.prog Try.f4.params.toList Rows.repoKeepsSpec.vars false W args.toList ds gs before) (hz : (DataW.weightsEach Try.prog (Try.f4.params.toList ++ Rows.repoKeepsSpec.plain.varTypes Try.prog) (ds ++ gs)).all (· ≤ reachBytes) = true) :
    Calls Try.prog 4 args W fun e W' => ∃ v, e = .returned v ∧ Rows.repoKeepsSpec.post enc Try.prog Try.f4 false true false false W args v W' := by
  have hW' := hW
  obtain ⟨p, q, hA0, hV, rfl, hfz, hnd⟩ := hW
  have hA : DataW.TrodAll enc Try.prog W 0 (fun _ => true) true Try.f4.params.toList args.toList ds p := hA0
  rw [Try.params4] at hA hval hz
  obtain ⟨v0, v1, d0, d1, p0, p1, rfl, rfl, rfl, h0, h1⟩ := trodAll_two hA
  have hV' : DataW.TrodVars enc Try.prog W (fun _ => true) [] gs q := hV
  obtain ⟨rfl, rfl⟩ := trodVars_none hV'
  have hwt : ∀ (j : Nat) t d, (_ : List TypeId)[j]? = some t → (_ : List (DataW H))[j]? = some d → ∀ n ∈ d.weights Try.prog t, n ≤ reachBytes := fun j t d ht hd n hn => of_decide_eq_true (List.all_eq_true.1 hz n (DataW.weights_mem_each ht hd n hn))
  obtain ⟨x0, r0, s0⟩ := open_sl Try.underlying36 opens_tripless (hval 0 36 v0 rfl rfl) h0 (hwt 0 _ _ rfl rfl)
  obtain ⟨x1, r1, s1⟩ := open_sl Try.underlying37 opens_strings (hval 1 37 v1 rfl rfl) h1 (hwt 1 _ _ rfl rfl)
  have q1 := r1.split.2
  replace r1 := r1.split.1
  refine Calls.mono (RepoKeeps_ret W r0 r1) fun e W' ⟨v, he, hr, hE⟩ => ?_
  subst hr
  exact ⟨_, he, post_bool laidOut params_read rfl result Try.underlying4 hW' rfl hE.below⟩

set_option maxRecDepth 100000 in
theorem lifted (os : Os) (started : os.Started) (H : Type) (enc : TypeId × Value → H) :
    ReturnsInHanded {} Try.checked os 4 .any (Rows.repoKeepsSpec.pre6 enc Try.prog Try.f4 Rows.repoKeepsRow.domain false) (Rows.repoKeepsSpec.post enc Try.prog Try.f4 false true false false) := by
  refine returnsInHanded_of_change_sized (C := Try.checked) own started (by kernel_rfl) Try.func4
    (ChangeSpec.witness6 (enc := enc) (C := Try.checked) false ⟨#[], #[.slice none 0 0, .slice none 0 0], []⟩ 8 (by kernel_rfl) (by kernel_rfl) (by kernel_rfl) (by kernel_rfl)) ?_
  intro W base args ds gs before hval hW _ hz _
  exact contract H enc W base args ds gs before hval hW hz
theorem proved : Rows.RepoKeepsSaid :=
  OpenClaim.holds_of_wide (p := Try.pinned) (s := Rows.repoKeepsSpec) (c := Rows.repoKeepsRow) 4 Try.f4 rfl rfl rfl rfl rfl rfl rfl ⟨rfl, rfl, rfl, rfl, rfl⟩ rfl rfl rfl rfl rfl (by kernel_rfl) Try.func4 (by kernel_rfl)
    (of_decide_eq_true (by kernel_rfl)) (by unfold Func.isWrapper; first | (rw [if_pos (by decide +kernel)]; kernel_rfl) | (rw [if_neg (by decide +kernel)]; exact ⟨rfl, rfl⟩))
    (fun os started H enc _ => lifted os started H enc)

end Go.Proofs.Ytjgcmpondbocfaa.repoKeeps

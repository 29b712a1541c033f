/- How a claim's reading of an argument gives the walk's reading; and the end that all laws share that come to one bool and leave what they read. No condition. -/
import Derived.Test.YtjgcmpondbocfaaGreatDoorData
import Derived.WalkKit
import Derived.ProofKit
import Derived.OpenShut
import Derived.JoinedCond
import Derived.Carry
import Derived.ChangeSame
namespace Go.Proofs.YtjgcmpondbocfaaGreatDoor
open Go.RowKit Go.WideShapes Go.ChangeShapes

/-- Whatever cells a claim's reading takes at this type: they are some 'a', so says R. -/
def Opens (P : Program) (t : TypeId) {α : Type} (R : World → List Value → α → Prop) : Prop :=
  ∀ {H : Type} (enc : TypeId × Value → H) (w : World) (base : Nat) (sp : Nat → Bool) (held : Bool) (fuel : Nat) (cs : List Value) (x : DataW H × List MemPlace), DataW.trod enc P w base sp held fuel t cs = some x → (∀ n ∈ x.1.weights P t, n ≤ reachBytes) → ∃ a, R w cs a

theorem RSl.split {α : Type} {enc : α → List Value} {p : α → Prop} {size : Nat} {w : World} {v : Value} {xs : List α} (h : RSl (fun _ cs x => cs = enc x ∧ p x) size w v xs) : RSl (REnc enc) size w v xs ∧ ∀ x ∈ xs, p x := by
  obtain ⟨A, c, hv, h1, h2, h3⟩ := h
  refine ⟨⟨A, c, hv, h1, h2, fun hn => ?_⟩, fun x hx => ?_⟩
  · obtain ⟨b, o, hA, hc⟩ := h3 hn
    exact ⟨b, o, hA, fun k x hx => by obtain ⟨cs, g1, g2, g3, _⟩ := hc k x hx; exact ⟨cs, g1, g2, g3⟩⟩
  · obtain ⟨b, o, hA, hc⟩ := h3 (List.length_pos_of_mem hx)
    obtain ⟨k, hk, rfl⟩ := List.getElem_of_mem hx
    obtain ⟨cs, _, _, _, g⟩ := hc k _ (List.getElem?_eq_getElem hk)
    exact g
section
variable {P : Program}
theorem Opens.mono {t : TypeId} {α β : Type} {R : World → List Value → α → Prop} {R' : World → List Value → β → Prop} (h : Opens P t R) (f : α → β) (hf : ∀ w cs a, R w cs a → R' w cs (f a)) : Opens P t R' := fun enc w base sp held fuel cs x hx hz => by
  obtain ⟨a, ha⟩ := h enc w base sp held fuel cs x hx hz
  exact ⟨f a, hf _ _ _ ha⟩
theorem Opens.int {t : TypeId} {k : IntKind} (ht : P.underlying t = some (.int k)) : Opens P t (fun _ cs n => cs = [.int k n] ∧ (Lit.int k n).wf = true) := fun _ _ _ _ _ _ _ _ h _ => by
  obtain ⟨n, h1, _, h2⟩ := DataW.trod_int ht h
  exact ⟨n, h1, h2⟩
theorem Opens.str {t : TypeId} (ht : P.underlying t = some .string) : Opens P t (fun _ cs (s : ByteArray) => cs = [.string s] ∧ s.size ≤ 140737488351232) := fun _ _ _ _ _ _ _ x h hz => by
  obtain ⟨s, h1, hx, h2⟩ := DataW.trod_string ht h
  refine ⟨s, h1, ?_⟩
  have := hz s.data.toList.length (by rw [hx]; simp [DataW.weights])
  have e : s.data.toList.length = s.size := by rw [Array.length_toList]; rfl
  rw [e] at this
  simpa [reachBytes] using this
/-- A slice: each of its elements is some 'a'. -/
theorem weights_all {H : Type} {P : Program} {e : TypeId} : ∀ {ds : List (DataW H)} {d : DataW H}, d ∈ ds → ∀ n ∈ d.weights P e, n ∈ DataW.weightsAll P e ds
  | x :: r, d, hd, n, hn => by
    rw [DataW.weightsAll]
    rcases List.mem_cons.1 hd with rfl | hd
    · exact List.mem_append_left _ hn
    · exact List.mem_append_right _ (weights_all hd n hn)
theorem Opens.slice {t e : TypeId} {α : Type} {R : World → List Value → α → Prop} {size : Nat} (ht : P.underlying t = some (.slice e)) (hc : P.cellsOf e = size) (h0 : Nat.blt 0 size = true) (hO : Opens P e R) :
    Opens P t (fun w cs (xs : List α) => (∃ v, cs = [v] ∧ RSl R size w v xs) ∧ xs.length * P.bytesOf e ≤ 140737488351232) := fun {H} enc w base sp held fuel cs x h hz => by
  have h0' : 0 + 1 ≤ size := by simpa [Nat.blt] using h0
  rcases DataW.trod_slice ht h with ⟨rfl, _⟩ | ⟨a, len, cap, elems, rest, n, _, rfl, hxx, hb, hl, hm, hlen, hel, _, _⟩
  · exact ⟨[], ⟨_, rfl, RSl.nil _ _ _⟩, by simp⟩
  · rw [hc] at hel
    have hw : x.1.weights P t = ((elems.map (·.1)).length + (rest.map (·.1)).length) * P.bytesOf e :: (DataW.weightsAll P e (elems.map (·.1)) ++ DataW.weightsAll P e (rest.map (·.1))) := by
      rw [hxx]
      show DataW.weights P t (.slice _ _) = _
      rw [DataW.weights, ht]
    have hlenz : len * P.bytesOf e ≤ 140737488351232 := by
      have h1 := hz _ (by rw [hw]; exact List.mem_cons_self)
      have h2 : len * P.bytesOf e ≤ ((elems.map (·.1)).length + (rest.map (·.1)).length) * P.bytesOf e := Nat.mul_le_mul_right _ (by simp [hlen])
      have h3 : reachBytes = 140737488351232 := rfl
      omega
    have each : ∀ i, i < len → ∃ cs' y, w.cells? base (a.add (i * size)) size = some cs' ∧ R w cs' y := by
      intro i hi
      have := hel i hi
      rw [List.getElem?_eq_getElem (by omega), Option.bind_eq_some_iff] at this
      obtain ⟨cs', h1, h2⟩ := this
      obtain ⟨y, hy⟩ := hO enc w base sp held n cs' _ h2 (fun m hm => hz m (by rw [hw]; exact List.mem_cons_of_mem _ (List.mem_append_left _ (weights_all (List.mem_map.2 ⟨_, List.getElem_mem _, rfl⟩) m hm))))
      exact ⟨cs', y, h1, hy⟩
    have hex : ∀ k, k ≤ len → ∃ xs : List α, xs.length = k ∧ ∀ (i : Nat) y, xs[i]? = some y → ∃ cs', w.cells? base (a.add (i * size)) size = some cs' ∧ R w cs' y := by
      intro k
      induction k with
      | zero => intro _; exact ⟨[], rfl, fun i y h => by simp at h⟩
      | succ k ih =>
        intro hk
        obtain ⟨xs, h1, h2⟩ := ih (by omega)
        obtain ⟨cs', y, h3, h4⟩ := each k (by omega)
        refine ⟨xs ++ [y], by simp [h1], fun i z hz => ?_⟩
        rcases Nat.lt_or_ge i xs.length with hi | hi
        · rw [List.getElem?_append_left hi] at hz
          exact h2 i z hz
        · have hi' := (List.getElem?_eq_some_iff.1 hz).1
          rw [List.length_append, List.length_singleton] at hi'
          obtain rfl : i = k := by omega
          rw [List.getElem?_append_right hi, h1, Nat.sub_self] at hz
          have : y = z := by simpa using hz
          subst this
          exact ⟨cs', h3, h4⟩
    obtain ⟨xs, hxl, hx⟩ := hex len (Nat.le_refl _)
    subst hxl
    refine ⟨xs, ⟨_, rfl, some a, cap, rfl, hl, by simpa [maxLen] using hm, fun hn => ?_⟩, hlenz⟩
    obtain ⟨b, o, s⟩ := a
    obtain ⟨cs0, y0, h1, _⟩ := each 0 hn
    have hs0 := (World.cells?_some h1).2.2 0 (by omega)
    have hs : s = none := by
      rw [Nat.zero_mul] at hs0
      have e : ((⟨b, o, s⟩ : Addr).add 0).add 0 = ⟨b, o, s⟩ := by simp [Addr.add]
      rw [e, List.getElem?_eq_getElem (by rw [(World.cells?_some h1).2.1]; omega)] at hs0
      exact World.cell?_spot hs0
    subst hs
    refine ⟨b, o, rfl, fun k y hy => ?_⟩
    obtain ⟨cs', h3, h4⟩ := hx k y hy
    obtain ⟨_, h5, h6⟩ := World.cells?_some h3
    refine ⟨cs', h5, fun i u hu => ?_, h4⟩
    have := h6 i (by rw [← h5]; exact (List.getElem?_eq_some_iff.1 hu).1)
    rw [hu, add_lit, add_lit] at this
    exact this
/-- The value of one cell that an argument is. -/
theorem whole_of {v u : Value} (h : v.cells.toList = [u]) (ha : ∀ cs, v ≠ .agg cs) : v = u := by
  cases v <;> first | (exact absurd rfl (ha _)) | (simp [Value.cells] at h; exact h)
theorem noAgg_slice {w : World} {r : Reach} {b0 : Nat} {t e : TypeId} {v : Value} (ht : P.underlying t = some (.slice e)) (h : Value.okWide P w r b0 t v) : ∀ cs, v ≠ .agg cs := by
  rintro cs rfl
  simp [Value.okWide, ht, Cell.okWide, Cell.ok] at h
/-- A slice among the arguments. -/
theorem open_sl {H : Type} {enc : TypeId × Value → H} {w : World} {r : Reach} {b0 base : Nat} {sp : Nat → Bool} {held : Bool} {t e : TypeId} {α : Type} {R : World → List Value → α → Prop} {size : Nat} {v : Value} {d : DataW H} {ps : List MemPlace}
    (ht : P.underlying t = some (.slice e)) (hO : Opens P t (fun w cs (xs : List α) => (∃ v, cs = [v] ∧ RSl R size w v xs) ∧ xs.length * P.bytesOf e ≤ 140737488351232)) (hval : Value.okWide P w r b0 t v) (hd : DataW.Trod enc P w base sp held t v d ps) (hz : ∀ n ∈ d.weights P t, n ≤ reachBytes) : ∃ xs, RSl R size w v xs ∧ xs.length * P.bytesOf e ≤ 140737488351232 := by
  obtain ⟨fuel, hf⟩ := hd
  obtain ⟨xs, ⟨u, h1, h2⟩, h3⟩ := hO enc w base sp held fuel _ _ hf hz
  rw [whole_of h1 (noAgg_slice ht hval)]
  exact ⟨xs, h2, h3⟩

/-- A struct among the arguments. -/
theorem open_st {H : Type} {enc : TypeId × Value → H} {w : World} {r : Reach} {b0 base : Nat} {sp : Nat → Bool} {held : Bool} {t : TypeId} {fs : Array Field} {α : Type} {R : World → List Value → α → Prop} {v : Value} {d : DataW H} {ps : List MemPlace}
    (ht : P.underlying t = some (.struct fs)) (hO : Opens P t R) (hval : Value.okWide P w r b0 t v) (hd : DataW.Trod enc P w base sp held t v d ps) (hz : ∀ n ∈ d.weights P t, n ≤ reachBytes) : ∃ cs a, v = .agg cs ∧ R w cs.toList a := by
  obtain ⟨cs, rfl, _⟩ := okWide_struct ht hval
  obtain ⟨fuel, hf⟩ := hd
  obtain ⟨a, ha⟩ := hO enc w base sp held fuel _ _ hf hz
  exact ⟨cs, a, rfl, ha⟩
theorem len2 {α : Type} {l : List α} (h : l.length = 2) : ∃ a b, l = [a, b] := by
  match l, h with
  | [a, b], _ => exact ⟨a, b, rfl⟩
theorem len3 {α : Type} {l : List α} (h : l.length = 3) : ∃ a b c, l = [a, b, c] := by
  match l, h with
  | [a, b, c], _ => exact ⟨a, b, c, rfl⟩
/-! ### the end -/
theorem trodAll_stays {H : Type} {enc : TypeId × Value → H} (hl : laidOutB P = true) {W W' : World} {sp' : Nat → Bool} : ∀ {ts : List TypeId} {vs : List Value} {ds : List (DataW H)} {ps : List MemPlace}, ts.all (fun t => P.readableRec t && Nat.blt t P.types.size) = true →
    DataW.TrodAll enc P W 0 (fun _ => true) true ts vs ds ps → (∀ p ∈ ps, W.sameAt W' p) → (∀ p ∈ ps, sp' p.block = true) → DataW.TrodAll enc P W' 0 sp' true ts vs ds ps
  | [], vs, ds, ps, _, h, _, _ => by
    obtain ⟨rfl, rfl, rfl⟩ := trodAll_nil h
    exact trodAll_mk0
  | t :: ts, vs, ds, ps, hr, h, h1, h2 => by
    obtain ⟨v, vs', d, ds', p, q, rfl, rfl, rfl, h3, h4⟩ := trodAll_cons h
    rw [List.all_cons, Bool.and_eq_true, Bool.and_eq_true] at hr
    have hlt : t + 1 ≤ P.types.size := by simpa [Nat.blt] using hr.1.2
    exact ⟨p, q, WideElems.Trod_stays hl hr.1.1 hlt h3 (fun x hx => h1 x (by simp [hx])) (fun x hx => h2 x (by simp [hx])), trodAll_stays hl hr.2 h4 (fun x hx => h1 x (by simp [hx])) (fun x hx => h2 x (by simp [hx])), rfl⟩

/-- ONE BOOL; THE ARGUMENTS READ AS THEY DID; no package variable is read. -/
theorem post_bool {H : Type} {enc : TypeId × Value → H} {f : Func} {s : ChangeSpec} {W W' : World} {args : Array Value} {b : Bool} {ds gs : List (DataW H)} {before : List MemPlace} {bt : TypeId}
    (hl : laidOutB P = true) (hr : f.params.toList.all (fun t => P.readableRec t && Nat.blt t P.types.size) = true) (hv : s.vars = []) (hrt : f.resultTypes = #[bt]) (hbt : P.underlying bt = some .bool)
    (hW : DataW.Whole enc P f.params.toList s.vars false W args.toList ds gs before) (hs : s.fn H (ds ++ gs) = { results := [.lit (.bool b)], args := ds }) (hb : Below W.heap.size W W') :
    s.post enc P f false true false false W args (.bool b) W' := by
  have hlt : ∀ p ∈ before, p.block < W.heap.size := fun p hp => hW.lt p hp
  have hold : ∀ p ∈ before, (fun b => decide (b < W.heap.size)) p.block = true := fun p hp => by simpa using hlt p hp
  have hW0 := hW
  obtain ⟨p, q, hA, hV, rfl, hz, hn⟩ := hW
  rw [hv] at hV
  obtain ⟨rfl, rfl⟩ := trodVars_none hV
  simp only [List.append_nil] at hlt hold hz hs hn hW0 ⊢
  have hsame : ∀ x ∈ p, W.sameAt W' x := fun x hx => hb.same (hlt x hx)
  have hargs : ∀ sp : Nat → Bool, (∀ x ∈ p, sp x.block = true) → DataW.TrodAll enc P W' 0 sp true f.params.toList args.toList ds p := fun sp hsp => trodAll_stays hl hr hA hsame hsp
  have hres : ∀ (b' : Nat) (sp : Nat → Bool) (hd : Bool), DataW.TrodAll enc P W' b' sp hd f.resultTypes.toList ((Value.bool b).resultList f.resultTypes.size) [.lit (.bool b)] [] := fun b' sp hd => by
    rw [hrt]
    exact trodAll_mk1 (shut_bool hbt b)
  have hvars : ∀ sp : Nat → Bool, DataW.TrodVars enc P W' sp s.vars [] [] := fun sp => by rw [hv]; rfl
  refine ⟨ds, [], p, [], p, [], hW0, ?_, ?_, ?_, World.keptBut_mono (fun x hx => ⟨hx, Or.inr (by simpa using hx)⟩) (hb.frame (· ∈ p)), fun _ => ?_⟩
  · simp only [List.append_nil, hs]; exact hres _ _ _
  · simp only [List.append_nil, hs]; exact hargs _ hold
  · simp only [List.append_nil, hs]; exact hvars _
  · refine ⟨ok_one hrt rfl (okWide_bool_mk hbt _), .lit (.bool b) :: ds, [], p, ⟨p, [], ?_, ?_, by simp, ?_, fun h => by cases h⟩, ?_⟩
    · have := trodAll_append (hargs (fun _ => true) (fun _ _ => rfl)) (hres 0 (fun _ => true) true)
      simpa using this
    · exact hvars _
    · intro b' off hp
      rw [hb.frozen (hlt _ hp)]
      exact hz b' off hp
    · intro x hx _
      simpa using hx
end
end Go.Proofs.YtjgcmpondbocfaaGreatDoor

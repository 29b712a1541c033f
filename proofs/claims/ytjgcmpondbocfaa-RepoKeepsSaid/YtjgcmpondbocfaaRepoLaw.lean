/- What a repo keeps, in plain Lean. No condition. -/
import Derived.Test.YtjgcmpondbocfaaRepoM
namespace Go.Proofs.Ytjgcmpondbocfaa
variable {code : List Triple → List Triple → ByteArray}
theorem get_app {α : Type} {xs ys : List α} {k : Nat} {x : α} (h : xs[k]? = some x) : (xs ++ ys)[k]? = some x := by
  rw [List.getElem?_append_left (lt_of_get h)]; exact h
theorem addR_cases (r : Repo) (hs : r.cs.length = r.gs.length) (ps : List Int) (ts : List Triple) (m : ByteArray) :
    (∃ k : Nat, addR code r ps ts m = ((k : Int), none, r) ∧ r.gs[k]? = some ts ∧ k < r.cs.length) ∨ (∃ e, addR code r ps ts m = (0, some e, r)) ∨
    (r.cs.length < 60 ∧ ∃ cb, (putS r.st cb).2.1 = none ∧ addR code r ps ts m = ((r.cs.length : Int), none, { r with st := (putS r.st cb).2.2, cs := r.cs ++ [⟨ps, (putS r.st cb).1, m⟩], gs := r.gs ++ [ts] })) := by
  unfold addR
  split
  · rename_i h
    rcases idxOf_cases (likeP ps ts m) (r.cs.zip r.gs) with ⟨h1, _⟩ | ⟨k, x, h1, hx, hp, _⟩
    · omega
    · refine .inl ⟨k, by rw [h1], ?_, ?_⟩
      · obtain ⟨y, z⟩ := x
        rw [List.getElem?_zip_eq_some] at hx
        simp only [likeP, Bool.and_eq_true, decide_eq_true_eq] at hp
        rw [hx.2, hp.2.2]
      · have := lt_of_get hx
        rw [List.length_zip] at this; omega
  · split
    · exact .inr (.inl ⟨4, rfl⟩)
    · split
      · rename_i h
        obtain ⟨e, he⟩ := Option.isSome_iff_exists.1 h
        exact .inr (.inl ⟨e, by rw [he]⟩)
      · rename_i h1 h2
        exact .inr (.inr ⟨by omega, _, by simpa using h2, rfl⟩)
/-- One more commit that is right. -/
theorem Repo.Ok.more {r : Repo} (h : r.Ok) {ps : List Int} {ts : List Triple} {m cb : ByteArray} (h60 : r.cs.length < 60) (hts : IsSet ts) (hm : msgErr m = none) (hp : ps.length ≤ 2) (hb : ∀ p ∈ ps, 0 ≤ p ∧ p < (r.cs.length : Int)) (hd : ¬ ((ps.length : Int) = 2 ∧ ps.getD 0 0 = ps.getD 1 0))
    (he : (putS r.st cb).2.1 = none) : Repo.Ok { r with st := (putS r.st cb).2.2, cs := r.cs ++ [⟨ps, (putS r.st cb).1, m⟩], gs := r.gs ++ [ts] } := by
  have hl := h.last
  have hn := putS_none h.st he
  have h2 := putS_last r.st cb
  exact { st := putS_ok h.st (by omega) cb
          last := by simp only [List.length_append, List.length_singleton]; omega
          same := by simp only [List.length_append, List.length_singleton]; have := h.same; omega
          few := by simp only [List.length_append, List.length_singleton]; omega
          sets := fun g hg => by
            rcases List.mem_append.1 hg with hg | hg
            · exact h.sets g hg
            · rw [List.mem_singleton] at hg; subst hg; exact hts
          coms := fun k c hc => by
            rcases get_snoc hc with ⟨hc, _⟩ | ⟨rfl, rfl⟩
            · exact h.coms k c hc
            · refine ceN (by dsimp only; omega) (by dsimp only; rw [hm]; simp) ?_ hd (by dsimp only; rw [hm]; rfl) (by dsimp only; omega) (by dsimp only; omega)
              rw [List.any_eq_false]
              intro p hp
              have := hb p hp
              simp [badParent]; omega
          keys := h.keys
          heads := fun b n hg => by
            have := h.heads b n hg
            simp only [List.length_append, List.length_singleton]; omega
          most := h.most }
/-- What was there stays. -/
structure Keeps (r r' : Repo) : Prop where
  gs : ∀ (k : Nat) g, r.gs[k]? = some g → r'.gs[k]? = some g
  lo : r.cs.length ≤ r'.cs.length
  hi : r'.cs.length ≤ r.cs.length + 1
theorem Repo.Ok.setHead {r : Repo} (h : r.Ok) {b : ByteArray} {n : Int} (hn : 0 ≤ n ∧ n < (r.cs.length : Int)) (hf : fullB r b = false) : Repo.Ok { r with heads := putM r.heads b n } :=
  { st := h.st, last := h.last, same := h.same, few := h.few, sets := h.sets, coms := h.coms, keys := h.keys.put b n
    heads := fun c x hx => by
      rw [getM_put] at hx
      split at hx
      · injection hx with hx; subst hx; exact hn
      · exact h.heads c x hx
    most := by
      have hm := h.most
      show (putM r.heads b n).length ≤ 8
      rw [putM_length]
      split
      · exact hm
      · rename_i hg
        simp only [fullB, Bool.and_eq_false_iff, Bool.not_eq_false', decide_eq_false_iff_not] at hf
        rcases hf with hf | hf
        · exact absurd hf hg
        · omega }
theorem word_none {b : ByteArray} (h : ¬ (wordErr b).isSome = true) : wordB b = true := by
  cases hb : wordB b with
  | true => rfl
  | false => simp [wordErr, hb] at h
theorem comR_cases {r : Repo} (hok : r.Ok) (b : ByteArray) (ts : List Triple) (m : ByteArray) :
    (∃ e, comR code r b ts m = (0, some e, r)) ∨ ∃ (n : Nat) (r' : Repo), comR code r b ts m = ((n : Int), none, r') ∧ r'.Ok ∧ r'.gs[n]? = some ts ∧ n < r'.cs.length ∧ headR r' b = ((n : Int), none) ∧ Keeps r r' := by
  unfold comR
  split
  · rename_i h
    obtain ⟨e, he⟩ := Option.isSome_iff_exists.1 h
    exact .inl ⟨e, by rw [he]⟩
  · rename_i hw
    split
    · rename_i h
      obtain ⟨e, he⟩ := Option.isSome_iff_exists.1 h
      exact .inl ⟨e, by rw [he]⟩
    · rename_i hc
      split
      · exact .inl ⟨4, rfl⟩
      · rename_i hf
        have hf' : fullB r b = false := by simpa using hf
        have hset : setErr ts = none ∧ msgErr m = none := by
          have h0 : chkErr ts m = none := by simpa using hc
          unfold chkErr at h0
          split at h0
          · cases h0
          · exact ⟨by assumption, h0⟩
        have hp : (parR r b).length ≤ 1 ∧ ∀ p ∈ parR r b, 0 ≤ p ∧ p < (r.cs.length : Int) := by
          unfold parR
          cases hg : getM r.heads b with
          | none => simp
          | some n => have := hok.heads b n hg; simp; exact this
        have hd : ∀ (r' : Repo) (n : Nat), headR { r' with heads := putM r'.heads b (n : Int) } b = ((n : Int), none) := fun r' n => by
          have e : getM (putM r'.heads b (n : Int)) b = some (n : Int) := by rw [getM_put, if_pos rfl]
          simp only [headR, word_none hw, if_true, e]
          rfl
        rcases addR_cases (code := code) r hok.same (parR r b) ts m with ⟨k, he, hg, hk⟩ | ⟨e, he⟩ | ⟨h60, cb, hput, he⟩
        · refine .inr ⟨k, _, by rw [he]; rfl, hok.setHead ⟨by omega, by omega⟩ hf', hg, hk, hd r k, ⟨fun k g h => h, Nat.le_refl _, Nat.le_succ _⟩⟩
        · exact .inl ⟨e, by rw [he]; rfl⟩
        · have hmore := hok.more h60 (setErr_iff.1 hset.1) hset.2 (by have := hp.1; omega) hp.2 (by have := hp.1; omega) hput
          refine .inr ⟨r.cs.length, _, by rw [he]; rfl, hmore.setHead ⟨by omega, by simp only [List.length_append, List.length_singleton]; omega⟩ (by simpa [fullB] using hf'), ?_, by simp, hd _ r.cs.length, ⟨fun k g h => get_app h, by simp, by simp⟩⟩
          show (r.gs ++ [ts])[r.cs.length]? = some ts
          rw [hok.same, List.getElem?_append_right (Nat.le_refl _), Nat.sub_self]; rfl
theorem Repo.Ok.empty : Repo.empty.Ok :=
  { st := Sto.Ok.empty, last := by simp [Repo.empty, Sto.empty], same := rfl, few := by simp [Repo.empty], sets := fun g hg => by simp [Repo.empty] at hg, coms := fun k c hc => by simp [Repo.empty] at hc, keys := List.nodup_nil
    heads := fun b n hg => by simp [Repo.empty, getM_nil] at hg, most := by simp [Repo.empty] }
theorem firstErr_allOk : ∀ {ls : List Commit} {i : Nat}, (∀ (k : Nat) c, ls[k]? = some c → commitErr c ((i + k : Nat) : Int) = none) → firstErr ls i = (0, none)
  | [], _, _ => rfl
  | c :: r, i, h => by
    have h0 := h 0 c rfl
    rw [Nat.add_zero] at h0
    rw [firstErr, h0, if_neg (by simp)]
    exact firstErr_allOk fun k x hx => by
      have := h (k + 1) x hx
      rwa [show i + (k + 1) = i + 1 + k by omega] at this
theorem Repo.Ok.check {r : Repo} (h : r.Ok) : checkErr r.cs = (0, none) := by
  have := h.few
  rw [checkErr, if_neg (by omega)]
  exact firstErr_allOk fun k c hc => by rw [Nat.zero_add]; exact h.coms k c hc
theorem Repo.Ok.par {r : Repo} (h : r.Ok) : ∀ c ∈ r.cs, c.parents.length ≤ 1000000 := fun c hc => by
  obtain ⟨k, hk⟩ := List.mem_iff_getElem?.1 hc
  have := h.coms k c hk
  unfold commitErr at this
  split at this
  · cases this
  · rename_i hn; omega
end Go.Proofs.Ytjgcmpondbocfaa

/- A store as Lean's data: the numbers in the order in which they were given, beside the texts. In plain Lean, and how it lies in memory. No condition. -/
import Derived.Test.YtjgcmpondbocfaaIter
namespace Go.Proofs.Ytjgcmpondbocfaa
open Go.RowKit

/-- last number given; bytes held; text to number; number to text -/
structure Sto where
  last : Int
  bytes : Int
  ids : List (ByteArray × Int)
  all : List (Int × ByteArray)
abbrev encS : ByteArray → Value := fun s => Value.string s
abbrev encN : Int → Value := fun n => Value.int .i64 n
/-- A store in memory: its struct's block, its two maps. -/
structure StoB (t : TypeId) (w : World) (g bi ba : Nat) (s : Sto) : Prop where
  blk : Blk w g t [.int .i64 s.last, .int .i64 s.bytes, .map (some bi), .map (some ba)]
  ids : MapB encS encN w bi s.ids
  all : MapB encN encS w ba s.all
  one : g ≠ bi
  two : g ≠ ba
  three : bi ≠ ba
theorem StoB.chg {S : Nat → Prop} {t : TypeId} {w w' : World} {g bi ba : Nat} {s : Sto} (h : StoB t w g bi ba s) (c : Chg S w w') (h1 : ¬ S g) (h2 : ¬ S bi) (h3 : ¬ S ba) : StoB t w' g bi ba s :=
  ⟨h.blk.chg c h1, h.ids.chg c h2, h.all.chg c h3, h.one, h.two, h.three⟩
theorem StoB.ext {t : TypeId} {w w' : World} {g bi ba : Nat} {s : Sto} (h : StoB t w g bi ba s) (c : Ext w w') : StoB t w' g bi ba s := h.chg c (fun x => x) (fun x => x) (fun x => x)
def Sto.empty : Sto := ⟨0, 0, [], []⟩
def sumL (ms : List (Int × ByteArray)) : Int := (ms.map fun p => (p.2.size : Int)).sum
theorem sumL_nonneg (ms : List (Int × ByteArray)) : 0 ≤ sumL ms := by
  unfold sumL
  induction ms with
  | nil => simp
  | cons p ms ih => rw [List.map_cons, List.sum_cons]; omega
theorem sumL_append (a b : List (Int × ByteArray)) : sumL (a ++ b) = sumL a + sumL b := by unfold sumL; rw [List.map_append, List.sum_append]
theorem sumL_del {ms : List (Int × ByteArray)} (hn : KeysM ms) {n : Int} {t : ByteArray} (h : getM ms n = some t) : sumL (delM ms n) = sumL ms - (t.size : Int) := by
  induction ms with
  | nil => simp [getM_nil] at h
  | cons p ms ih =>
    unfold KeysM at hn
    rw [List.map_cons, List.nodup_cons] at hn
    rw [getM_cons] at h
    by_cases e : p.1 = n
    · rw [if_pos e] at h
      injection h with h
      have hno : getM ms n = none := getM_none.2 fun q hq hc => hn.1 (List.mem_map.2 ⟨q, hq, by rw [hc, e]⟩)
      have hd : delM (p :: ms) n = ms := by
        show (p :: ms).filter _ = ms
        rw [List.filter_cons]
        simp only [e, decide_true, Bool.not_true, Bool.false_eq_true, if_false]
        exact delM_none hno
      rw [hd]
      unfold sumL
      rw [List.map_cons, List.sum_cons, h]
      omega
    · rw [if_neg e] at h
      have hd : delM (p :: ms) n = p :: delM ms n := by
        show (p :: ms).filter _ = _
        rw [List.filter_cons]
        simp only [e, decide_false, Bool.not_false, if_true]
        rfl
      rw [hd]
      have := ih hn.2 h
      unfold sumL at this ⊢
      rw [List.map_cons, List.sum_cons, List.map_cons, List.sum_cons, this]
      omega
theorem size_le_sum {ms : List (Int × ByteArray)} {n : Int} {t : ByteArray} (h : (n, t) ∈ ms) : (t.size : Int) ≤ sumL ms := by
  induction ms with
  | nil => simp at h
  | cons p ms ih =>
    have := sumL_nonneg ms
    unfold sumL at *
    rw [List.map_cons, List.sum_cons]
    rcases List.mem_cons.1 h with rfl | h
    · dsimp only; omega
    · have := ih h; omega
/-- Its numbers and its bounds agree. -/
structure Sto.Ok (s : Sto) : Prop where
  last : 0 ≤ s.last ∧ s.last ≤ 1000000
  sum : s.bytes = sumL s.all
  most : s.bytes ≤ 60000
  few : s.all.length ≤ 300
  idsKeys : KeysM s.ids
  allKeys : KeysM s.all
  there : ∀ b n, getM s.ids b = some n ↔ getM s.all n = some b
  nums : ∀ n b, getM s.all n = some b → 1 ≤ n ∧ n ≤ s.last
/-- whether a fresh text has room -/
def roomN (s : Sto) (b : ByteArray) : Int := if (getM s.ids b).getD 0 = 0 then (s.all.length : Int) + 1 else (s.all.length : Int)
def roomL (s : Sto) (b : ByteArray) : Int := if (getM s.ids b).getD 0 = 0 then s.bytes + (b.size : Int) else s.bytes
def roomB (s : Sto) (b : ByteArray) : Bool := decide (roomN s b ≤ 300) && decide (roomL s b ≤ 60000)
def putS (s : Sto) (b : ByteArray) : Int × Option Int × Sto :=
  if 0 < (getM s.ids b).getD 0 then ((getM s.ids b).getD 0, none, s)
  else if roomB s b then (s.last + 1, none, ⟨s.last + 1, s.bytes + (b.size : Int), putM s.ids b (s.last + 1), putM s.all (s.last + 1) b⟩)
  else (0, some 4, s)
theorem Sto.Ok.bytes {s : Sto} (h : s.Ok) : 0 ≤ s.bytes ∧ s.bytes ≤ 60000 := ⟨by rw [h.sum]; exact sumL_nonneg _, h.most⟩
theorem Sto.Ok.empty : Sto.empty.Ok := ⟨by simp [Sto.empty], rfl, by simp [Sto.empty], by simp [Sto.empty], List.nodup_nil, List.nodup_nil, fun b n => by simp [Sto.empty, getM_nil], fun n b h => by simp [Sto.empty, getM_nil] at h⟩
/-- Of a text that is there the number is one that was given. -/
theorem Sto.Ok.pos {s : Sto} (h : s.Ok) {b : ByteArray} {n : Int} (hb : getM s.ids b = some n) : 1 ≤ n ∧ n ≤ s.last := h.nums n b ((h.there b n).1 hb)
theorem Sto.Ok.zero {s : Sto} (h : s.Ok) {b : ByteArray} : (getM s.ids b).getD 0 = 0 ↔ getM s.ids b = none := by
  cases hb : getM s.ids b with
  | none => simp
  | some n => have := h.pos hb; simp; omega
theorem putS_ok {s : Sto} (h : s.Ok) (hl : s.last < 1000000) (b : ByteArray) : (putS s b).2.2.Ok := by
  unfold putS
  split
  · exact h
  · rename_i h0
    split
    · rename_i hr
      have hz : getM s.ids b = none := by
        cases hb : getM s.ids b with
        | none => rfl
        | some n => have := h.pos hb; rw [hb] at h0; simp at h0; omega
      have hz0 : (getM s.ids b).getD 0 = 0 := by rw [hz]; rfl
      have hfresh : getM s.all (s.last + 1) = none := by
        cases hc : getM s.all (s.last + 1) with
        | none => rfl
        | some t => have := h.nums _ _ hc; omega
      unfold roomB roomN roomL at hr
      rw [if_pos hz0, if_pos hz0] at hr
      simp only [Bool.and_eq_true, decide_eq_true_eq] at hr
      have hlast := h.last
      refine ⟨by dsimp only; omega, ?_, hr.2, ?_, h.idsKeys.put _ _, h.allKeys.put _ _, fun c n => ?_, fun n c hc => ?_⟩
      · dsimp only
        rw [putM_new hfresh, sumL_append, h.sum]
        simp [sumL]
      · dsimp only
        rw [putM_new hfresh, List.length_append]
        simp; omega
      · dsimp only
        rw [getM_put, getM_put]
        by_cases e1 : c = b
        · subst e1
          rw [if_pos rfl]
          by_cases e2 : n = s.last + 1
          · subst e2; simp
          · rw [if_neg e2]
            constructor
            · intro e; injection e with e; exact absurd e.symm e2
            · intro e
              have := (h.there c n).2 e
              rw [hz] at this; cases this
        · rw [if_neg e1]
          by_cases e2 : n = s.last + 1
          · subst e2
            rw [if_pos rfl]
            constructor
            · intro e
              have := h.pos e; omega
            · intro e; injection e with e; exact absurd e.symm e1
          · rw [if_neg e2]; exact h.there c n
      · dsimp only at hc ⊢
        rw [getM_put] at hc
        split at hc
        · rename_i e; omega
        · have := h.nums _ _ hc; omega
    · exact h

/-! ### keeping some alone -/
def inL (xs : List Int) (n : Int) : Bool := xs.any fun x => decide (n = x)
def goneP (xs : List Int) (p : Int × ByteArray) : Bool := !inL xs p.1
/-- Of the texts those whose number is still to be asked of, or stays. -/
def stayI (ids : List (ByteArray × Int)) (left : List (Int × ByteArray)) (xs : List Int) : List (ByteArray × Int) := ids.filter fun q => (getM left q.2).isSome || inL xs q.2
def keepS (s : Sto) (xs : List Int) : Int × Option Int × Sto :=
  if xs.all (fun x => (getM s.all x).isSome) then ((s.all.length : Int) - ((s.all.filter fun p => !goneP xs p).length : Int), none, ⟨s.last, sumL (s.all.filter fun p => !goneP xs p), stayI s.ids [] xs, s.all.filter fun p => !goneP xs p⟩)
  else (0, some 5, s)
theorem ids_num {s : Sto} (h : s.Ok) {q : ByteArray × Int} (hq : q ∈ s.ids) : getM s.all q.2 = some q.1 := (h.there q.1 q.2).1 (getM_mem h.idsKeys hq)
theorem stayI_start {s : Sto} (h : s.Ok) (xs : List Int) : stayI s.ids s.all xs = s.ids := by
  unfold stayI
  rw [List.filter_eq_self]
  intro q hq
  rw [ids_num h hq]; rfl
theorem stayI_gone {s : Sto} (h : s.Ok) {xs : List Int} {left : List (Int × ByteArray)} {p : Int × ByteArray} (hp : p ∈ s.all) (hg : goneP xs p = true) : delM (stayI s.ids left xs) p.2 = stayI s.ids (delM left p.1) xs := by
  have hpg := getM_mem h.allKeys (k := p.1) (v := p.2) hp
  show (stayI s.ids left xs).filter _ = _
  unfold stayI
  rw [List.filter_filter]
  apply List.filter_congr
  intro q hq
  rw [getM_del]
  have hqn := ids_num h hq
  by_cases e : q.1 = p.2
  · have e2 : q.2 = p.1 := by
      have h1 := (h.there p.2 p.1).2 hpg
      have h2 := getM_mem h.idsKeys (k := q.1) (v := q.2) hq
      rw [e, h1] at h2
      injection h2 with h2
      exact h2.symm
    have : inL xs p.1 = false := by simpa [goneP] using hg
    simp [e, e2, this]
  · have e2 : q.2 ≠ p.1 := fun e2 => by
      rw [e2, hpg] at hqn
      injection hqn with hqn
      exact e hqn.symm
    simp [e, e2]
theorem stayI_kept {s : Sto} (h : s.Ok) {xs : List Int} {left : List (Int × ByteArray)} {p : Int × ByteArray} (hg : goneP xs p = false) : stayI s.ids left xs = stayI s.ids (delM left p.1) xs := by
  unfold stayI
  apply List.filter_congr
  intro q _
  rw [getM_del]
  by_cases e : q.2 = p.1
  · have : inL xs p.1 = true := by simpa [goneP] using hg
    simp [e, this]
  · simp [e]
theorem stayM_keys {α β : Type} [DecidableEq α] {ms left : List (α × β)} {f : α × β → Bool} (h : KeysM ms) : KeysM (stayM ms left f) := by
  unfold KeysM stayM at *
  exact h.sublist (List.Sublist.map _ List.filter_sublist)
/-- What is held when one goes. -/
theorem sum_gone {s : Sto} (h : s.Ok) {xs : List Int} {left : List (Int × ByteArray)} {p : Int × ByteArray} (hp : p ∈ s.all) (hl : p ∈ left) (hg : goneP xs p = true) :
    sumL (stayM s.all (delM left p.1) (goneP xs)) = sumL (stayM s.all left (goneP xs)) - (p.2.size : Int) := by
  rw [← stayM_gone h.allKeys hp hg]
  refine sumL_del (stayM_keys h.allKeys) ?_
  refine getM_mem (stayM_keys h.allKeys) (k := p.1) (v := p.2) (List.mem_filter.2 ⟨hp, ?_⟩)
  have : (getM left p.1).isSome = true := by
    cases hc : getM left p.1 with
    | some _ => rfl
    | none => exact absurd rfl (getM_none.1 hc p hl)
  rw [this]; rfl
theorem sum_stay {s : Sto} (h : s.Ok) {left : List (Int × ByteArray)} {f : Int × ByteArray → Bool} : 0 ≤ sumL (stayM s.all left f) ∧ sumL (stayM s.all left f) ≤ 60000 := by
  refine ⟨sumL_nonneg _, ?_⟩
  have key : ∀ (ms : List (Int × ByteArray)) (g : Int × ByteArray → Bool), sumL (ms.filter g) ≤ sumL ms := by
    intro ms g
    induction ms with
    | nil => simp
    | cons p ms ih =>
      rw [List.filter_cons]
      unfold sumL at *
      split
      · rw [List.map_cons, List.sum_cons, List.map_cons, List.sum_cons]; omega
      · rw [List.map_cons, List.sum_cons]; omega
  have := key s.all (fun q => (getM left q.1).isSome || !f q)
  have h1 := h.sum
  have h2 := h.most
  unfold stayM
  omega
theorem keepS_ok {s : Sto} (h : s.Ok) (xs : List Int) : (keepS s xs).2.2.Ok := by
  unfold keepS
  split
  · have hk : KeysM (s.all.filter fun p => !goneP xs p) := by
      have := h.allKeys
      unfold KeysM at *
      exact this.sublist (List.Sublist.map _ List.filter_sublist)
    have hi : KeysM (stayI s.ids [] xs) := by
      have := h.idsKeys
      unfold KeysM stayI at *
      exact this.sublist (List.Sublist.map _ List.filter_sublist)
    have hs := sum_stay h (left := []) (f := goneP xs)
    rw [stayM_end] at hs
    have hlen := List.length_filter_le (fun p => !goneP xs p) s.all
    have hfew := h.few
    refine ⟨h.last, rfl, hs.2, by dsimp only; omega, hi, hk, fun b n => ?_, fun n b hb => ?_⟩
    · dsimp only
      constructor
      · intro e
        have hm := getM_some e
        unfold stayI at hm
        rw [List.mem_filter] at hm
        have h1 := ids_num h hm.1
        refine getM_mem hk (List.mem_filter.2 ⟨getM_some h1, ?_⟩)
        have h2 := hm.2
        simp [getM_nil] at h2
        simp [goneP, h2]
      · intro e
        have hm := getM_some e
        rw [List.mem_filter] at hm
        have h1 := (h.there b n).2 (getM_mem h.allKeys hm.1)
        refine getM_mem hi (List.mem_filter.2 ⟨getM_some h1, ?_⟩)
        have h2 := hm.2
        simp [goneP] at h2
        simp [h2]
    · dsimp only at hb
      have hm := getM_some hb
      rw [List.mem_filter] at hm
      exact h.nums n b (getM_mem h.allKeys hm.1)
  · exact h

/-! ### what putting does -/
theorem putS_last (s : Sto) (b : ByteArray) : s.last ≤ (putS s b).2.2.last ∧ (putS s b).2.2.last ≤ s.last + 1 := by
  unfold putS
  split
  · exact ⟨Int.le_refl _, by dsimp only; omega⟩
  · split
    · exact ⟨by dsimp only; omega, by dsimp only; omega⟩
    · exact ⟨Int.le_refl _, by dsimp only; omega⟩
theorem putS_none {s : Sto} (h : s.Ok) {b : ByteArray} (he : (putS s b).2.1 = none) : 1 ≤ (putS s b).1 ∧ (putS s b).1 ≤ (putS s b).2.2.last ∧ getM (putS s b).2.2.ids b = some (putS s b).1 ∧ getM (putS s b).2.2.all (putS s b).1 = some b := by
  unfold putS at he ⊢
  split
  · rename_i h0
    cases hb : getM s.ids b with
    | none => rw [hb] at h0; simp at h0
    | some n =>
      have := h.pos hb
      simp only [Option.getD_some]
      exact ⟨this.1, this.2, trivial, (h.there b n).1 hb⟩
  · rename_i h0
    rw [if_neg h0] at he
    split
    · have := h.last
      dsimp only
      rw [getM_put, if_pos rfl, getM_put, if_pos rfl]
      exact ⟨by omega, by omega, rfl, rfl⟩
    · rename_i h1
      rw [if_neg h1] at he
      cases he
theorem putS_some {s : Sto} {b : ByteArray} (he : (putS s b).2.1 ≠ none) : putS s b = (0, some 4, s) := by
  unfold putS at he ⊢
  split
  · rename_i h0; rw [if_pos h0] at he; exact absurd rfl he
  · rename_i h0
    rw [if_neg h0] at he
    split
    · rename_i h1; rw [if_pos h1] at he; exact absurd rfl he
    · rfl
theorem putS_old {s : Sto} {b : ByteArray} {n : Int} (hb : getM s.ids b = some n) (hn : 1 ≤ n) : putS s b = (n, none, s) := by
  have hp : 0 < (getM s.ids b).getD 0 := by rw [hb, Option.getD_some]; omega
  unfold putS
  rw [if_pos hp, hb]
  rfl
/-- Put twice: the same. -/
theorem putS_twice {s : Sto} (h : s.Ok) (b : ByteArray) : putS (putS s b).2.2 b = ((putS s b).1, (putS s b).2.1, (putS s b).2.2) := by
  by_cases he : (putS s b).2.1 = none
  · obtain ⟨h1, _, h3, _⟩ := putS_none h he
    rw [putS_old h3 h1, he]
  · rw [putS_some he]
    exact putS_some he
/-- What is there stays there. -/
theorem putS_keeps {s : Sto} (h : s.Ok) (b : ByteArray) {n : Int} {c : ByteArray} (hc : getM s.all n = some c) : getM (putS s b).2.2.all n = some c ∧ getM (putS s b).2.2.ids c = some n := by
  have hi := (h.there c n).2 hc
  unfold putS
  split
  · exact ⟨hc, hi⟩
  · rename_i h0
    split
    · have := h.nums n c hc
      dsimp only
      rw [getM_put, if_neg (by omega), getM_put, if_neg]
      · exact ⟨hc, hi⟩
      · rintro rfl
        rw [hi, Option.getD_some] at h0
        omega
    · exact ⟨hc, hi⟩
/-- A number that a put gives anew is none that was there. -/
theorem putS_new {s : Sto} (h : s.Ok) {b : ByteArray} (hb : getM s.ids b = none) {n : Int} {c : ByteArray} (hn : getM s.all n = some c) : (putS s b).1 ≠ n := by
  have h1 := h.nums n c hn
  have hz : ¬ 0 < (getM s.ids b).getD 0 := by rw [hb]; simp
  unfold putS
  rw [if_neg hz]
  split
  · dsimp only; omega
  · dsimp only; omega

/-! ### StoreBack, in plain Lean -/
/-- the store behind the first i texts, each put twice -/
def putAll (s : Sto) : List ByteArray → Sto
  | [] => s
  | b :: r => putAll (putS s b).2.2 r
def numAll (s : Sto) : List ByteArray → List Int
  | [] => []
  | b :: r => (putS s b).1 :: numAll (putS s b).2.2 r
theorem numAll_length (s : Sto) (bs : List ByteArray) : (numAll s bs).length = bs.length := by
  induction bs generalizing s with
  | nil => rfl
  | cons b r ih => rw [numAll, List.length_cons, List.length_cons, ih]
theorem putAll_snoc (s : Sto) (bs : List ByteArray) (b : ByteArray) : putAll s (bs ++ [b]) = (putS (putAll s bs) b).2.2 := by
  induction bs generalizing s with
  | nil => rfl
  | cons c r ih => rw [List.cons_append, putAll, putAll, ih]
theorem numAll_snoc (s : Sto) (bs : List ByteArray) (b : ByteArray) : numAll s (bs ++ [b]) = numAll s bs ++ [(putS (putAll s bs) b).1] := by
  induction bs generalizing s with
  | nil => rfl
  | cons c r ih => rw [List.cons_append, numAll, numAll, ih, putAll, List.cons_append]
theorem putAll_ok {s : Sto} (h : s.Ok) : ∀ (bs : List ByteArray), s.last + bs.length ≤ 1000000 → (putAll s bs).Ok ∧ s.last ≤ (putAll s bs).last ∧ (putAll s bs).last ≤ s.last + bs.length := by
  intro bs
  induction bs generalizing s with
  | nil => intro _; exact ⟨h, Int.le_refl _, by simp [putAll]⟩
  | cons b r ih =>
    intro hl
    rw [List.length_cons] at hl
    have h1 := putS_last s b
    obtain ⟨g1, g2, g3⟩ := ih (putS_ok h (by omega) b) (by omega)
    refine ⟨g1, ?_, ?_⟩
    · rw [putAll]; omega
    · rw [putAll, List.length_cons]; omega
/-- Each text that was given a number is there under it. -/
theorem putAll_there {s : Sto} (h : s.Ok) : ∀ (bs : List ByteArray), s.last + bs.length ≤ 1000000 → (∀ n c, getM s.all n = some c → getM (putAll s bs).all n = some c) ∧
    ∀ (i : Nat) b n, bs[i]? = some b → (numAll s bs)[i]? = some n → n = 0 ∨ (1 ≤ n ∧ getM (putAll s bs).all n = some b) := by
  intro bs
  induction bs generalizing s with
  | nil => intro _; exact ⟨fun n c h => h, fun i b n h => by simp at h⟩
  | cons b r ih =>
    intro hl
    rw [List.length_cons] at hl
    have h1 := putS_last s b
    obtain ⟨g1, g2⟩ := ih (putS_ok h (by omega) b) (by omega)
    refine ⟨fun n c hc => g1 n c (putS_keeps h b hc).1, fun i c n hi hn => ?_⟩
    cases i with
    | zero =>
      have e1 : b = c := by simpa using hi
      have e2 : (putS s b).1 = n := by simpa [numAll] using hn
      subst e1 e2
      by_cases he : (putS s b).2.1 = none
      · obtain ⟨p1, p2, p3, p4⟩ := putS_none h he
        exact .inr ⟨p1, g1 _ _ p4⟩
      · rw [putS_some he]; exact .inl rfl
    | succ i => exact g2 i c n (by simpa using hi) (by simpa [numAll] using hn)

/-- A store that came of s0 by keeping some and putting more: of s0's numbers it has what s0 had. -/
structure Kept (s0 s : Sto) : Prop where
  ok : s.Ok
  last : s0.last ≤ s.last
  old : ∀ m c, m ≤ s0.last → getM s.all m = some c → getM s0.all m = some c
theorem Kept.start {s0 : Sto} (h : s0.Ok) (xs : List Int) : Kept s0 (keepS s0 xs).2.2 := by
  refine ⟨keepS_ok h xs, ?_, fun m c _ hm => ?_⟩
  · unfold keepS; split <;> exact Int.le_refl _
  · unfold keepS at hm
    split at hm
    · have h1 := getM_some hm
      rw [List.mem_filter] at h1
      exact getM_mem h.allKeys h1.1
    · exact hm
theorem Kept.put {s0 s : Sto} (h : Kept s0 s) (hl : s.last < 1000000) (b : ByteArray) : Kept s0 (putS s b).2.2 := by
  have h1 := putS_last s b
  have h2 := h.last
  refine ⟨putS_ok h.ok hl b, by omega, fun m c hm hc => ?_⟩
  unfold putS at hc
  split at hc
  · exact h.old m c hm hc
  · split at hc
    · dsimp only at hc
      rw [getM_put, if_neg (by omega)] at hc
      exact h.old m c hm hc
    · exact h.old m c hm hc
/-- What is gone has another number, if it comes again. -/
theorem Kept.anew {s0 s : Sto} (h0 : s0.Ok) (h : Kept s0 s) {b : ByteArray} {n : Int} (hn : getM s0.all n = some b) (hg : getM s.all n = none) (he : (putS s b).2.1 = none) : s0.last < (putS s b).1 := by
  have hl := h.last
  unfold putS at he ⊢
  split
  · rename_i hp
    cases hb : getM s.ids b with
    | none => rw [hb] at hp; simp at hp
    | some m =>
      simp only [Option.getD_some]
      apply Decidable.byContradiction
      intro hc
      have h1 := (h.ok.there b m).1 hb
      have h2 := h.old m b (by omega) h1
      have h3 := (h0.there b m).2 h2
      have h4 := (h0.there b n).2 hn
      rw [h3] at h4
      injection h4 with h4
      rw [← h4, h1] at hg
      cases hg
  · rename_i hp
    rw [if_neg hp] at he
    split
    · dsimp only; omega
    · rename_i hr; rw [if_neg hr] at he; cases he
theorem keepS_fst {s : Sto} {xs : List Int} (h : (keepS s xs).2.1 = none) : ((keepS s xs).2.2.all.length : Int) = (s.all.length : Int) - (keepS s xs).1 := by
  unfold keepS at h ⊢
  split
  · dsimp only; omega
  · rename_i hc; rw [if_neg hc] at h; cases h
theorem keepS_err {s : Sto} {xs : List Int} (h : (keepS s xs).2.1 ≠ none) : (keepS s xs).2.2 = s := by
  unfold keepS at h ⊢
  split
  · rename_i hc; rw [if_pos hc] at h; exact absurd rfl h
  · rfl
end Go.Proofs.Ytjgcmpondbocfaa

/- A repo as plain data, and as it lies in memory. No condition. -/
import Derived.Test.YtjgcmpondbocfaaStore
import Derived.Test.YtjgcmpondbocfaaTermPure
import Derived.Test.YtjgcmpondbocfaaDagPure
namespace Go.Proofs.Ytjgcmpondbocfaa

/-! ### plain data -/
structure Repo where
  st : Sto
  cs : List Commit
  gs : List (List Triple)
  heads : List (ByteArray × Int)
def Repo.empty : Repo := ⟨Sto.empty, [], [], []⟩

/-! ### memory -/
structure Hd where
  A : Option Addr
  n : Nat
  c : Nat
def Hd.val (h : Hd) : Value := .slice h.A h.n h.c
def encHd (h : Hd) : List Value := [h.val]
structure RawC where
  par : Hd
  layer : Int
  msg : ByteArray
def encRawC (r : RawC) : List Value := [r.par.val, .int .i64 r.layer, .string r.msg]
theorem encHd_len (x : Hd) : (encHd x).length = 1 := rfl
theorem encRawC_len (x : RawC) : (encRawC x).length = 3 := rfl
theorem one_hd : ∀ x, ∀ u ∈ encHd x, u.oneCell' = true := by
  intro x u hu; simp only [encHd, List.mem_singleton] at hu; subst hu; rfl
theorem one_rawc : ∀ x, ∀ u ∈ encRawC x, u.oneCell' = true := by
  intro x u hu; simp only [encRawC, List.mem_cons, List.not_mem_nil, or_false] at hu
  rcases hu with rfl | rfl | rfl <;> rfl
/-- A slice that lies among what stays. -/
def Still {α : Type} (enc : α → List Value) (size : Nat) (U V : Nat → Prop) (w : World) (v : Value) (xs : List α) : Prop := RSl (REnc enc) size w v xs ∧ (0 < xs.length → ∀ k, v.ownBlock = some k → V k ∧ ¬ U k)
theorem Still.chg {α : Type} {enc : α → List Value} {size : Nat} {U V S : Nat → Prop} {w w' : World} {v : Value} {xs : List α} (h : Still enc size U V w v xs) (c : Chg S w w') (hs : ∀ k, V k → ¬ U k → ¬ S k) : Still enc size U V w' v xs :=
  ⟨h.1.chg c fun h0 k hk => hs k (h.2 h0 k hk).1 (h.2 h0 k hk).2, h.2⟩
theorem Still.sub {α : Type} {enc : α → List Value} {size : Nat} {U V U' V' : Nat → Prop} {w : World} {v : Value} {xs : List α} (h : Still enc size U V w v xs) (hs : ∀ k, V k → ¬ U k → V' k ∧ ¬ U' k) : Still enc size U' V' w v xs :=
  ⟨h.1, fun h0 k hk => hs k (h.2 h0 k hk).1 (h.2 h0 k hk).2⟩
def RowsC (U V : Nat → Prop) (w : World) (rc : List RawC) (cs : List Commit) : Prop := rc.length = cs.length ∧ ∀ (k : Nat) x y, rc[k]? = some x → cs[k]? = some y → x.layer = y.layer ∧ x.msg = y.msg ∧ Still encInt 1 U V w x.par.val y.parents
def RowsG (U V : Nat → Prop) (w : World) (rg : List Hd) (gs : List (List Triple)) : Prop := rg.length = gs.length ∧ ∀ (k : Nat) x y, rg[k]? = some x → gs[k]? = some y → Still encTriple 9 U V w x.val y
section
variable {U V U' V' S : Nat → Prop} {w w' : World}
theorem RowsC.chg {rc : List RawC} {cs : List Commit} (h : RowsC U V w rc cs) (c : Chg S w w') (hs : ∀ k, V k → ¬ U k → ¬ S k) : RowsC U V w' rc cs :=
  ⟨h.1, fun k x y hx hy => have := h.2 k x y hx hy; ⟨this.1, this.2.1, this.2.2.chg c hs⟩⟩
theorem RowsC.sub {rc : List RawC} {cs : List Commit} (h : RowsC U V w rc cs) (hs : ∀ k, V k → ¬ U k → V' k ∧ ¬ U' k) : RowsC U' V' w rc cs :=
  ⟨h.1, fun k x y hx hy => have := h.2 k x y hx hy; ⟨this.1, this.2.1, this.2.2.sub hs⟩⟩
theorem RowsG.chg {rg : List Hd} {gs : List (List Triple)} (h : RowsG U V w rg gs) (c : Chg S w w') (hs : ∀ k, V k → ¬ U k → ¬ S k) : RowsG U V w' rg gs :=
  ⟨h.1, fun k x y hx hy => (h.2 k x y hx hy).chg c hs⟩
theorem RowsG.sub {rg : List Hd} {gs : List (List Triple)} (h : RowsG U V w rg gs) (hs : ∀ k, V k → ¬ U k → V' k ∧ ¬ U' k) : RowsG U' V' w rg gs :=
  ⟨h.1, fun k x y hx hy => (h.2 k x y hx hy).sub hs⟩
theorem get_snoc {α : Type} {xs : List α} {a x : α} {k : Nat} (h : (xs ++ [a])[k]? = some x) : xs[k]? = some x ∧ k < xs.length ∨ k = xs.length ∧ x = a := by
  rcases Nat.lt_or_ge k xs.length with hk | hk
  · rw [List.getElem?_append_left hk] at h; exact .inl ⟨h, hk⟩
  · rw [List.getElem?_append_right hk] at h
    have hk2 : k - xs.length < 1 := by have := lt_of_get h; simpa using this
    have : k = xs.length := by omega
    subst this
    rw [Nat.sub_self] at h
    injection h with h
    exact .inr ⟨rfl, h.symm⟩
theorem RowsC.snoc {rc : List RawC} {cs : List Commit} (h : RowsC U V w rc cs) {x : RawC} {y : Commit} (h1 : x.layer = y.layer) (h2 : x.msg = y.msg) (h3 : Still encInt 1 U V w x.par.val y.parents) : RowsC U V w (rc ++ [x]) (cs ++ [y]) := by
  refine ⟨by simp [h.1], fun k a b ha hb => ?_⟩
  have hl := h.1
  rcases get_snoc ha with ⟨ha, hk⟩ | ⟨rfl, rfl⟩
  · rcases get_snoc hb with ⟨hb, _⟩ | ⟨rfl, _⟩
    · exact h.2 k a b ha hb
    · omega
  · rcases get_snoc hb with ⟨hb, hk⟩ | ⟨_, rfl⟩
    · omega
    · exact ⟨h1, h2, h3⟩
theorem RowsG.snoc {rg : List Hd} {gs : List (List Triple)} (h : RowsG U V w rg gs) {x : Hd} {y : List Triple} (h3 : Still encTriple 9 U V w x.val y) : RowsG U V w (rg ++ [x]) (gs ++ [y]) := by
  refine ⟨by simp [h.1], fun k a b ha hb => ?_⟩
  have hl := h.1
  rcases get_snoc ha with ⟨ha, hk⟩ | ⟨rfl, rfl⟩
  · rcases get_snoc hb with ⟨hb, _⟩ | ⟨rfl, _⟩
    · exact h.2 k a b ha hb
    · omega
  · rcases get_snoc hb with ⟨hb, hk⟩ | ⟨_, rfl⟩
    · omega
    · exact h3
end
/-- Where the parts of a repo lie. V: all of its blocks. -/
structure RNames where
  g : Nat
  gs : Nat
  bi : Nat
  ba : Nat
  bm : Nat
  cv : Value
  gv : Value
  V : Nat → Prop
/-- The blocks that may change. -/
def RNames.U (n : RNames) (k : Nat) : Prop := k = n.g ∨ k = n.gs ∨ k = n.bi ∨ k = n.ba ∨ k = n.bm ∨ n.cv.ownBlock = some k ∨ n.gv.ownBlock = some k
structure RTy where
  store : TypeId
  repo : TypeId
  commit : TypeId
  graph : TypeId
structure RepoB (t : RTy) (w : World) (n : RNames) (r : Repo) : Prop where
  blk : Blk w n.g t.repo [.pointer (some ⟨n.gs, 0, none⟩), n.cv, n.gv, .map (some n.bm)]
  sto : StoB t.store w n.gs n.bi n.ba r.st
  map : MapB encS encN w n.bm r.heads
  rows : ∃ rc rg, Own encRawC 3 0 t.commit w n.cv rc ∧ Own encHd 1 0 t.graph w n.gv rg ∧ RowsC n.U n.V w rc r.cs ∧ RowsG n.U n.V w rg r.gs
  sub : ∀ k, n.U k → n.V k
  lt : ∀ k, n.V k → k < w.heap.size
  s1 : n.g ≠ n.gs ∧ n.g ≠ n.bi ∧ n.g ≠ n.ba ∧ n.g ≠ n.bm
  s2 : n.bm ≠ n.gs ∧ n.bm ≠ n.bi ∧ n.bm ≠ n.ba
  s3 : ∀ k, n.cv.ownBlock = some k → k ≠ n.g ∧ k ≠ n.gs ∧ k ≠ n.bi ∧ k ≠ n.ba ∧ k ≠ n.bm ∧ n.gv.ownBlock ≠ some k
  s4 : ∀ k, n.gv.ownBlock = some k → k ≠ n.g ∧ k ≠ n.gs ∧ k ≠ n.bi ∧ k ≠ n.ba ∧ k ≠ n.bm
section
variable {t : RTy} {S : Nat → Prop} {w w' : World} {n : RNames} {r : Repo}
theorem RepoB.chg (h : RepoB t w n r) (c : Chg S w w') (hs : ∀ k, n.V k → ¬ S k) : RepoB t w' n r := by
  have hU : ∀ k, n.U k → ¬ S k := fun k hk => hs k (h.sub k hk)
  obtain ⟨rc, rg, h1, h2, h3, h4⟩ := h.rows
  exact { blk := h.blk.chg c (hU _ (.inl rfl)), sto := h.sto.chg c (hU _ (.inr (.inl rfl))) (hU _ (.inr (.inr (.inl rfl)))) (hU _ (.inr (.inr (.inr (.inl rfl))))), map := h.map.chg c (hU _ (.inr (.inr (.inr (.inr (.inl rfl))))))
          rows := ⟨rc, rg, h1.chg c (fun k hk => hU _ (.inr (.inr (.inr (.inr (.inr (.inl hk))))))), h2.chg c (fun k hk => hU _ (.inr (.inr (.inr (.inr (.inr (.inr hk))))))), h3.chg c (fun k hv _ => hs k hv), h4.chg c (fun k hv _ => hs k hv)⟩
          sub := h.sub, lt := fun k hk => Nat.lt_of_lt_of_le (h.lt k hk) c.size, s1 := h.s1, s2 := h.s2, s3 := h.s3, s4 := h.s4 }
theorem RepoB.ext (h : RepoB t w n r) (c : Ext w w') : RepoB t w' n r := h.chg c fun _ _ h => h
/-- The store has changed. -/
theorem RepoB.setSto (h : RepoB t w n r) {s : Sto} (hs : StoB t.store w' n.gs n.bi n.ba s) (c : Chg (fun k => k = n.gs ∨ k = n.bi ∨ k = n.ba) w w') : RepoB t w' n { r with st := s } := by
  obtain ⟨rc, rg, h1, h2, h3, h4⟩ := h.rows
  have hU : ∀ k, (k = n.gs ∨ k = n.bi ∨ k = n.ba) → n.U k := fun k hk => by
    rcases hk with rfl | rfl | rfl
    · exact .inr (.inl rfl)
    · exact .inr (.inr (.inl rfl))
    · exact .inr (.inr (.inr (.inl rfl)))
  have s1 := h.s1; have s2 := h.s2
  exact { blk := h.blk.chg c (by rintro (e | e | e); exact s1.1 e; exact s1.2.1 e; exact s1.2.2.1 e), sto := hs, map := h.map.chg c (by rintro (e | e | e); exact s2.1 e; exact s2.2.1 e; exact s2.2.2 e)
          rows := ⟨rc, rg, h1.chg c (fun k hk => by have := h.s3 k hk; rintro (e | e | e); exact this.2.1 e; exact this.2.2.1 e; exact this.2.2.2.1 e), h2.chg c (fun k hk => by have := h.s4 k hk; rintro (e | e | e); exact this.2.1 e; exact this.2.2.1 e; exact this.2.2.2.1 e), h3.chg c (fun k _ hu e => hu (hU k e)), h4.chg c (fun k _ hu e => hu (hU k e))⟩
          sub := h.sub, lt := fun k hk => Nat.lt_of_lt_of_le (h.lt k hk) c.size, s1 := h.s1, s2 := h.s2, s3 := h.s3, s4 := h.s4 }
/-- The branches have changed. -/
theorem RepoB.setMap (h : RepoB t w n r) {hd : List (ByteArray × Int)} (hm : MapB encS encN w' n.bm hd) (c : Chg (fun k => k = n.bm) w w') : RepoB t w' n { r with heads := hd } := by
  obtain ⟨rc, rg, h1, h2, h3, h4⟩ := h.rows
  have hU : ∀ k, k = n.bm → n.U k := fun k hk => .inr (.inr (.inr (.inr (.inl hk))))
  have s1 := h.s1; have s2 := h.s2
  exact { blk := h.blk.chg c s1.2.2.2, sto := h.sto.chg c (fun e => s2.1 e.symm) (fun e => s2.2.1 e.symm) (fun e => s2.2.2 e.symm), map := hm
          rows := ⟨rc, rg, h1.chg c (fun k hk => (h.s3 k hk).2.2.2.2.1), h2.chg c (fun k hk => (h.s4 k hk).2.2.2.2), h3.chg c (fun k _ hu e => hu (hU k e)), h4.chg c (fun k _ hu e => hu (hU k e))⟩
          sub := h.sub, lt := fun k hk => Nat.lt_of_lt_of_le (h.lt k hk) c.size, s1 := h.s1, s2 := h.s2, s3 := h.s3, s4 := h.s4 }
/-- What of a repo's blocks is new. -/
def RNames.Grow (w : World) (n n' : RNames) : Prop := n'.g = n.g ∧ (∀ k, n'.V k → n.V k ∨ w.heap.size ≤ k) ∧ ∀ k, n'.U k → n.U k ∨ w.heap.size ≤ k
theorem RNames.Grow.refl (w : World) (n : RNames) : n.Grow w n := ⟨rfl, fun _ h => .inl h, fun _ h => .inl h⟩
theorem RNames.Grow.lower {n' : RNames} (h : n.Grow w n') (hs : w'.heap.size ≤ w.heap.size) : n.Grow w' n' := ⟨h.1, fun k hk => (h.2.1 k hk).imp id (Nat.le_trans hs), fun k hk => (h.2.2 k hk).imp id (Nat.le_trans hs)⟩
theorem RNames.Grow.trans {n' n'' : RNames} (h : n.Grow w n') (k : n'.Grow w' n'') (hs : w.heap.size ≤ w'.heap.size) : n.Grow w n'' :=
  ⟨k.1.trans h.1, fun j hj => (k.2.1 j hj).elim (h.2.1 j) (fun h => .inr (Nat.le_trans hs h)), fun j hj => (k.2.2 j hj).elim (h.2.2 j) (fun h => .inr (Nat.le_trans hs h))⟩
/-- A row of commits grown by one. -/
theorem RepoB.addC (h : RepoB t w n r) {rc : List RawC} {rg : List Hd} (h2 : Own encHd 1 0 t.graph w n.gv rg) (h3 : RowsC n.U n.V w rc r.cs) (h4 : RowsG n.U n.V w rg r.gs)
    {w1 : World} {cv : Value} {x : RawC} {y : Commit} {B : Nat} (ho : Own encRawC 3 0 t.commit w1 cv (rc ++ [x])) (hat : cv.ownBlock = n.cv.ownBlock ∨ ∃ b, cv.ownBlock = some b ∧ B ≤ b) (hB : w.heap.size ≤ B)
    (hx1 : x.layer = y.layer) (hx2 : x.msg = y.msg) (hxr : RInts w1 x.par.val y.parents) (hxo : 0 < y.parents.length → ∀ k, x.par.val.ownBlock = some k → w.heap.size ≤ k ∧ k < B ∧ k < w1.heap.size)
    (c : Chg (fun k => n.cv.ownBlock = some k) w w1) (c2 : Chg (fun k => k = n.g) w1 w') (hb : Blk w' n.g t.repo [.pointer (some ⟨n.gs, 0, none⟩), cv, n.gv, .map (some n.bm)]) :
    RepoB t w' ⟨n.g, n.gs, n.bi, n.ba, n.bm, cv, n.gv, fun k => n.V k ∨ cv.ownBlock = some k ∨ (0 < y.parents.length ∧ x.par.val.ownBlock = some k)⟩ { r with cs := r.cs ++ [y] } := by
  have s1 := h.s1; have s2 := h.s2; have s3 := h.s3; have s4 := h.s4
  have hC : Chg (fun k => n.cv.ownBlock = some k ∨ k = n.g) w w' := (c.mono fun _ _ h => .inl h).trans (c2.mono fun _ _ h => .inr h)
  have lt1 := fun k hk => h.lt k (h.sub k hk)
  have cvn : ∀ k, cv.ownBlock = some k → n.cv.ownBlock = some k ∨ B ≤ k := fun k hk => by
    rcases hat with e | ⟨b, e, hb⟩
    · exact .inl (e ▸ hk)
    · rw [e] at hk; injection hk with hk; subst hk; exact .inr hb
  have u : ∀ {k}, n.U k → k < w.heap.size := fun hk => lt1 _ hk
  have ug := u (k := n.g) (.inl rfl)
  have ugs := u (k := n.gs) (.inr (.inl rfl))
  have ubi := u (k := n.bi) (.inr (.inr (.inl rfl)))
  have uba := u (k := n.ba) (.inr (.inr (.inr (.inl rfl))))
  have ubm := u (k := n.bm) (.inr (.inr (.inr (.inr (.inl rfl)))))
  have ugv : ∀ k, n.gv.ownBlock = some k → k < w.heap.size := fun k hk => u (.inr (.inr (.inr (.inr (.inr (.inr hk))))))
  have cvg : ∀ k, cv.ownBlock = some k → k ≠ n.g ∧ k ≠ n.gs ∧ k ≠ n.bi ∧ k ≠ n.ba ∧ k ≠ n.bm ∧ n.gv.ownBlock ≠ some k := fun k hk => by
    rcases cvn k hk with e | e
    · exact s3 k e
    · refine ⟨by omega, by omega, by omega, by omega, by omega, fun hg => ?_⟩
      have := ugv k hg; omega
  have hsub : ∀ k, n.V k → ¬ n.U k → (n.V k ∨ cv.ownBlock = some k ∨ (0 < y.parents.length ∧ x.par.val.ownBlock = some k)) ∧ ¬ RNames.U ⟨n.g, n.gs, n.bi, n.ba, n.bm, cv, n.gv, fun k => n.V k ∨ cv.ownBlock = some k ∨ (0 < y.parents.length ∧ x.par.val.ownBlock = some k)⟩ k := fun k hv hu => by
    refine ⟨.inl hv, fun hk => ?_⟩
    rcases hk with e | e | e | e | e | e | e
    · exact hu (.inl e)
    · exact hu (.inr (.inl e))
    · exact hu (.inr (.inr (.inl e)))
    · exact hu (.inr (.inr (.inr (.inl e))))
    · exact hu (.inr (.inr (.inr (.inr (.inl e)))))
    · rcases cvn k e with e | e
      · exact hu (.inr (.inr (.inr (.inr (.inr (.inl e))))))
      · have := h.lt k hv; omega
    · exact hu (.inr (.inr (.inr (.inr (.inr (.inr e))))))
  have nu : ∀ k, n.V k → ¬ n.U k → ¬ (n.cv.ownBlock = some k ∨ k = n.g) := fun k _ hu e => by
    rcases e with e | e
    · exact hu (.inr (.inr (.inr (.inr (.inr (.inl e))))))
    · exact hu (.inl e)
  refine { blk := hb, sto := h.sto.chg hC ?_ ?_ ?_, map := h.map.chg hC ?_, rows := ⟨rc ++ [x], rg, ho.chg c2 fun k hk e => (cvg k hk).1 e, h2.chg hC ?_, ?_, (h4.chg hC nu).sub hsub⟩, sub := ?_, lt := ?_, s1 := s1, s2 := s2, s3 := cvg, s4 := s4 }
  · rintro (e | e); exact (s3 _ e).2.1 rfl; exact s1.1 e.symm
  · rintro (e | e); exact (s3 _ e).2.2.1 rfl; exact s1.2.1 e.symm
  · rintro (e | e); exact (s3 _ e).2.2.2.1 rfl; exact s1.2.2.1 e.symm
  · rintro (e | e); exact (s3 _ e).2.2.2.2.1 rfl; exact s1.2.2.2 e.symm
  · rintro k hk (e | e); exact (s3 _ e).2.2.2.2.2 hk; exact (s4 _ hk).1 e
  · refine ((h3.chg hC nu).sub hsub).snoc hx1 hx2 ⟨hxr.chg c2 fun h0 k hk e => ?_, fun h0 k hk => ⟨.inr (.inr ⟨h0, hk⟩), fun hu => ?_⟩⟩
    · have := hxo h0 k hk; subst e; omega
    · have := hxo h0 k hk
      rcases hu with e | e | e | e | e | e | e
      · replace e : k = n.g := e; omega
      · replace e : k = n.gs := e; omega
      · replace e : k = n.bi := e; omega
      · replace e : k = n.ba := e; omega
      · replace e : k = n.bm := e; omega
      · rcases cvn k e with e | e
        · have := u (k := k) (.inr (.inr (.inr (.inr (.inr (.inl e)))))); omega
        · omega
      · have := ugv k e; omega
  · intro k hk
    rcases hk with e | e | e | e | e | e | e
    · exact .inl (h.sub k (.inl e))
    · exact .inl (h.sub k (.inr (.inl e)))
    · exact .inl (h.sub k (.inr (.inr (.inl e))))
    · exact .inl (h.sub k (.inr (.inr (.inr (.inl e)))))
    · exact .inl (h.sub k (.inr (.inr (.inr (.inr (.inl e))))))
    · exact .inr (.inl e)
    · exact .inl (h.sub k (.inr (.inr (.inr (.inr (.inr (.inr e)))))))
  · intro k hk
    rcases hk with e | e | ⟨h0, e⟩
    · exact Nat.lt_of_lt_of_le (h.lt k e) hC.size
    · have := (ho.base e).2; have := c2.size; omega
    · have := (hxo h0 k e).2.2; have := c2.size; omega
/-- A row of graphs grown by one. -/
theorem RepoB.addG (h : RepoB t w n r) {rc : List RawC} {rg : List Hd} (h2 : Own encRawC 3 0 t.commit w n.cv rc) (h3 : RowsC n.U n.V w rc r.cs) (h4 : RowsG n.U n.V w rg r.gs)
    {w1 : World} {gv : Value} {x : Hd} {y : List Triple} {B : Nat} (ho : Own encHd 1 0 t.graph w1 gv (rg ++ [x])) (hat : gv.ownBlock = n.gv.ownBlock ∨ ∃ b, gv.ownBlock = some b ∧ B ≤ b) (hB : w.heap.size ≤ B)
    (hxr : RTriples w1 x.val y) (hxo : 0 < y.length → ∀ k, x.val.ownBlock = some k → w.heap.size ≤ k ∧ k < B ∧ k < w1.heap.size)
    (c : Chg (fun k => n.gv.ownBlock = some k) w w1) (c2 : Chg (fun k => k = n.g) w1 w') (hb : Blk w' n.g t.repo [.pointer (some ⟨n.gs, 0, none⟩), n.cv, gv, .map (some n.bm)]) :
    RepoB t w' ⟨n.g, n.gs, n.bi, n.ba, n.bm, n.cv, gv, fun k => n.V k ∨ gv.ownBlock = some k ∨ (0 < y.length ∧ x.val.ownBlock = some k)⟩ { r with gs := r.gs ++ [y] } := by
  have s1 := h.s1; have s2 := h.s2; have s3 := h.s3; have s4 := h.s4
  have hC : Chg (fun k => n.gv.ownBlock = some k ∨ k = n.g) w w' := (c.mono fun _ _ h => .inl h).trans (c2.mono fun _ _ h => .inr h)
  have lt1 := fun k hk => h.lt k (h.sub k hk)
  have gvn : ∀ k, gv.ownBlock = some k → n.gv.ownBlock = some k ∨ B ≤ k := fun k hk => by
    rcases hat with e | ⟨b, e, hb⟩
    · exact .inl (e ▸ hk)
    · rw [e] at hk; injection hk with hk; subst hk; exact .inr hb
  have u : ∀ {k}, n.U k → k < w.heap.size := fun hk => lt1 _ hk
  have ug := u (k := n.g) (.inl rfl)
  have ugs := u (k := n.gs) (.inr (.inl rfl))
  have ubi := u (k := n.bi) (.inr (.inr (.inl rfl)))
  have uba := u (k := n.ba) (.inr (.inr (.inr (.inl rfl))))
  have ubm := u (k := n.bm) (.inr (.inr (.inr (.inr (.inl rfl)))))
  have ucv : ∀ k, n.cv.ownBlock = some k → k < w.heap.size := fun k hk => u (.inr (.inr (.inr (.inr (.inr (.inl hk))))))
  have gvg : ∀ k, gv.ownBlock = some k → k ≠ n.g ∧ k ≠ n.gs ∧ k ≠ n.bi ∧ k ≠ n.ba ∧ k ≠ n.bm := fun k hk => by
    rcases gvn k hk with e | e
    · exact s4 k e
    · exact ⟨by omega, by omega, by omega, by omega, by omega⟩
  have hsub : ∀ k, n.V k → ¬ n.U k → (n.V k ∨ gv.ownBlock = some k ∨ (0 < y.length ∧ x.val.ownBlock = some k)) ∧ ¬ RNames.U ⟨n.g, n.gs, n.bi, n.ba, n.bm, n.cv, gv, fun k => n.V k ∨ gv.ownBlock = some k ∨ (0 < y.length ∧ x.val.ownBlock = some k)⟩ k := fun k hv hu => by
    refine ⟨.inl hv, fun hk => ?_⟩
    rcases hk with e | e | e | e | e | e | e
    · exact hu (.inl e)
    · exact hu (.inr (.inl e))
    · exact hu (.inr (.inr (.inl e)))
    · exact hu (.inr (.inr (.inr (.inl e))))
    · exact hu (.inr (.inr (.inr (.inr (.inl e)))))
    · exact hu (.inr (.inr (.inr (.inr (.inr (.inl e))))))
    · rcases gvn k e with e | e
      · exact hu (.inr (.inr (.inr (.inr (.inr (.inr e))))))
      · have := h.lt k hv; omega
  have nu : ∀ k, n.V k → ¬ n.U k → ¬ (n.gv.ownBlock = some k ∨ k = n.g) := fun k _ hu e => by
    rcases e with e | e
    · exact hu (.inr (.inr (.inr (.inr (.inr (.inr e))))))
    · exact hu (.inl e)
  refine { blk := hb, sto := h.sto.chg hC ?_ ?_ ?_, map := h.map.chg hC ?_, rows := ⟨rc, rg ++ [x], h2.chg hC ?_, ho.chg c2 fun k hk e => (gvg k hk).1 e, (h3.chg hC nu).sub hsub, ?_⟩, sub := ?_, lt := ?_, s1 := s1, s2 := s2, s3 := ?_, s4 := gvg }
  · rintro (e | e); exact (s4 _ e).2.1 rfl; exact s1.1 e.symm
  · rintro (e | e); exact (s4 _ e).2.2.1 rfl; exact s1.2.1 e.symm
  · rintro (e | e); exact (s4 _ e).2.2.2.1 rfl; exact s1.2.2.1 e.symm
  · rintro (e | e); exact (s4 _ e).2.2.2.2 rfl; exact s1.2.2.2 e.symm
  · rintro k hk (e | e); exact (s3 _ hk).2.2.2.2.2 e; exact (s3 _ hk).1 e
  · refine ((h4.chg hC nu).sub hsub).snoc ⟨hxr.chg c2 fun h0 k hk e => ?_, fun h0 k hk => ⟨.inr (.inr ⟨h0, hk⟩), fun hu => ?_⟩⟩
    · have := hxo h0 k hk; subst e; omega
    · have := hxo h0 k hk
      rcases hu with e | e | e | e | e | e | e
      · replace e : k = n.g := e; omega
      · replace e : k = n.gs := e; omega
      · replace e : k = n.bi := e; omega
      · replace e : k = n.ba := e; omega
      · replace e : k = n.bm := e; omega
      · have := ucv k e; omega
      · rcases gvn k e with e | e
        · have := u (k := k) (.inr (.inr (.inr (.inr (.inr (.inr e)))))); omega
        · omega
  · intro k hk
    rcases hk with e | e | e | e | e | e | e
    · exact .inl (h.sub k (.inl e))
    · exact .inl (h.sub k (.inr (.inl e)))
    · exact .inl (h.sub k (.inr (.inr (.inl e))))
    · exact .inl (h.sub k (.inr (.inr (.inr (.inl e)))))
    · exact .inl (h.sub k (.inr (.inr (.inr (.inr (.inl e))))))
    · exact .inl (h.sub k (.inr (.inr (.inr (.inr (.inr (.inl e)))))))
    · exact .inr (.inl e)
  · intro k hk
    rcases hk with e | e | ⟨h0, e⟩
    · exact Nat.lt_of_lt_of_le (h.lt k e) hC.size
    · have := (ho.base e).2; have := c2.size; omega
    · have := (hxo h0 k e).2.2; have := c2.size; omega
  · intro k hk
    refine ⟨(s3 k hk).1, (s3 k hk).2.1, (s3 k hk).2.2.1, (s3 k hk).2.2.2.1, (s3 k hk).2.2.2.2.1, fun e => ?_⟩
    rcases gvn k e with e | e
    · exact (s3 k hk).2.2.2.2.2 e
    · have := ucv k hk; omega
end

/-! ### what the functions answer -/
def notL (c : UInt8) : Bool := decide ((c.toNat : Int) < 97) || decide (122 < (c.toNat : Int))
def wordB (s : ByteArray) : Bool := !(decide (s = ⟨#[]⟩) || (decide (10 < (s.size : Int)) || s.data.toList.any notL))
def wordErr (s : ByteArray) : Option Int := if wordB s then none else some 2
def chkErr (ts : List Triple) (m : ByteArray) : Option Int := match setErr ts with
  | some e => some e
  | none => msgErr m
def fullB (r : Repo) (b : ByteArray) : Bool := !(getM r.heads b).isSome && decide (8 ≤ (r.heads.length : Int))
def hasB (r : Repo) (n : Int) : Bool := decide (0 ≤ n) && decide (n < (r.cs.length : Int))
def headR (r : Repo) (b : ByteArray) : Int × Option Int := if wordB b then ((getM r.heads b).getD 0, if (getM r.heads b).isSome then none else some 5) else (0, some 2)
def likeP (ps : List Int) (ts : List Triple) (m : ByteArray) (x : Commit × List Triple) : Bool := decide (x.1.msg = m) && (decide (x.1.parents = ps) && decide (x.2 = ts))
def baseR (r : Repo) (ps : List Int) : List Triple := match ps with
  | [] => []
  | p :: _ => (r.gs[p.toNat]?).getD []
def addR (code : List Triple → List Triple → ByteArray) (r : Repo) (ps : List Int) (ts : List Triple) (m : ByteArray) : Int × Option Int × Repo :=
  if 0 ≤ idxOf (likeP ps ts m) (r.cs.zip r.gs) then (idxOf (likeP ps ts m) (r.cs.zip r.gs), none, r)
  else if 60 ≤ (r.cs.length : Int) then (0, some 4, r)
  else if (putS r.st (code (partL ts (baseR r ps) false) (partL (baseR r ps) ts false))).2.1.isSome then (0, (putS r.st (code (partL ts (baseR r ps) false) (partL (baseR r ps) ts false))).2.1, r)
  else ((r.cs.length : Int), none, { r with st := (putS r.st (code (partL ts (baseR r ps) false) (partL (baseR r ps) ts false))).2.2, cs := r.cs ++ [⟨ps, (putS r.st (code (partL ts (baseR r ps) false) (partL (baseR r ps) ts false))).1, m⟩], gs := r.gs ++ [ts] })
def parR (r : Repo) (b : ByteArray) : List Int := match getM r.heads b with
  | some n => [n]
  | none => []
def comR (code : List Triple → List Triple → ByteArray) (r : Repo) (b : ByteArray) (ts : List Triple) (m : ByteArray) : Int × Option Int × Repo :=
  if (wordErr b).isSome then (0, wordErr b, r)
  else if (chkErr ts m).isSome then (0, chkErr ts m, r)
  else if fullB r b then (0, some 4, r)
  else if (addR code r (parR r b) ts m).2.1.isNone then ((addR code r (parR r b) ts m).1, none, { (addR code r (parR r b) ts m).2.2 with heads := putM (addR code r (parR r b) ts m).2.2.heads b (addR code r (parR r b) ts m).1 })
  else addR code r (parR r b) ts m
/-- A repo that is right. -/
structure Repo.Ok (r : Repo) : Prop where
  st : r.st.Ok
  last : r.st.last ≤ (r.cs.length : Int)
  same : r.cs.length = r.gs.length
  few : r.cs.length ≤ 60
  sets : ∀ g ∈ r.gs, IsSet g
  coms : ∀ (k : Nat) c, r.cs[k]? = some c → commitErr c (k : Int) = none
  keys : KeysM r.heads
  heads : ∀ b n, getM r.heads b = some n → 0 ≤ n ∧ n < (r.cs.length : Int)
  most : r.heads.length ≤ 8

theorem take_step {α : Type} {L : List α} {p : α → Bool} {k : Nat} {v : α} (h : ∀ z ∈ L.take k, p z = false) (hv : L[k]? = some v) (hp : p v = false) : ∀ z ∈ L.take (k + 1), p z = false := by
  rw [take_snoc hv]
  intro z hz
  rcases List.mem_append.1 hz with hz | hz
  · exact h z hz
  · rw [List.mem_singleton] at hz; subst hz; exact hp
theorem zip_get {α β : Type} {a : List α} {b : List β} {k : Nat} {x : α} {y : β} (h1 : a[k]? = some x) (h2 : b[k]? = some y) : (a.zip b)[k]? = some (x, y) := by
  rw [List.getElem?_zip_eq_some]; exact ⟨h1, h2⟩
theorem IsSet.nil : IsSet [] := ⟨by simp, by simp, List.Pairwise.nil⟩
theorem Repo.Ok.base {r : Repo} (h : r.Ok) (ps : List Int) : IsSet (baseR r ps) := by
  cases ps with
  | nil => exact IsSet.nil
  | cons p q =>
    show IsSet ((r.gs[p.toNat]?).getD [])
    cases hg : r.gs[p.toNat]? with
    | none => exact IsSet.nil
    | some g => exact h.sets g (List.mem_of_getElem? hg)
theorem part_apart (a b : List Triple) : partL (partL a b false) (partL b a false) true = [] := by
  apply List.eq_nil_iff_forall_not_mem.2
  intro t ht
  rw [mem_part, mem_part] at ht
  have h1 := ht.1.1
  have h2 := ht.1.2
  have h3 := ht.2
  rw [decide_eq_true_iff, mem_part] at h3
  have := h3.2
  rw [decide_eq_false_iff_not] at this
  exact this h1

/-! ### commits handed out -/
/-- The first k rows of a copy are copied, too; the rest are as they were. -/
structure RowsD (w : World) (cvv : Value) (ys rc : List RawC) (cs : List Commit) (k : Nat) : Prop where
  len : ys.length = rc.length
  old : ∀ (i : Nat) x, k ≤ i → ys[i]? = some x → rc[i]? = some x
  new : ∀ (i : Nat) x y, i < k → ys[i]? = some x → cs[i]? = some y → x.layer = y.layer ∧ x.msg = y.msg ∧ RInts w x.par.val y.parents ∧ (0 < y.parents.length → ∀ b, x.par.val.ownBlock = some b → cvv.ownBlock ≠ some b)
theorem RowsD.start (w : World) (cvv : Value) (rc : List RawC) (cs : List Commit) : RowsD w cvv rc rc cs 0 := ⟨rfl, fun i x _ h => h, fun i x y h => by omega⟩
theorem RowsD.chg {S : Nat → Prop} {w w' : World} {cvv : Value} {ys rc : List RawC} {cs : List Commit} {k : Nat} (h : RowsD w cvv ys rc cs k) (c : Chg S w w') (hs : ∀ b, S b → cvv.ownBlock = some b) : RowsD w' cvv ys rc cs k :=
  ⟨h.len, h.old, fun i x y hi hx hy => have q := h.new i x y hi hx hy; ⟨q.1, q.2.1, q.2.2.1.chg c fun h0 b hb hS => q.2.2.2 h0 b hb (hs b hS), q.2.2.2⟩⟩
theorem RowsD.ext {w w' : World} {cvv : Value} {ys rc : List RawC} {cs : List Commit} {k : Nat} (h : RowsD w cvv ys rc cs k) (c : Ext w w') : RowsD w' cvv ys rc cs k := h.chg c fun _ h => h.elim
theorem RowsD.step {w : World} {cvv : Value} {ys rc : List RawC} {cs : List Commit} {k : Nat} (h : RowsD w cvv ys rc cs k) {x : RawC} {y : Commit} (hk : k < ys.length) (hy : cs[k]? = some y) (h1 : x.layer = y.layer) (h2 : x.msg = y.msg) (h3 : RInts w x.par.val y.parents)
    (h4 : 0 < y.parents.length → ∀ b, x.par.val.ownBlock = some b → cvv.ownBlock ≠ some b) : RowsD w cvv (ys.set k x) rc cs (k + 1) := by
  refine ⟨by rw [List.length_set]; exact h.len, fun i z hi hz => ?_, fun i z u hi hz hu => ?_⟩
  · rw [List.getElem?_set_ne (by omega)] at hz
    exact h.old i z (by omega) hz
  · by_cases e : i = k
    · subst e
      rw [List.getElem?_set_self hk] at hz
      injection hz with hz; subst hz
      rw [hy] at hu; injection hu with hu; subst hu
      exact ⟨h1, h2, h3, h4⟩
    · rw [List.getElem?_set_ne (Ne.symm e)] at hz
      exact h.new i z u (by omega) hz hu
theorem RSl.raw {w : World} {v : Value} {ys rc : List RawC} {cs : List Commit} {cvv : Value} (h : RSl (REnc encRawC) 3 w v ys) (hr : RowsD w cvv ys rc cs ys.length) (hl : ys.length = cs.length) : RCommits w v cs := by
  obtain ⟨A, c, hv, h1, h2, h3⟩ := h
  refine ⟨A, c, by rw [← hl]; exact hv, by omega, h2, fun h0 => ?_⟩
  obtain ⟨b, o, hA, hc⟩ := h3 (by omega)
  refine ⟨b, o, hA, fun k y hy => ?_⟩
  have hk := lt_of_get hy
  obtain ⟨x, hx⟩ := get_of_lt (xs := ys) (k := k) (by omega)
  obtain ⟨cs', g1, g2, g3⟩ := hc k x hx
  replace g3 : cs' = encRawC x := g3
  subst g3
  have q := hr.new k x y (by omega) hx hy
  exact ⟨_, g1, g2, x.par.val, by rw [encRawC, q.1, q.2.1], q.2.2.1⟩
theorem splice_head {cs : List Value} {o : Nat} {v a b : Value} (h1 : cs[o + 1]? = some a) (h2 : cs[o + 2]? = some b) : splice cs o [v] = splice cs o [v, a, b] := by
  have hl := lt_of_get h2
  rw [splice_eq (by simp; omega), splice_eq (by simp; omega)]
  simp only [List.length_cons, List.length_nil, Nat.zero_add]
  rw [drop_at h1, drop_at h2]
  simp
end Go.Proofs.Ytjgcmpondbocfaa

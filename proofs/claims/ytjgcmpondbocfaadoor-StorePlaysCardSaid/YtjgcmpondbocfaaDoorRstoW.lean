/- What the reference of a store comes to: each function walked once, against the same plain store as the program. Under the reading of its arguments. -/
import Derived.Test.YtjgcmpondbocfaaDoorProg
import Derived.Test.YtjgcmpondbocfaaDoorIdsW
import Derived.Test.YtjgcmpondbocfaaDoorStoreRef
namespace Go.Proofs.YtjgcmpondbocfaaDoor
open Go.RowKit 
theorem ent22 : Ent Tryd.prog 22 := Ent.of Tryd.func22 (by kernel_rfl) rfl
theorem ent24 : Ent Tryd.prog 24 := Ent.of Tryd.func24 (by kernel_rfl) rfl
theorem places60 : ∀ fs, Tryd.prog.underlying 60 = some (.struct fs) → Places Tryd.prog fs [(0, 1), (1, 1)] := by
  intro fs h
  rw [Tryd.underlying60] at h
  cases h
  intro w
  simp [go_sem, Tryd.sizeOf3, Tryd.sizeOf9]
theorem info60 : (Tryd.prog.info? 60).map (fun i => (i.zero, i.size, i.bytes)) = some (some (.agg #[.int .i64 0, .string ⟨#[]⟩]), 2, 24) := by kernel_rfl
theorem rFind_ret {s : Sto} {m base : Nat} {v : Value} {b : ByteArray} (hok : s.Ok) (w0 : World) (h : RefB 48 60 w0 m base s.last v s.all) : Ret Tryd.prog 24 [.pointer (some ⟨m, 0, none⟩), .string b] w0 fun r w' => r = .int .i64 ((getM s.ids b).getD 0) ∧ w' = w0 := by
  obtain ⟨A, c, rfl, hc1, hc2⟩ := h.own.form
  refine St.enter (N := 33) Tryd.func24 rfl Tryd.ntmps24 rfl ?_
  refine St.seq fun K0 hK0 => ?_
  refine St.region ?_
  refine St.r (R.assign rfl) rfl rfl ?_
  refine St.nil ?_
  refine St.weak [(0, _), (1, _)] ⟨rfl, rfl, trivial⟩ ?_
  refine St.then_n ?_
  refine St.go hK0 ?_
  clear hK0
  refine St.seq fun K1 hK1 => ?_
  refine St.seq fun K2 hK2 => ?_
  refine St.region ?_
  refine St.r (R.assign rfl) rfl rfl ?_
  refine St.nil ?_
  refine St.weak [(0, _), (1, _), (5, _)] ⟨rfl, rfl, rfl, trivial⟩ ?_
  refine St.then_n ?_
  refine St.go hK2 ?_
  clear hK2
  refine St.block ?_
  refine St.loop (fun (k : Nat) => [(0, .pointer (some ⟨m, 0, none⟩)), (1, .string b), (5, .int .i64 (k : Int))])
      (fun (k : Nat) w => k ≤ s.all.length ∧ w = w0 ∧ ∀ p ∈ s.all.take k, ¬ p.2 = b)
      (fun (k : Nat) => s.all.length - k) 0 ⟨rfl, rfl, rfl, trivial⟩ ?_ ?_
  · exact ⟨Nat.zero_le _, rfl, by simp⟩
  rintro k w ⟨hk, rfl, hall⟩
  show St _ _ [(0, .pointer (some ⟨m, 0, none⟩)), (1, .string b), (5, .int .i64 (k : Int))] _ _
  refine St.seq fun K3 hK3 => ?_
  refine St.seq fun K4 hK4 => ?_
  refine St.region ?_
  refine St.r (R.move rfl) rfl rfl ?_
  refine St.r (R.move rfl) rfl rfl ?_
  refine St.r (R.nilOk rfl) rfl rfl ?_
  refine St.r (R.fieldA Tryd.underlying48 rfl Tryd.sizeOf46 rfl rfl rfl) rfl rfl ?_
  refine St.r (R.load1 Tryd.isAgg46 rfl (h.blk.cells.at 1 rfl)) rfl rfl ?_
  refine St.r (R.lenSl Tryd.underlying46 rfl) rfl rfl ?_
  refine St.r (R.lss rfl rfl) rfl rfl ?_
  refine St.nil ?_
  refine St.weak [(0, _), (1, _), (5, _), (12, _)] ⟨rfl, rfl, rfl, rfl, trivial⟩ ?_
  refine St.then_n ?_
  refine St.go hK4 ?_
  clear hK4
  refine St.condD rfl (fun h12 => ?_) (fun h12 => ?_)
  ·
    obtain ⟨x, hx⟩ := get_of_lt (xs := s.all) (k := k) (by omega)
    obtain ⟨xb, xo, rfl, hxc⟩ := (h.own.reads encObj_len).get' hx
    refine St.skip ?_
    refine St.then_n ?_
    refine St.go hK3 ?_
    clear hK3
    refine St.seq fun K5 hK5 => ?_
    refine St.block ?_
    refine St.seq fun K6 hK6 => ?_
    refine St.region ?_
    refine St.r (R.move rfl) rfl rfl ?_
    refine St.r (R.nilOk rfl) rfl rfl ?_
    refine St.r (R.fieldA Tryd.underlying48 rfl Tryd.sizeOf46 rfl rfl rfl) rfl rfl ?_
    refine St.r (R.load1 Tryd.isAgg46 rfl (h.blk.cells.at 1 rfl)) rfl rfl ?_
    refine St.r (R.move rfl) rfl rfl ?_
    refine St.r (R.indexS k Tryd.underlying46 Tryd.sizeOf60 rfl rfl rfl (by omega)) rfl rfl ?_
    refine St.r (R.fieldA Tryd.underlying60 rfl Tryd.sizeOf9 rfl rfl rfl) rfl rfl ?_
    refine St.r (R.load1 Tryd.isAgg9 rfl (hxc.at 1 rfl)) rfl rfl ?_
    refine St.r (R.move rfl) rfl rfl ?_
    refine St.r (R.eqS rfl rfl) rfl rfl ?_
    refine St.nil ?_
    refine St.weak [(0, _), (1, _), (5, _), (24, _)] ⟨rfl, rfl, rfl, rfl, trivial⟩ ?_
    refine St.then_n ?_
    refine St.go hK6 ?_
    clear hK6
    refine St.condD rfl (fun h24 => ?_) (fun h24 => ?_)
    ·
      refine St.seq fun K7 hK7 => ?_
      refine St.region ?_
      refine St.r (R.move rfl) rfl rfl ?_
      refine St.r (R.nilOk rfl) rfl rfl ?_
      refine St.r (R.fieldA Tryd.underlying48 rfl Tryd.sizeOf46 rfl rfl rfl) rfl rfl ?_
      refine St.r (R.load1 Tryd.isAgg46 rfl (h.blk.cells.at 1 rfl)) rfl rfl ?_
      refine St.r (R.move rfl) rfl rfl ?_
      refine St.r (R.indexS k Tryd.underlying46 Tryd.sizeOf60 rfl rfl rfl (by omega)) rfl rfl ?_
      refine St.r (R.fieldA Tryd.underlying60 rfl Tryd.sizeOf3 rfl rfl rfl) rfl rfl ?_
      refine St.r (R.load1 Tryd.isAgg3 rfl (hxc.at 0 rfl)) rfl rfl ?_
      refine St.r (R.assign rfl) rfl rfl ?_
      refine St.nil ?_
      refine St.weak [(4, _)] ⟨rfl, trivial⟩ ?_
      refine St.then_n ?_
      refine St.go hK7 ?_
      clear hK7
      refine St.ret ?_
      refine St.in_r ?_
      refine St.then_r ?_
      refine St.then_r ?_
      refine St.in_r ?_
      refine St.then_r ?_
      refine St.ret1 Tryd.results24 rfl ?_
      exact ⟨_, rfl, by rw [← h24, find_at hok hx]; rfl, rfl⟩
    ·
      refine St.skip ?_
      refine St.in_n ?_
      refine St.then_n ?_
      refine St.go hK5 ?_
      clear hK5
      refine St.region ?_
      refine St.r (R.move rfl) rfl rfl ?_
      refine St.r (R.add rfl rfl (by omega) (by omega)) rfl rfl ?_
      refine St.r (R.assign rfl) rfl rfl ?_
      refine St.nil ?_
      refine St.weak [(0, _), (1, _), (5, _)] ⟨rfl, rfl, rfl, trivial⟩ ?_
      refine St.then_n ?_
      refine St.round (k + 1) ⟨rfl, rfl, rfl, trivial⟩ ?_ ?_
      · refine ⟨by omega, rfl, ?_⟩
        rw [take_snoc hx]
        intro p hp
        rcases List.mem_append.1 hp with hp | hp
        · exact hall p hp
        · rw [List.mem_singleton] at hp; subst hp; exact h24
      · omega
  ·
    refine St.exit ?_
    refine St.then_x ?_
    refine St.then_x ?_
    refine St.in_x ?_
    refine St.then_n ?_
    refine St.go hK1 ?_
    clear hK1
    refine St.seq fun K8 hK8 => ?_
    refine St.region ?_
    refine St.r (R.assign rfl) rfl rfl ?_
    refine St.nil ?_
    refine St.weak [(4, _)] ⟨rfl, trivial⟩ ?_
    refine St.then_n ?_
    refine St.go hK8 ?_
    clear hK8
    refine St.ret ?_
    refine St.ret1 Tryd.results24 rfl ?_
    exact ⟨_, rfl, by rw [find_none hok (fun p hp => hall p (by rw [List.take_of_length_le (by omega)]; exact hp))]; rfl, rfl⟩

theorem rGet_ret {s : Sto} {m base : Nat} {v : Value} {n : Int} (hok : s.Ok) (w0 : World) (h : RefB 48 60 w0 m base s.last v s.all) : Ret Tryd.prog 22 [.pointer (some ⟨m, 0, none⟩), .int .i64 n] w0 fun r w' => r = .tuple #[.string ((getM s.all n).getD ⟨#[]⟩), .int .i64 (if (getM s.all n).isSome then 0 else 5)] ∧ w' = w0 := by
  obtain ⟨A, c, rfl, hc1, hc2⟩ := h.own.form
  refine St.enter (N := 34) Tryd.func22 rfl Tryd.ntmps22 rfl ?_
  refine St.seq fun K0 hK0 => ?_
  refine St.region ?_
  refine St.r (R.assign rfl) rfl rfl ?_
  refine St.r (R.assign rfl) rfl rfl ?_
  refine St.nil ?_
  refine St.weak [(0, _), (1, _)] ⟨rfl, rfl, trivial⟩ ?_
  refine St.then_n ?_
  refine St.go hK0 ?_
  clear hK0
  refine St.seq fun K1 hK1 => ?_
  refine St.seq fun K2 hK2 => ?_
  refine St.region ?_
  refine St.r (R.assign rfl) rfl rfl ?_
  refine St.nil ?_
  refine St.weak [(0, _), (1, _), (6, _)] ⟨rfl, rfl, rfl, trivial⟩ ?_
  refine St.then_n ?_
  refine St.go hK2 ?_
  clear hK2
  refine St.block ?_
  refine St.loop (fun (k : Nat) => [(0, .pointer (some ⟨m, 0, none⟩)), (1, .int .i64 n), (6, .int .i64 (k : Int))])
      (fun (k : Nat) w => k ≤ s.all.length ∧ w = w0 ∧ ∀ p ∈ s.all.take k, ¬ p.1 = n)
      (fun (k : Nat) => s.all.length - k) 0 ⟨rfl, rfl, rfl, trivial⟩ ?_ ?_
  · exact ⟨Nat.zero_le _, rfl, by simp⟩
  rintro k w ⟨hk, rfl, hall⟩
  show St _ _ [(0, .pointer (some ⟨m, 0, none⟩)), (1, .int .i64 n), (6, .int .i64 (k : Int))] _ _
  refine St.seq fun K3 hK3 => ?_
  refine St.seq fun K4 hK4 => ?_
  refine St.region ?_
  refine St.r (R.move rfl) rfl rfl ?_
  refine St.r (R.move rfl) rfl rfl ?_
  refine St.r (R.nilOk rfl) rfl rfl ?_
  refine St.r (R.fieldA Tryd.underlying48 rfl Tryd.sizeOf46 rfl rfl rfl) rfl rfl ?_
  refine St.r (R.load1 Tryd.isAgg46 rfl (h.blk.cells.at 1 rfl)) rfl rfl ?_
  refine St.r (R.lenSl Tryd.underlying46 rfl) rfl rfl ?_
  refine St.r (R.lss rfl rfl) rfl rfl ?_
  refine St.nil ?_
  refine St.weak [(0, _), (1, _), (6, _), (13, _)] ⟨rfl, rfl, rfl, rfl, trivial⟩ ?_
  refine St.then_n ?_
  refine St.go hK4 ?_
  clear hK4
  refine St.condD rfl (fun h13 => ?_) (fun h13 => ?_)
  ·
    obtain ⟨x, hx⟩ := get_of_lt (xs := s.all) (k := k) (by omega)
    obtain ⟨xb, xo, rfl, hxc⟩ := (h.own.reads encObj_len).get' hx
    refine St.skip ?_
    refine St.then_n ?_
    refine St.go hK3 ?_
    clear hK3
    refine St.seq fun K5 hK5 => ?_
    refine St.block ?_
    refine St.seq fun K6 hK6 => ?_
    refine St.region ?_
    refine St.r (R.move rfl) rfl rfl ?_
    refine St.r (R.nilOk rfl) rfl rfl ?_
    refine St.r (R.fieldA Tryd.underlying48 rfl Tryd.sizeOf46 rfl rfl rfl) rfl rfl ?_
    refine St.r (R.load1 Tryd.isAgg46 rfl (h.blk.cells.at 1 rfl)) rfl rfl ?_
    refine St.r (R.move rfl) rfl rfl ?_
    refine St.r (R.indexS k Tryd.underlying46 Tryd.sizeOf60 rfl rfl rfl (by omega)) rfl rfl ?_
    refine St.r (R.fieldA Tryd.underlying60 rfl Tryd.sizeOf3 rfl rfl rfl) rfl rfl ?_
    refine St.r (R.load1 Tryd.isAgg3 rfl (hxc.at 0 rfl)) rfl rfl ?_
    refine St.r (R.move rfl) rfl rfl ?_
    refine St.r (R.eql rfl rfl) rfl rfl ?_
    refine St.nil ?_
    refine St.weak [(0, _), (1, _), (6, _), (25, _)] ⟨rfl, rfl, rfl, rfl, trivial⟩ ?_
    refine St.then_n ?_
    refine St.go hK6 ?_
    clear hK6
    refine St.condD rfl (fun h25 => ?_) (fun h25 => ?_)
    ·
      have hg : getM s.all n = some x.2 := by rw [← h25]; exact getM_at hok.allKeys hx
      refine St.seq fun K7 hK7 => ?_
      refine St.region ?_
      refine St.r (R.move rfl) rfl rfl ?_
      refine St.r (R.nilOk rfl) rfl rfl ?_
      refine St.r (R.fieldA Tryd.underlying48 rfl Tryd.sizeOf46 rfl rfl rfl) rfl rfl ?_
      refine St.r (R.load1 Tryd.isAgg46 rfl (h.blk.cells.at 1 rfl)) rfl rfl ?_
      refine St.r (R.move rfl) rfl rfl ?_
      refine St.r (R.indexS k Tryd.underlying46 Tryd.sizeOf60 rfl rfl rfl (by omega)) rfl rfl ?_
      refine St.r (R.fieldA Tryd.underlying60 rfl Tryd.sizeOf9 rfl rfl rfl) rfl rfl ?_
      refine St.r (R.load1 Tryd.isAgg9 rfl (hxc.at 1 rfl)) rfl rfl ?_
      refine St.r (R.assign rfl) rfl rfl ?_
      refine St.r (R.assign rfl) rfl rfl ?_
      refine St.nil ?_
      refine St.weak [(4, _), (5, _)] ⟨rfl, rfl, trivial⟩ ?_
      refine St.then_n ?_
      refine St.go hK7 ?_
      clear hK7
      refine St.ret ?_
      refine St.in_r ?_
      refine St.then_r ?_
      refine St.then_r ?_
      refine St.in_r ?_
      refine St.then_r ?_
      refine St.ret2 Tryd.results22 rfl rfl ?_
      exact ⟨_, rfl, by rw [hg]; rfl, rfl⟩
    ·
      refine St.skip ?_
      refine St.in_n ?_
      refine St.then_n ?_
      refine St.go hK5 ?_
      clear hK5
      refine St.region ?_
      refine St.r (R.move rfl) rfl rfl ?_
      refine St.r (R.add rfl rfl (by omega) (by omega)) rfl rfl ?_
      refine St.r (R.assign rfl) rfl rfl ?_
      refine St.nil ?_
      refine St.weak [(0, _), (1, _), (6, _)] ⟨rfl, rfl, rfl, trivial⟩ ?_
      refine St.then_n ?_
      refine St.round (k + 1) ⟨rfl, rfl, rfl, trivial⟩ ?_ ?_
      · refine ⟨by omega, rfl, ?_⟩
        rw [take_snoc hx]
        intro p hp
        rcases List.mem_append.1 hp with hp | hp
        · exact hall p hp
        · rw [List.mem_singleton] at hp; subst hp; exact h25
      · omega
  ·
    refine St.exit ?_
    refine St.then_x ?_
    refine St.then_x ?_
    refine St.in_x ?_
    refine St.then_n ?_
    refine St.go hK1 ?_
    clear hK1
    refine St.seq fun K8 hK8 => ?_
    refine St.region ?_
    refine St.r (R.assign rfl) rfl rfl ?_
    refine St.r (R.assign rfl) rfl rfl ?_
    refine St.nil ?_
    refine St.weak [(4, _), (5, _)] ⟨rfl, rfl, trivial⟩ ?_
    refine St.then_n ?_
    refine St.go hK8 ?_
    clear hK8
    refine St.ret ?_
    refine St.ret2 Tryd.results22 rfl rfl ?_
    exact ⟨_, rfl, by rw [all_none (fun p hp => hall p (by rw [List.take_of_length_le (by omega)]; exact hp))]; rfl, rfl⟩

theorem rPut_ret {s : Sto} {m base : Nat} {v : Value} {b : ByteArray} (hok : s.Ok) (hl : s.last < 1000000) (hb : b.size ≤ 9223372036854000000) (w0 : World) (hbase : base ≤ w0.heap.size) (h : RefB 48 60 w0 m base s.last v s.all) :
    Ret Tryd.prog 18 [.pointer (some ⟨m, 0, none⟩), .string b] w0 fun r w' => r = .tuple #[.int .i64 (putS s b).1, .int .i64 ((putS s b).2.1.getD 0)] ∧ (∃ v', (∀ k, v'.ownBlock = some k → v.ownBlock = some k ∨ w0.heap.size ≤ k) ∧ RefB 48 60 w' m base (putS s b).2.2.last v' (putS s b).2.2.all) ∧ Chg (fun k => k = m ∨ v.ownBlock = some k) w0 w' := by
  obtain ⟨A, c, rfl, hc1, hc2⟩ := h.own.form
  refine St.enter (N := 73) Tryd.func18 rfl Tryd.ntmps18 rfl ?_
  refine St.seq fun K0 hK0 => ?_
  refine St.region ?_
  refine St.r (R.assign rfl) rfl rfl ?_
  refine St.r (R.assign rfl) rfl rfl ?_
  refine St.nil ?_
  refine St.weak [(0, _), (1, _)] ⟨rfl, rfl, trivial⟩ ?_
  refine St.then_n ?_
  refine St.go hK0 ?_
  clear hK0
  refine St.seq fun K1 hK1 => ?_
  refine St.region ?_
  refine St.r (R.move rfl) rfl rfl ?_
  refine St.r (R.move rfl) rfl rfl ?_
  refine St.call rfl rfl ent24 (rFind_ret hok _ h) rfl ?_
  rintro r11 w11 ⟨rfl, hw11⟩
  subst w11
  refine St.r (R.assign rfl) rfl rfl ?_
  refine St.nil ?_
  refine St.weak [(0, _), (1, _), (6, _)] ⟨rfl, rfl, rfl, trivial⟩ ?_
  refine St.then_n ?_
  refine St.go hK1 ?_
  clear hK1
  refine St.seq fun K2 hK2 => ?_
  refine St.seq fun K3 hK3 => ?_
  refine St.region ?_
  refine St.r (R.move rfl) rfl rfl ?_
  refine St.r (R.gtr rfl rfl) rfl rfl ?_
  refine St.nil ?_
  refine St.weak [(0, _), (1, _), (6, _), (13, _)] ⟨rfl, rfl, rfl, rfl, trivial⟩ ?_
  refine St.then_n ?_
  refine St.go hK3 ?_
  clear hK3
  refine St.condD rfl (fun h13 => ?_) (fun h13 => ?_)
  ·
    obtain ⟨n, hn⟩ : ∃ n, getM s.ids b = some n := by cases hc : getM s.ids b <;> simp [hc] at h13 ⊢
    have hp := put_there hok hn
    refine St.seq fun K4 hK4 => ?_
    refine St.region ?_
    refine St.r (R.move rfl) rfl rfl ?_
    refine St.r (R.assign rfl) rfl rfl ?_
    refine St.r (R.assign rfl) rfl rfl ?_
    refine St.nil ?_
    refine St.weak [(4, _), (5, _)] ⟨rfl, rfl, trivial⟩ ?_
    refine St.then_n ?_
    refine St.go hK4 ?_
    clear hK4
    refine St.ret ?_
    refine St.then_r ?_
    refine St.ret2 Tryd.results18 rfl rfl ?_
    exact ⟨_, rfl, by rw [hp, hn]; rfl, ⟨_, fun k hk => .inl hk, by rw [hp]; exact h⟩, Chg.refl _ _⟩
  ·
    have hn : getM s.ids b = none := by
      cases hc : getM s.ids b with
      | none => rfl
      | some n => rw [hc, Option.getD_some] at h13; have := (hok.pos hc).1; omega
    refine St.skip ?_
    refine St.then_n ?_
    refine St.go hK2 ?_
    clear hK2
    refine St.seq fun K5 hK5 => ?_
    refine St.region ?_
    refine St.r (R.move rfl) rfl rfl ?_
    refine St.r (R.lenStr Tryd.underlying9 rfl) rfl rfl ?_
    refine St.r (R.assign rfl) rfl rfl ?_
    refine St.nil ?_
    refine St.weak [(0, _), (1, _), (7, _)] ⟨rfl, rfl, rfl, trivial⟩ ?_
    refine St.then_n ?_
    refine St.go hK5 ?_
    clear hK5
    refine St.seq fun K6 hK6 => ?_
    refine St.seq fun K7 hK7 => ?_
    refine St.region ?_
    refine St.r (R.assign rfl) rfl rfl ?_
    refine St.nil ?_
    refine St.weak [(0, _), (1, _), (7, _), (8, _)] ⟨rfl, rfl, rfl, rfl, trivial⟩ ?_
    refine St.then_n ?_
    refine St.go hK7 ?_
    clear hK7
    refine St.block ?_
    refine St.loop (fun (k : Nat) => [(0, .pointer (some ⟨m, 0, none⟩)), (1, .string b), (7, .int .i64 ((b.size : Int) + sumL (s.all.take k))), (8, .int .i64 (k : Int))])
        (fun (k : Nat) w => k ≤ s.all.length ∧ w = w0)
        (fun (k : Nat) => s.all.length - k) 0 ⟨rfl, rfl, (look_int rfl (by simp [sumL])), rfl, trivial⟩ ?_ ?_
    · exact ⟨Nat.zero_le _, rfl⟩
    rintro k w ⟨hk, hw⟩
    show St _ _ [(0, .pointer (some ⟨m, 0, none⟩)), (1, .string b), (7, .int .i64 ((b.size : Int) + sumL (s.all.take k))), (8, .int .i64 (k : Int))] _ _
    subst w
    refine St.seq fun K8 hK8 => ?_
    refine St.seq fun K9 hK9 => ?_
    refine St.region ?_
    refine St.r (R.move rfl) rfl rfl ?_
    refine St.r (R.move rfl) rfl rfl ?_
    refine St.r (R.nilOk rfl) rfl rfl ?_
    refine St.r (R.fieldA Tryd.underlying48 rfl Tryd.sizeOf46 rfl rfl rfl) rfl rfl ?_
    refine St.r (R.load1 Tryd.isAgg46 rfl (h.blk.cells.at 1 rfl)) rfl rfl ?_
    refine St.r (R.lenSl Tryd.underlying46 rfl) rfl rfl ?_
    refine St.r (R.lss rfl rfl) rfl rfl ?_
    refine St.nil ?_
    refine St.weak [(0, _), (1, _), (7, _), (8, _), (23, _)] ⟨rfl, rfl, rfl, rfl, rfl, trivial⟩ ?_
    refine St.then_n ?_
    refine St.go hK9 ?_
    clear hK9
    refine St.condD rfl (fun h23 => ?_) (fun h23 => ?_)
    ·
      obtain ⟨x, hx⟩ := get_of_lt (xs := s.all) (k := k) (by omega)
      obtain ⟨xb, xo, rfl, hxc⟩ := (h.own.reads encObj_len).get' hx
      have hs1 := sum_take_le s.all k
      have hs2 := sumL_nonneg (s.all.take k)
      have hs3 := hok.bytes
      have hs4 := hok.sum
      have hs5 := size_le_sum (n := x.1) (t := x.2) (List.mem_of_getElem? hx)
      refine St.skip ?_
      refine St.then_n ?_
      refine St.go hK8 ?_
      clear hK8
      refine St.seq fun K10 hK10 => ?_
      refine St.block ?_
      refine St.region ?_
      refine St.r (R.move rfl) rfl rfl ?_
      refine St.r (R.move rfl) rfl rfl ?_
      refine St.r (R.nilOk rfl) rfl rfl ?_
      refine St.r (R.fieldA Tryd.underlying48 rfl Tryd.sizeOf46 rfl rfl rfl) rfl rfl ?_
      refine St.r (R.load1 Tryd.isAgg46 rfl (h.blk.cells.at 1 rfl)) rfl rfl ?_
      refine St.r (R.move rfl) rfl rfl ?_
      refine St.r (R.indexS k Tryd.underlying46 Tryd.sizeOf60 rfl rfl rfl (by omega)) rfl rfl ?_
      refine St.r (R.fieldA Tryd.underlying60 rfl Tryd.sizeOf9 rfl rfl rfl) rfl rfl ?_
      refine St.r (R.load1 Tryd.isAgg9 rfl (hxc.at 1 rfl)) rfl rfl ?_
      refine St.r (R.lenStr Tryd.underlying9 rfl) rfl rfl ?_
      refine St.r (R.add rfl rfl (by omega) (by omega)) rfl rfl ?_
      refine St.r (R.assign rfl) rfl rfl ?_
      refine St.nil ?_
      refine St.weak [(0, _), (1, _), (7, _), (8, _)] ⟨rfl, rfl, rfl, rfl, trivial⟩ ?_
      refine St.in_n ?_
      refine St.then_n ?_
      refine St.go hK10 ?_
      clear hK10
      refine St.region ?_
      refine St.r (R.move rfl) rfl rfl ?_
      refine St.r (R.add rfl rfl (by omega) (by omega)) rfl rfl ?_
      refine St.r (R.assign rfl) rfl rfl ?_
      refine St.nil ?_
      refine St.weak [(0, _), (1, _), (7, _), (8, _)] ⟨rfl, rfl, rfl, rfl, trivial⟩ ?_
      refine St.then_n ?_
      refine St.round (k + 1) ⟨rfl, rfl, (look_int rfl (by rw [sum_take hx]; omega)), rfl, trivial⟩ ?_ ?_
      · exact ⟨by omega, rfl⟩
      · omega
    ·
      have hkk : s.all.take k = s.all := List.take_of_length_le (by omega)
      have h60 := hok.few
      refine St.exit ?_
      refine St.then_x ?_
      refine St.then_x ?_
      refine St.in_x ?_
      refine St.then_n ?_
      refine St.go hK6 ?_
      clear hK6
      refine St.seq fun K11 hK11 => ?_
      refine St.seq fun K12 hK12 => ?_
      by_cases h42 : 300 ≤ (s.all.length : Int)
      ·
        refine St.region ?_
        refine St.r (R.move rfl) rfl rfl ?_
        refine St.r (R.nilOk rfl) rfl rfl ?_
        refine St.r (R.fieldA Tryd.underlying48 rfl Tryd.sizeOf46 rfl rfl rfl) rfl rfl ?_
        refine St.r (R.load1 Tryd.isAgg46 rfl (h.blk.cells.at 1 rfl)) rfl rfl ?_
        refine St.r (R.lenSl Tryd.underlying46 rfl) rfl rfl ?_
        refine St.r (Runs.lit (c := true) (R.geq rfl rfl) (decide_eq_true h42)) rfl rfl ?_
        refine St.r (R.move rfl) rfl rfl ?_
        refine St.pass (dg := 43) rfl rfl rfl rfl rfl ?_
        refine St.pass (dg := 43) rfl rfl rfl rfl rfl ?_
        refine St.r (R.pickT rfl rfl) rfl rfl ?_
        refine St.nil ?_
        refine St.weak [(0, _), (1, _), (46, _)] ⟨rfl, rfl, rfl, trivial⟩ ?_
        refine St.then_n ?_
        refine St.go hK12 ?_
        clear hK12
        refine St.condT rfl ?_
        refine St.seq fun K13 hK13 => ?_
        refine St.region ?_
        refine St.r (R.assign rfl) rfl rfl ?_
        refine St.r (R.assign rfl) rfl rfl ?_
        refine St.nil ?_
        refine St.weak [(4, _), (5, _)] ⟨rfl, rfl, trivial⟩ ?_
        refine St.then_n ?_
        refine St.go hK13 ?_
        clear hK13
        refine St.ret ?_
        refine St.then_r ?_
        refine St.ret2 Tryd.results18 rfl rfl ?_
        have hp := put_full hok hn (.inl h42)
        exact ⟨_, rfl, by rw [hp]; rfl, ⟨_, fun k hk => .inl hk, by rw [hp]; exact h⟩, Chg.refl _ _⟩
      ·
        refine St.region ?_
        refine St.r (R.move rfl) rfl rfl ?_
        refine St.r (R.nilOk rfl) rfl rfl ?_
        refine St.r (R.fieldA Tryd.underlying48 rfl Tryd.sizeOf46 rfl rfl rfl) rfl rfl ?_
        refine St.r (R.load1 Tryd.isAgg46 rfl (h.blk.cells.at 1 rfl)) rfl rfl ?_
        refine St.r (R.lenSl Tryd.underlying46 rfl) rfl rfl ?_
        refine St.r (Runs.lit (c := false) (R.geq rfl rfl) (decide_eq_false h42)) rfl rfl ?_
        refine St.r (R.move rfl) rfl rfl ?_
        refine St.take (dg := 43) rfl rfl ?_ rfl
        refine St.r (R.move rfl) rfl rfl ?_
        refine St.take (dg := 43) rfl rfl ?_ rfl
        refine St.r (R.gtr rfl rfl) rfl rfl ?_
        refine St.r (R.pickF rfl rfl) rfl rfl ?_
        refine St.nil ?_
        refine St.weak [(0, _), (1, _), (46, _)] ⟨rfl, rfl, rfl, trivial⟩ ?_
        refine St.then_n ?_
        refine St.go hK12 ?_
        clear hK12
        refine St.condD rfl (fun h45 => ?_) (fun h45 => ?_)
        ·
          refine St.seq fun K14 hK14 => ?_
          refine St.region ?_
          refine St.r (R.assign rfl) rfl rfl ?_
          refine St.r (R.assign rfl) rfl rfl ?_
          refine St.nil ?_
          refine St.weak [(4, _), (5, _)] ⟨rfl, rfl, trivial⟩ ?_
          refine St.then_n ?_
          refine St.go hK14 ?_
          clear hK14
          refine St.ret ?_
          refine St.then_r ?_
          refine St.ret2 Tryd.results18 rfl rfl ?_
          rw [hkk] at h45
          have hp := put_full hok hn (.inr h45)
          exact ⟨_, rfl, by rw [hp]; rfl, ⟨_, fun k hk => .inl hk, by rw [hp]; exact h⟩, Chg.refl _ _⟩
        ·
          rw [hkk] at h45
          have hp := put_room hok hn h42 h45
          obtain ⟨kb, oo, hlow⟩ := h
          have C := Chg.refl (fun k => k = m ∨ (Value.slice A s.all.length c).ownBlock = some k) w0
          have ho1 := fun k hk => (oo.base (k := k) hk)
          have zE : base ≤ w0.heap.size := hbase
          have hl0 := hok.last
          refine St.skip ?_
          refine St.then_n ?_
          refine St.go hK11 ?_
          clear hK11
          refine St.seq fun K15 hK15 => ?_
          refine St.region ?_
          refine St.r (R.move rfl) rfl rfl ?_
          refine St.r (R.nilOk rfl) rfl rfl ?_
          refine St.r (R.fieldA Tryd.underlying48 rfl Tryd.sizeOf3 rfl rfl rfl) rfl rfl ?_
          refine St.r (R.load1 Tryd.isAgg3 rfl (kb.cells.at 0 rfl)) rfl rfl ?_
          refine St.r (R.add rfl rfl (by omega) (by omega)) rfl rfl ?_
          refine St.r (R.nilOk rfl) rfl rfl ?_
          refine St.r (R.fieldA Tryd.underlying48 rfl Tryd.sizeOf3 rfl rfl rfl) rfl rfl ?_
          refine St.store Tryd.sizeOf3 rfl rfl kb rfl (by simp [Value.cells]) (by simp [Value.cells, Value.oneCell']) ?_
          intro ws0 ks0 gs0 zs0
          replace oo := oo.chg gs0 (by intro k hk h; have := (oo.base hk).1; omega)
          clear kb; have kb := ks0; clear ks0
          replace C := C.then gs0 (fun _ _ h => .inl h)
          replace kb : Blk ws0 m 48 [.int .i64 (s.last + 1), .slice A s.all.length c] := kb
          replace zE : base ≤ ws0.heap.size := by omega
          refine St.nil ?_
          refine St.weak [(0, _), (1, _)] ⟨rfl, rfl, trivial⟩ ?_
          refine St.then_n ?_
          refine St.go hK15 ?_
          clear hK15
          refine St.seq fun K16 hK16 => ?_
          refine St.weak [(0, _), (1, _)] ⟨rfl, rfl, trivial⟩ ?_
          refine St.drawT (S := fun k => k = m ∨ (Value.slice A s.all.length c).ownBlock = some k) (eff := [11, 12, 15]) mixed rfl rfl rfl rfl ?_
          replace kb := kb.ext (Ext.drew _)
          replace oo := oo.ext (Ext.drew _)
          replace C := C.then (Ext.drew _) (fun _ _ h => h.elim)
          refine DrawT.quiet 0 rfl rfl (fun W eW => OpOk.r (R.move rfl) rfl) ?_
          refine DrawT.quiet 1 rfl rfl (fun W eW => OpOk.r (R.move rfl) rfl) ?_
          refine DrawT.quiet 2 rfl rfl (fun W eW => OpOk.r (R.nilOk rfl) rfl) ?_
          refine DrawT.quiet 3 rfl rfl (fun W eW => OpOk.r (R.fieldA Tryd.underlying48 rfl Tryd.sizeOf46 rfl rfl rfl) rfl) ?_
          have hp58 := (kb.cells.at 1 rfl)
          refine DrawT.pinL 4 rfl rfl Tryd.isAgg46 rfl hp58 ?_
          refine DrawT.quiet 5 rfl rfl (fun W eW => OpOk.r (R.move rfl) rfl) ?_
          refine DrawT.quiet 6 rfl rfl (fun W eW => OpOk.r (R.nilOk rfl) rfl) ?_
          refine DrawT.quiet 7 rfl rfl (fun W eW => OpOk.r (R.fieldA Tryd.underlying48 rfl Tryd.sizeOf3 rfl rfl rfl) rfl) ?_
          have hp62 := ((kb.cells.at 0 rfl))
          refine DrawT.pinL 8 rfl rfl Tryd.isAgg3 rfl hp62 ?_
          refine DrawT.quiet 9 rfl rfl (fun W eW => OpOk.r (R.move rfl) rfl) ?_
          refine DrawT.quiet 10 rfl rfl (fun W eW => OpOk.r (R.build Tryd.underlying60 (places60 _ Tryd.underlying60) Tryd.zeroValue60 rfl rfl rfl) rfl) ?_
          refine DrawT.one (n := 11) [4] rfl rfl rfl (by kernel_rfl) (OpC.plain (Eff.buildSl Tryd.underlying46 Tryd.sizeOf60 Tryd.zeroValue60 rfl rfl rfl rfl (by intro u hu; simp only [List.mem_cons, List.not_mem_nil, or_false] at hu; first | (subst hu; rfl) | (rcases hu with rfl | rfl <;> rfl) | (rcases hu with rfl | rfl | rfl <;> rfl))) rfl) ?_ ?_
          · rintro _ _ ⟨_, _, _, _, e, _⟩
            refine ⟨?_, ⟨e.cell hp58, trivial⟩⟩
            exact Chg.mono e (fun _ _ h => h.elim)
          rintro _ w65 ⟨b65, rfl, hb65, hs65, e65, k65⟩
          replace hp58 := e65.cell hp58
          replace kb := kb.ext e65
          replace oo := oo.ext e65
          replace C := C.then e65 (fun _ _ h => h.elim)
          have hz65 := C.size
          refine DrawT.one (n := 12) [] rfl rfl rfl (by kernel_rfl) (OpC.plain (Eff.append (enc := encObj) (fun _ => rfl) one_obj Tryd.underlying46 info60 rfl rfl rfl rfl oo (RSl.mk (enc := encObj) (xs := [(s.last + 1, b)]) encObj_len k65.cells (fun i u hu => hu) (by simp) (by simp)) (by simp; omega) (by simp; omega) (by have := e65.size; have : ws0.drew.heap.size = ws0.heap.size := rfl; omega)) rfl) ?_ ?_
          · rintro _ _ ⟨_, g, _⟩
            refine ⟨?_, trivial⟩
            exact Chg.mono g (fun k _ h => .inr h)
          rintro v66 w66 ⟨a66, g66, at66⟩
          replace kb := kb.chg g66 (by intro hk; have := (oo.base hk).1; omega)
          clear oo; have oo := a66; clear a66
          replace C := C.then g66 (fun k _ h => .inr h)
          obtain ⟨A66, c66, rfl, hc661, hc662⟩ := oo.form
          refine DrawT.quiet 13 rfl rfl (fun W eW => OpOk.r (R.nilOk rfl) rfl) ?_
          refine DrawT.quiet 14 rfl rfl (fun W eW => OpOk.r (R.fieldA Tryd.underlying48 rfl Tryd.sizeOf46 rfl rfl rfl) rfl) ?_
          refine DrawT.one (n := 15) [] rfl rfl rfl (by kernel_rfl) (OpC.plain (Eff.store Tryd.sizeOf46 rfl rfl kb rfl (by simp [Value.cells]) (by simp [Value.cells, Value.oneCell'])) rfl) ?_ ?_
          · rintro _ _ ⟨_, _, g, _⟩
            refine ⟨?_, trivial⟩
            exact Chg.mono g (fun _ _ h => .inl h)
          rintro _ ws1 ⟨rfl, ks1, gs1, zs1⟩
          replace oo := oo.chg gs1 (by intro k hk h; have := (oo.base hk).1; omega)
          clear kb; have kb := ks1; clear ks1
          replace C := C.then gs1 (fun _ _ h => .inl h)
          replace kb : Blk ws1 m 48 [.int .i64 (s.last + 1), .slice A66 (s.all ++ [(s.last + 1, b)]).length c66] := kb
          refine DrawT.fin rfl ?_
          show St _ _ _ _ _
          refine St.weak [(0, _)] ⟨rfl, trivial⟩ ?_
          refine St.then_n ?_
          refine St.go hK16 ?_
          clear hK16
          refine St.seq fun K17 hK17 => ?_
          refine St.region ?_
          refine St.r (R.move rfl) rfl rfl ?_
          refine St.r (R.nilOk rfl) rfl rfl ?_
          refine St.r (R.fieldA Tryd.underlying48 rfl Tryd.sizeOf3 rfl rfl rfl) rfl rfl ?_
          refine St.r (R.load1 Tryd.isAgg3 rfl (kb.cells.at 0 rfl)) rfl rfl ?_
          refine St.r (R.assign rfl) rfl rfl ?_
          refine St.r (R.assign rfl) rfl rfl ?_
          refine St.nil ?_
          refine St.weak [(4, _), (5, _)] ⟨rfl, rfl, trivial⟩ ?_
          refine St.then_n ?_
          refine St.go hK17 ?_
          clear hK17
          refine St.ret ?_
          refine St.ret2 Tryd.results18 rfl rfl ?_
          exact ⟨_, rfl, by rw [hp]; rfl, ⟨_, fun k hk => by
            rcases at66 with e | e <;> rw [hk] at e
            · exact .inl e.symm
            · injection e with e; right; omega, by rw [hp]; exact ⟨kb, oo, hlow⟩⟩, C⟩

theorem rKeep_ret {s : Sto} {m base : Nat} {v : Value} {u : Value} {xs : List Int} (hok : s.Ok) (w0 : World) (hbase : base ≤ w0.heap.size) (hu : RInts w0 u xs) (h : RefB 48 60 w0 m base s.last v s.all) :
    Ret Tryd.prog 20 [.pointer (some ⟨m, 0, none⟩), u] w0 fun r w' => r = .tuple #[.int .i64 (keepS s xs).1, .int .i64 ((keepS s xs).2.1.getD 0)] ∧ (∃ v', (∀ k, v'.ownBlock = some k → v.ownBlock = some k ∨ w0.heap.size ≤ k) ∧ RefB 48 60 w' m base (keepS s xs).2.2.last v' (keepS s xs).2.2.all) ∧ Chg (fun k => k = m ∨ v.ownBlock = some k) w0 w' := by
  obtain ⟨A, c, rfl, hc1, hc2⟩ := h.own.form
  obtain ⟨B, d, rfl, hd1, hd2⟩ := hu.form
  have hfew := hok.few
  refine St.enter (N := 87) Tryd.func20 rfl Tryd.ntmps20 rfl ?_
  refine St.seq fun K0 hK0 => ?_
  refine St.region ?_
  refine St.r (R.assign rfl) rfl rfl ?_
  refine St.r (R.assign rfl) rfl rfl ?_
  refine St.nil ?_
  refine St.weak [(0, _), (1, _)] ⟨rfl, rfl, trivial⟩ ?_
  refine St.then_n ?_
  refine St.go hK0 ?_
  clear hK0
  refine St.seq fun K1 hK1 => ?_
  refine St.seq fun K2 hK2 => ?_
  refine St.region ?_
  refine St.r (R.assign rfl) rfl rfl ?_
  refine St.nil ?_
  refine St.weak [(0, _), (1, _), (6, _)] ⟨rfl, rfl, rfl, trivial⟩ ?_
  refine St.then_n ?_
  refine St.go hK2 ?_
  clear hK2
  refine St.block ?_
  refine St.loop (fun (k : Nat) => [(0, .pointer (some ⟨m, 0, none⟩)), (1, .slice B xs.length d), (6, .int .i64 (k : Int))])
      (fun (k : Nat) w => k ≤ xs.length ∧ w = w0 ∧ ∀ y ∈ xs.take k, (getM s.all y).isSome = true)
      (fun (k : Nat) => xs.length - k) 0 ⟨rfl, rfl, rfl, trivial⟩ ?_ ?_
  · exact ⟨Nat.zero_le _, rfl, by simp⟩
  rintro k w ⟨hk, hw, hall⟩
  show St _ _ [(0, .pointer (some ⟨m, 0, none⟩)), (1, .slice B xs.length d), (6, .int .i64 (k : Int))] _ _
  subst w
  refine St.seq fun K3 hK3 => ?_
  refine St.seq fun K4 hK4 => ?_
  refine St.region ?_
  refine St.r (R.move rfl) rfl rfl ?_
  refine St.r (R.move rfl) rfl rfl ?_
  refine St.r (R.lenSl Tryd.underlying30 rfl) rfl rfl ?_
  refine St.r (R.lss rfl rfl) rfl rfl ?_
  refine St.nil ?_
  refine St.weak [(0, _), (1, _), (6, _), (17, _)] ⟨rfl, rfl, rfl, rfl, trivial⟩ ?_
  refine St.then_n ?_
  refine St.go hK4 ?_
  clear hK4
  refine St.condD rfl (fun h17 => ?_) (fun h17 => ?_)
  ·
    obtain ⟨y, hy⟩ := get_of_lt (xs := xs) (k := k) (by omega)
    obtain ⟨yb, yo, rfl, hyc⟩ := hu.get' hy
    refine St.skip ?_
    refine St.then_n ?_
    refine St.go hK3 ?_
    clear hK3
    refine St.seq fun K5 hK5 => ?_
    refine St.block ?_
    refine St.seq fun K6 hK6 => ?_
    refine St.region ?_
    refine St.r (R.move rfl) rfl rfl ?_
    refine St.r (R.move rfl) rfl rfl ?_
    refine St.r (R.move rfl) rfl rfl ?_
    refine St.r (R.indexS k Tryd.underlying30 Tryd.sizeOf3 rfl rfl rfl (by omega)) rfl rfl ?_
    refine St.r (R.load1 Tryd.isAgg3 rfl (hyc.at 0 rfl)) rfl rfl ?_
    refine St.call rfl rfl ent22 (rGet_ret hok _ h) rfl ?_
    rintro r26 w26 ⟨rfl, hw26⟩
    subst w26
    refine St.r (R.move rfl) rfl rfl ?_
    refine St.r (R.extract rfl rfl) rfl rfl ?_
    refine St.r (R.extract rfl rfl) rfl rfl ?_
    refine St.r (R.assign rfl) rfl rfl ?_
    refine St.r (R.assign rfl) rfl rfl ?_
    refine St.nil ?_
    refine St.weak [(0, _), (1, _), (6, _), (8, _)] ⟨rfl, rfl, rfl, rfl, trivial⟩ ?_
    refine St.then_n ?_
    refine St.go hK6 ?_
    clear hK6
    refine St.seq fun K7 hK7 => ?_
    refine St.region ?_
    refine St.r (R.move rfl) rfl rfl ?_
    refine St.r (R.neq rfl rfl) rfl rfl ?_
    refine St.nil ?_
    refine St.weak [(0, _), (1, _), (6, _), (8, _), (30, _)] ⟨rfl, rfl, rfl, rfl, rfl, trivial⟩ ?_
    refine St.then_n ?_
    refine St.go hK7 ?_
    clear hK7
    refine St.condD rfl (fun h30 => ?_) (fun h30 => ?_)
    ·
      have hg : getM s.all y = none := by cases hc : getM s.all y <;> simp [hc] at h30 ⊢
      refine St.seq fun K8 hK8 => ?_
      refine St.region ?_
      refine St.r (R.move rfl) rfl rfl ?_
      refine St.r (R.assign rfl) rfl rfl ?_
      refine St.r (R.assign rfl) rfl rfl ?_
      refine St.nil ?_
      refine St.weak [(4, _), (5, _)] ⟨rfl, rfl, trivial⟩ ?_
      refine St.then_n ?_
      refine St.go hK8 ?_
      clear hK8
      refine St.ret ?_
      refine St.in_r ?_
      refine St.then_r ?_
      refine St.then_r ?_
      refine St.in_r ?_
      refine St.then_r ?_
      refine St.ret2 Tryd.results20 rfl rfl ?_
      have hk0 := keep_no (List.mem_of_getElem? hy) hg
      exact ⟨_, rfl, by rw [hk0, hg]; rfl, ⟨_, fun k hk => .inl hk, by rw [hk0]; exact h⟩, Chg.refl _ _⟩
    ·
      refine St.skip ?_
      refine St.in_n ?_
      refine St.then_n ?_
      refine St.go hK5 ?_
      clear hK5
      refine St.region ?_
      refine St.r (R.move rfl) rfl rfl ?_
      refine St.r (R.add rfl rfl (by omega) (by omega)) rfl rfl ?_
      refine St.r (R.assign rfl) rfl rfl ?_
      refine St.nil ?_
      refine St.weak [(0, _), (1, _), (6, _)] ⟨rfl, rfl, rfl, trivial⟩ ?_
      refine St.then_n ?_
      refine St.round (k + 1) ⟨rfl, rfl, rfl, trivial⟩ ?_ ?_
      · refine ⟨by omega, rfl, ?_⟩
        rw [take_snoc hy]
        intro z hz
        rcases List.mem_append.1 hz with hz | hz
        · exact hall z hz
        · rw [List.mem_singleton] at hz; subst hz; cases hc : getM s.all z <;> simp [hc] at h30 ⊢
      · omega
  ·
    have hall2 : ∀ n ∈ xs, (getM s.all n).isSome = true := fun y hy => hall y (by rw [List.take_of_length_le (by omega)]; exact hy)
    have hkp := keep_yes hall2
    have E : Ext w0 w0 := Ext.refl w0
    refine St.exit ?_
    refine St.then_x ?_
    refine St.then_x ?_
    refine St.in_x ?_
    refine St.then_n ?_
    refine St.go hK1 ?_
    clear hK1
    refine St.seq fun K9 hK9 => ?_
    refine St.region ?_
    refine St.r (R.assign rfl) rfl rfl ?_
    refine St.nil ?_
    refine St.weak [(0, _), (1, _), (9, _)] ⟨rfl, rfl, rfl, trivial⟩ ?_
    refine St.then_n ?_
    refine St.go hK9 ?_
    clear hK9
    refine St.seq fun K10 hK10 => ?_
    refine St.seq fun K11 hK11 => ?_
    refine St.region ?_
    refine St.r (R.assign rfl) rfl rfl ?_
    refine St.nil ?_
    refine St.weak [(0, _), (1, _), (9, _), (10, _)] ⟨rfl, rfl, rfl, rfl, trivial⟩ ?_
    refine St.then_n ?_
    refine St.go hK11 ?_
    clear hK11
    refine St.block ?_
    refine St.loop (fun (x : Nat × Value) => match x with | (k, v9) => [(0, .pointer (some ⟨m, 0, none⟩)), (1, .slice B xs.length d), (9, v9), (10, .int .i64 (k : Int))])
        (fun (x : Nat × Value) w => match x with | (k, v9) => k ≤ s.all.length ∧ Ext w0 w ∧ Own encObj 2 w0.heap.size 60 w v9 ((s.all.take k).filter (stays xs)))
        (fun (x : Nat × Value) => match x with | (k, v9) => s.all.length - k) (0, .slice none 0 0) ⟨rfl, rfl, rfl, rfl, trivial⟩ ?_ ?_
    · exact ⟨Nat.zero_le _, E, Own.nil _ _ _ _ _⟩
    rintro ⟨k, v9⟩ w ⟨hk, E, o9⟩
    show St _ _ [(0, .pointer (some ⟨m, 0, none⟩)), (1, .slice B xs.length d), (9, v9), (10, .int .i64 (k : Int))] _ _
    refine St.seq fun K12 hK12 => ?_
    refine St.seq fun K13 hK13 => ?_
    refine St.region ?_
    refine St.r (R.move rfl) rfl rfl ?_
    refine St.r (R.move rfl) rfl rfl ?_
    refine St.r (R.nilOk rfl) rfl rfl ?_
    refine St.r (R.fieldA Tryd.underlying48 rfl Tryd.sizeOf46 rfl rfl rfl) rfl rfl ?_
    refine St.r (R.load1 Tryd.isAgg46 rfl ((h.ext E).blk.cells.at 1 rfl)) rfl rfl ?_
    refine St.r (R.lenSl Tryd.underlying46 rfl) rfl rfl ?_
    refine St.r (R.lss rfl rfl) rfl rfl ?_
    refine St.nil ?_
    refine St.weak [(0, _), (1, _), (9, _), (10, _), (38, _)] ⟨rfl, rfl, rfl, rfl, rfl, trivial⟩ ?_
    refine St.then_n ?_
    refine St.go hK13 ?_
    clear hK13
    refine St.condD rfl (fun h38 => ?_) (fun h38 => ?_)
    ·
      obtain ⟨x, hx⟩ := get_of_lt (xs := s.all) (k := k) (by omega)
      obtain ⟨xb, xo, rfl, hxc⟩ := (h.own.reads encObj_len).get' hx
      refine St.skip ?_
      refine St.then_n ?_
      refine St.go hK12 ?_
      clear hK12
      refine St.seq fun K14 hK14 => ?_
      refine St.block ?_
      refine St.seq fun K15 hK15 => ?_
      refine St.region ?_
      refine St.r (R.assign rfl) rfl rfl ?_
      refine St.nil ?_
      refine St.weak [(0, _), (1, _), (9, _), (10, _), (11, _)] ⟨rfl, rfl, rfl, rfl, rfl, trivial⟩ ?_
      refine St.then_n ?_
      refine St.go hK15 ?_
      clear hK15
      refine St.seq fun K16 hK16 => ?_
      refine St.seq fun K17 hK17 => ?_
      refine St.region ?_
      refine St.r (R.assign rfl) rfl rfl ?_
      refine St.nil ?_
      refine St.weak [(0, _), (1, _), (9, _), (10, _), (11, _), (12, _)] ⟨rfl, rfl, rfl, rfl, rfl, rfl, trivial⟩ ?_
      refine St.then_n ?_
      refine St.go hK17 ?_
      clear hK17
      refine St.block ?_
      refine St.loop (fun (j : Nat) => [(0, .pointer (some ⟨m, 0, none⟩)), (1, .slice B xs.length d), (9, v9), (10, .int .i64 (k : Int)), (11, .bool ((xs.take j).any fun y => decide (y = x.1))), (12, .int .i64 (j : Int))])
          (fun (j : Nat) w => j ≤ xs.length ∧ Ext w0 w ∧ Own encObj 2 w0.heap.size 60 w v9 ((s.all.take k).filter (stays xs)))
          (fun (j : Nat) => xs.length - j) 0 ⟨rfl, rfl, rfl, rfl, rfl, rfl, trivial⟩ ?_ ?_
      · exact ⟨Nat.zero_le _, E, o9⟩
      rintro j w ⟨hj, E, o9⟩
      show St _ _ [(0, .pointer (some ⟨m, 0, none⟩)), (1, .slice B xs.length d), (9, v9), (10, .int .i64 (k : Int)), (11, .bool ((xs.take j).any fun y => decide (y = x.1))), (12, .int .i64 (j : Int))] _ _
      refine St.seq fun K18 hK18 => ?_
      refine St.seq fun K19 hK19 => ?_
      refine St.region ?_
      refine St.r (R.move rfl) rfl rfl ?_
      refine St.r (R.move rfl) rfl rfl ?_
      refine St.r (R.lenSl Tryd.underlying30 rfl) rfl rfl ?_
      refine St.r (R.lss rfl rfl) rfl rfl ?_
      refine St.nil ?_
      refine St.weak [(0, _), (1, _), (9, _), (10, _), (11, _), (12, _), (44, _)] ⟨rfl, rfl, rfl, rfl, rfl, rfl, rfl, trivial⟩ ?_
      refine St.then_n ?_
      refine St.go hK19 ?_
      clear hK19
      refine St.condD rfl (fun h44 => ?_) (fun h44 => ?_)
      ·
        obtain ⟨y, hy⟩ := get_of_lt (xs := xs) (k := j) (by omega)
        obtain ⟨yb, yo, rfl, hyc⟩ := hu.get' hy
        refine St.skip ?_
        refine St.then_n ?_
        refine St.go hK18 ?_
        clear hK18
        refine St.seq fun K20 hK20 => ?_
        refine St.block ?_
        rcases Bool.eq_false_or_eq_true ((xs.take j).any fun y => decide (y = x.1)) with hq | hq
        ·
          refine St.weak [(0, _), (1, _), (9, _), (10, _), (11, _), (12, _)] ⟨rfl, rfl, rfl, rfl, rfl, rfl, trivial⟩ ?_
          refine St.drawL mixed rfl rfl rfl rfl rfl rfl ?_
          replace E := Ext.trans E (Ext.drew _)
          replace o9 := o9.ext (Ext.drew _)
          refine ⟨_, OpOk.r (Runs.lit (c := true) (R.move rfl) (hq)) rfl, ?_⟩
          refine ⟨_, OpOk.r (R.move rfl) rfl, ?_⟩
          refine ⟨_, OpOk.pass (dg := 48) rfl rfl rfl rfl rfl, ?_⟩
          refine ⟨_, OpOk.pass (dg := 48) rfl rfl rfl rfl rfl, ?_⟩
          refine ⟨_, OpOk.pass (dg := 48) rfl rfl rfl rfl rfl, ?_⟩
          refine ⟨_, OpOk.pass (dg := 48) rfl rfl rfl rfl rfl, ?_⟩
          refine ⟨_, OpOk.pass (dg := 48) rfl rfl rfl rfl rfl, ?_⟩
          refine ⟨_, OpOk.pass (dg := 48) rfl rfl rfl rfl rfl, ?_⟩
          refine ⟨_, OpOk.pass (dg := 48) rfl rfl rfl rfl rfl, ?_⟩
          refine ⟨_, OpOk.pass (dg := 48) rfl rfl rfl rfl rfl, ?_⟩
          refine ⟨_, OpOk.pass (dg := 48) rfl rfl rfl rfl rfl, ?_⟩
          refine ⟨_, OpOk.pass (dg := 48) rfl rfl rfl rfl rfl, ?_⟩
          refine ⟨_, OpOk.pass (dg := 48) rfl rfl rfl rfl rfl, ?_⟩
          refine ⟨_, OpOk.pass (dg := 48) rfl rfl rfl rfl rfl, ?_⟩
          refine ⟨_, OpOk.pass (dg := 48) rfl rfl rfl rfl rfl, ?_⟩
          refine ⟨_, OpOk.r (R.pickT rfl rfl) rfl, ?_⟩
          show St _ _ _ _ _
          refine St.last rfl rfl ?_
          refine St.weak [(0, _), (1, _), (9, _), (10, _), (11, _), (12, _)] ⟨rfl, rfl, rfl, rfl, rfl, rfl, trivial⟩ ?_
          refine St.in_n ?_
          refine St.then_n ?_
          refine St.go hK20 ?_
          clear hK20
          refine St.region ?_
          refine St.r (R.move rfl) rfl rfl ?_
          refine St.r (R.add rfl rfl (by omega) (by omega)) rfl rfl ?_
          refine St.r (R.assign rfl) rfl rfl ?_
          refine St.nil ?_
          refine St.weak [(0, _), (1, _), (9, _), (10, _), (11, _), (12, _)] ⟨rfl, rfl, rfl, rfl, rfl, rfl, trivial⟩ ?_
          refine St.then_n ?_
          refine St.round (j + 1) ⟨rfl, rfl, rfl, rfl, (look_eq rfl (congrArg Value.bool (by rw [take_snoc hy, List.any_append, hq]; simp))), rfl, trivial⟩ ?_ ?_
          · exact ⟨by omega, E, o9⟩
          · omega
        ·
          refine St.weak [(0, _), (1, _), (9, _), (10, _), (11, _), (12, _)] ⟨rfl, rfl, rfl, rfl, rfl, rfl, trivial⟩ ?_
          refine St.drawL mixed rfl rfl rfl rfl rfl rfl ?_
          replace E := Ext.trans E (Ext.drew _)
          replace o9 := o9.ext (Ext.drew _)
          refine ⟨_, OpOk.r (Runs.lit (c := false) (R.move rfl) (hq)) rfl, ?_⟩
          refine ⟨_, OpOk.r (R.move rfl) rfl, ?_⟩
          refine ⟨_, OpOk.take (dg := 48) (R.move rfl) rfl rfl rfl rfl, ?_⟩
          refine ⟨_, OpOk.take (dg := 48) (R.move rfl) rfl rfl rfl rfl, ?_⟩
          refine ⟨_, OpOk.take (dg := 48) (R.indexS j Tryd.underlying30 Tryd.sizeOf3 rfl rfl rfl (by omega)) rfl rfl rfl rfl, ?_⟩
          refine ⟨_, OpOk.take (dg := 48) (R.load1 Tryd.isAgg3 rfl ((E.cells hyc).at 0 rfl)) rfl rfl rfl rfl, ?_⟩
          refine ⟨_, OpOk.take (dg := 48) (R.move rfl) rfl rfl rfl rfl, ?_⟩
          refine ⟨_, OpOk.take (dg := 48) (R.nilOk rfl) rfl rfl rfl rfl, ?_⟩
          refine ⟨_, OpOk.take (dg := 48) (R.fieldA Tryd.underlying48 rfl Tryd.sizeOf46 rfl rfl rfl) rfl rfl rfl rfl, ?_⟩
          refine ⟨_, OpOk.take (dg := 48) (R.load1 Tryd.isAgg46 rfl ((h.ext E).blk.cells.at 1 rfl)) rfl rfl rfl rfl, ?_⟩
          refine ⟨_, OpOk.take (dg := 48) (R.move rfl) rfl rfl rfl rfl, ?_⟩
          refine ⟨_, OpOk.take (dg := 48) (R.indexS k Tryd.underlying46 Tryd.sizeOf60 rfl rfl rfl (by omega)) rfl rfl rfl rfl, ?_⟩
          refine ⟨_, OpOk.take (dg := 48) (R.fieldA Tryd.underlying60 rfl Tryd.sizeOf3 rfl rfl rfl) rfl rfl rfl rfl, ?_⟩
          refine ⟨_, OpOk.take (dg := 48) (R.load1 Tryd.isAgg3 rfl ((E.cells hxc).at 0 rfl)) rfl rfl rfl rfl, ?_⟩
          refine ⟨_, OpOk.take (dg := 48) (R.eql rfl rfl) rfl rfl rfl rfl, ?_⟩
          refine ⟨_, OpOk.r (R.pickF rfl rfl) rfl, ?_⟩
          show St _ _ _ _ _
          refine St.last rfl rfl ?_
          refine St.weak [(0, _), (1, _), (9, _), (10, _), (11, _), (12, _)] ⟨rfl, rfl, rfl, rfl, rfl, rfl, trivial⟩ ?_
          refine St.in_n ?_
          refine St.then_n ?_
          refine St.go hK20 ?_
          clear hK20
          refine St.region ?_
          refine St.r (R.move rfl) rfl rfl ?_
          refine St.r (R.add rfl rfl (by omega) (by omega)) rfl rfl ?_
          refine St.r (R.assign rfl) rfl rfl ?_
          refine St.nil ?_
          refine St.weak [(0, _), (1, _), (9, _), (10, _), (11, _), (12, _)] ⟨rfl, rfl, rfl, rfl, rfl, rfl, trivial⟩ ?_
          refine St.then_n ?_
          refine St.round (j + 1) ⟨rfl, rfl, rfl, rfl, (look_eq rfl (congrArg Value.bool (by rw [take_snoc hy, List.any_append, hq]; simp))), rfl, trivial⟩ ?_ ?_
          · exact ⟨by omega, E, o9⟩
          · omega
      ·
        have hjj : xs.take j = xs := List.take_of_length_le (by omega)
        refine St.exit ?_
        refine St.then_x ?_
        refine St.then_x ?_
        refine St.in_x ?_
        refine St.then_n ?_
        refine St.go hK16 ?_
        clear hK16
        refine St.seq fun K21 hK21 => ?_
        refine St.region ?_
        refine St.r (R.move rfl) rfl rfl ?_
        refine St.nil ?_
        refine St.weak [(0, _), (1, _), (9, _), (10, _), (63, _)] ⟨rfl, rfl, rfl, rfl, rfl, trivial⟩ ?_
        refine St.then_n ?_
        refine St.go hK21 ?_
        clear hK21
        refine St.cond rfl (fun h63 => ?_) (fun h63 => ?_)
        ·
          rw [hjj] at h63
          have hst : stays xs x = true := h63
          have zE := E.size
          have hfl := filter_take_le (stays xs) s.all k
          have h60 := hok.few
          refine St.region ?_
          refine St.r (R.move rfl) rfl rfl ?_
          refine St.r (R.move rfl) rfl rfl ?_
          refine St.r (R.nilOk rfl) rfl rfl ?_
          refine St.r (R.fieldA Tryd.underlying48 rfl Tryd.sizeOf46 rfl rfl rfl) rfl rfl ?_
          refine St.r (R.load1 Tryd.isAgg46 rfl ((h.ext E).blk.cells.at 1 rfl)) rfl rfl ?_
          refine St.r (R.move rfl) rfl rfl ?_
          refine St.r (R.indexS k Tryd.underlying46 Tryd.sizeOf60 rfl rfl rfl (by omega)) rfl rfl ?_
          refine St.r (R.loadA Tryd.isAgg60 Tryd.sizeOf60 rfl (E.cells hxc) rfl) rfl rfl ?_
          refine St.buildSl Tryd.underlying46 Tryd.sizeOf60 Tryd.zeroValue60 rfl rfl rfl rfl (by intro u hu; simp only [List.mem_cons, List.not_mem_nil, or_false] at hu; first | (subst hu; rfl) | (rcases hu with rfl | rfl <;> rfl) | (rcases hu with rfl | rfl | rfl <;> rfl) | (rcases hu with rfl | rfl | rfl | rfl <;> rfl)) rfl ?_
          intro w72 b72 hb72 hs72 e72 k72
          have qE72 := E.size
          replace E := Ext.trans E e72
          replace o9 := o9.ext e72
          refine St.append (enc := encObj) (fun _ => rfl) one_obj Tryd.underlying46 info60 rfl rfl rfl rfl o9 (RSl.mk (enc := encObj) (xs := [x]) encObj_len k72.cells (fun i u hu => hu) (by simp) (by simp)) (by simp; omega) (by simp; omega) (by omega) rfl ?_
          intro v73 w73 a73 g73 at73
          replace E := Ext.then E g73 (by intro j hj hk; have := (o9.base hk).1; omega)
          clear o9; have o9 := a73; clear a73
          refine St.r (R.assign rfl) rfl rfl ?_
          refine St.nil ?_
          refine St.weak [(0, _), (1, _), (9, _), (10, _)] ⟨rfl, rfl, rfl, rfl, trivial⟩ ?_
          refine St.in_n ?_
          refine St.then_n ?_
          refine St.go hK14 ?_
          clear hK14
          refine St.region ?_
          refine St.r (R.move rfl) rfl rfl ?_
          refine St.r (R.add rfl rfl (by omega) (by omega)) rfl rfl ?_
          refine St.r (R.assign rfl) rfl rfl ?_
          refine St.nil ?_
          refine St.weak [(0, _), (1, _), (9, _), (10, _)] ⟨rfl, rfl, rfl, rfl, trivial⟩ ?_
          refine St.then_n ?_
          refine St.round (k + 1, v73) ⟨rfl, rfl, rfl, rfl, trivial⟩ ?_ ?_
          · try dsimp only
            exact ⟨by omega, E, by rw [take_snoc hx, filter_snoc, hst, if_pos rfl]; exact o9⟩
          · try dsimp only
            omega
        ·
          rw [hjj] at h63
          have hst : stays xs x = false := h63
          refine St.skip ?_
          refine St.in_n ?_
          refine St.then_n ?_
          refine St.go hK14 ?_
          clear hK14
          refine St.region ?_
          refine St.r (R.move rfl) rfl rfl ?_
          refine St.r (R.add rfl rfl (by omega) (by omega)) rfl rfl ?_
          refine St.r (R.assign rfl) rfl rfl ?_
          refine St.nil ?_
          refine St.weak [(0, _), (1, _), (9, _), (10, _)] ⟨rfl, rfl, rfl, rfl, trivial⟩ ?_
          refine St.then_n ?_
          refine St.round (k + 1, v9) ⟨rfl, rfl, rfl, rfl, trivial⟩ ?_ ?_
          · try dsimp only
            exact ⟨by omega, E, by rw [take_snoc hx, filter_snoc, hst, if_neg (by simp), List.append_nil]; exact o9⟩
          · try dsimp only
            omega
    ·
      rw [List.take_of_length_le (show s.all.length ≤ k by omega)] at o9
      obtain ⟨A9, c9, rfl, h91, h92⟩ := o9.form
      have hfl := List.length_filter_le (stays xs) s.all
      obtain ⟨kb, -, hlow⟩ := h.ext E
      have zE := E.size
      have C : Chg (fun k => k = m ∨ (Value.slice A s.all.length c).ownBlock = some k) w0 _ := Chg.mono E (fun _ _ h => h.elim)
      clear E
      refine St.exit ?_
      refine St.then_x ?_
      refine St.then_x ?_
      refine St.in_x ?_
      refine St.then_n ?_
      refine St.go hK10 ?_
      clear hK10
      refine St.seq fun K22 hK22 => ?_
      refine St.region ?_
      refine St.r (R.move rfl) rfl rfl ?_
      refine St.r (R.nilOk rfl) rfl rfl ?_
      refine St.r (R.fieldA Tryd.underlying48 rfl Tryd.sizeOf46 rfl rfl rfl) rfl rfl ?_
      refine St.r (R.load1 Tryd.isAgg46 rfl (kb.cells.at 1 rfl)) rfl rfl ?_
      refine St.r (R.lenSl Tryd.underlying46 rfl) rfl rfl ?_
      refine St.r (R.move rfl) rfl rfl ?_
      refine St.r (R.lenSl Tryd.underlying46 rfl) rfl rfl ?_
      refine St.r (R.sub rfl rfl (by omega) (by omega)) rfl rfl ?_
      refine St.r (R.assign rfl) rfl rfl ?_
      refine St.nil ?_
      refine St.weak [(0, _), (9, _), (13, _)] ⟨rfl, rfl, rfl, trivial⟩ ?_
      refine St.then_n ?_
      refine St.go hK22 ?_
      clear hK22
      refine St.seq fun K23 hK23 => ?_
      refine St.region ?_
      refine St.r (R.move rfl) rfl rfl ?_
      refine St.r (R.move rfl) rfl rfl ?_
      refine St.r (R.nilOk rfl) rfl rfl ?_
      refine St.r (R.fieldA Tryd.underlying48 rfl Tryd.sizeOf46 rfl rfl rfl) rfl rfl ?_
      refine St.store Tryd.sizeOf46 rfl rfl kb rfl (by simp [Value.cells]) (by simp [Value.cells, Value.oneCell']) ?_
      intro ws0 ks0 gs0 zs0
      replace o9 := o9.chg gs0 (by intro k hk h; have := (o9.base hk).1; omega)
      clear kb; have kb := ks0; clear ks0
      replace C := C.then gs0 (fun _ _ h => .inl h)
      refine St.nil ?_
      refine St.weak [(13, _)] ⟨rfl, trivial⟩ ?_
      refine St.then_n ?_
      refine St.go hK23 ?_
      clear hK23
      refine St.seq fun K24 hK24 => ?_
      refine St.region ?_
      refine St.r (R.move rfl) rfl rfl ?_
      refine St.r (R.assign rfl) rfl rfl ?_
      refine St.r (R.assign rfl) rfl rfl ?_
      refine St.nil ?_
      refine St.weak [(4, _), (5, _)] ⟨rfl, rfl, trivial⟩ ?_
      refine St.then_n ?_
      refine St.go hK24 ?_
      clear hK24
      refine St.ret ?_
      refine St.ret2 Tryd.results20 rfl rfl ?_
      exact ⟨_, rfl, by rw [hkp.2.1, hkp.1]; rfl, ⟨_, fun k hk => .inr (o9.base hk).1, by rw [hkp.2.2.1, hkp.2.2.2]; exact ⟨kb, o9.lower hbase, hlow⟩⟩, C⟩

end Go.Proofs.YtjgcmpondbocfaaDoor

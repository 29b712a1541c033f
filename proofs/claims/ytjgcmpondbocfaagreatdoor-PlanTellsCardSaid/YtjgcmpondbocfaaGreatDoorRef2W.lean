/- The references on terms, triples and sets: what is wrong; lists in order; unions. Each walked once, under the reading of the arguments. -/
import Derived.Test.YtjgcmpondbocfaaGreatDoorProg
import Derived.Test.YtjgcmpondbocfaaGreatDoorRef1W
import Derived.Test.YtjgcmpondbocfaaGreatDoorRefPure
namespace Go.Proofs.YtjgcmpondbocfaaGreatDoor
open Go.RowKit 
theorem ent7 : Ent Tryz.prog 7 := Ent.of Tryz.func7 (by kernel_rfl) rfl
theorem ent44 : Ent Tryz.prog 44 := Ent.of Tryz.func44 (by kernel_rfl) rfl
theorem ent48 : Ent Tryz.prog 48 := Ent.of Tryz.func48 (by kernel_rfl) rfl
theorem ent49 : Ent Tryz.prog 49 := Ent.of Tryz.func49 (by kernel_rfl) rfl
theorem ent119 : Ent Tryz.prog 119 := Ent.of Tryz.func119 (by kernel_rfl) rfl
theorem ent120 : Ent Tryz.prog 120 := Ent.of Tryz.func120 (by kernel_rfl) rfl
theorem ent124 : Ent Tryz.prog 124 := Ent.of Tryz.func124 (by kernel_rfl) rfl
theorem ent169 : Ent Tryz.prog 169 := Ent.of Tryz.func169 (by kernel_rfl) rfl
theorem ent170 : Ent Tryz.prog 170 := Ent.of Tryz.func170 (by kernel_rfl) rfl
theorem rletter_ret {c : UInt8} (w0 : World) : Ret Tryz.prog 169 [.int .u8 (c.toNat : Int)] w0 fun r w' => r = .bool (letterB c) ∧ Ext w0 w' := by
  refine St.enter (N := 9) Tryz.func169 rfl Tryz.ntmps169 rfl ?_
  refine St.seq fun K0 hK0 => ?_
  refine St.region ?_
  refine St.r (R.assign rfl) rfl rfl ?_
  refine St.nil ?_
  refine St.weak [(0, _)] ⟨rfl, trivial⟩ ?_
  refine St.then_n ?_
  refine St.go hK0 ?_
  clear hK0
  refine St.seq fun K1 hK1 => ?_
  by_cases h4 : (97 : Int) ≤ (c.toNat : Int)
  ·
    refine St.region ?_
    refine St.r (R.move rfl) rfl rfl ?_
    refine St.r (Runs.lit (c := true) (R.geq rfl rfl) (decide_eq_true h4)) rfl rfl ?_
    refine St.r (R.move rfl) rfl rfl ?_
    refine St.take (dg := 5) rfl rfl ?_ rfl
    refine St.r (R.move rfl) rfl rfl ?_
    refine St.take (dg := 5) rfl rfl ?_ rfl
    refine St.r (R.leq rfl rfl) rfl rfl ?_
    refine St.r (R.pickT rfl rfl) rfl rfl ?_
    refine St.r (R.assign rfl) rfl rfl ?_
    refine St.nil ?_
    refine St.weak [(2, _)] ⟨rfl, trivial⟩ ?_
    refine St.then_n ?_
    refine St.go hK1 ?_
    clear hK1
    refine St.ret ?_
    refine St.ret1 Tryz.results169 rfl ?_
    exact ⟨_, rfl, by rw [letterB, decide_eq_true h4, Bool.true_and], Ext.refl _⟩
  ·
    refine St.region ?_
    refine St.r (R.move rfl) rfl rfl ?_
    refine St.r (Runs.lit (c := false) (R.geq rfl rfl) (decide_eq_false h4)) rfl rfl ?_
    refine St.r (R.move rfl) rfl rfl ?_
    refine St.pass (dg := 5) rfl rfl rfl rfl rfl ?_
    refine St.pass (dg := 5) rfl rfl rfl rfl rfl ?_
    refine St.r (R.pickF rfl rfl) rfl rfl ?_
    refine St.r (R.assign rfl) rfl rfl ?_
    refine St.nil ?_
    refine St.weak [(2, _)] ⟨rfl, trivial⟩ ?_
    refine St.then_n ?_
    refine St.go hK1 ?_
    clear hK1
    refine St.ret ?_
    refine St.ret1 Tryz.results169 rfl ?_
    exact ⟨_, rfl, by rw [letterB, decide_eq_false h4]; rfl, Ext.refl _⟩

theorem rdigit_ret {c : UInt8} (w0 : World) : Ret Tryz.prog 170 [.int .u8 (c.toNat : Int)] w0 fun r w' => r = .bool (digitB c) ∧ Ext w0 w' := by
  refine St.enter (N := 9) Tryz.func170 rfl Tryz.ntmps170 rfl ?_
  refine St.seq fun K0 hK0 => ?_
  refine St.region ?_
  refine St.r (R.assign rfl) rfl rfl ?_
  refine St.nil ?_
  refine St.weak [(0, _)] ⟨rfl, trivial⟩ ?_
  refine St.then_n ?_
  refine St.go hK0 ?_
  clear hK0
  refine St.seq fun K1 hK1 => ?_
  by_cases h4 : (48 : Int) ≤ (c.toNat : Int)
  ·
    refine St.region ?_
    refine St.r (R.move rfl) rfl rfl ?_
    refine St.r (Runs.lit (c := true) (R.geq rfl rfl) (decide_eq_true h4)) rfl rfl ?_
    refine St.r (R.move rfl) rfl rfl ?_
    refine St.take (dg := 5) rfl rfl ?_ rfl
    refine St.r (R.move rfl) rfl rfl ?_
    refine St.take (dg := 5) rfl rfl ?_ rfl
    refine St.r (R.leq rfl rfl) rfl rfl ?_
    refine St.r (R.pickT rfl rfl) rfl rfl ?_
    refine St.r (R.assign rfl) rfl rfl ?_
    refine St.nil ?_
    refine St.weak [(2, _)] ⟨rfl, trivial⟩ ?_
    refine St.then_n ?_
    refine St.go hK1 ?_
    clear hK1
    refine St.ret ?_
    refine St.ret1 Tryz.results170 rfl ?_
    exact ⟨_, rfl, by rw [digitB, decide_eq_true h4, Bool.true_and], Ext.refl _⟩
  ·
    refine St.region ?_
    refine St.r (R.move rfl) rfl rfl ?_
    refine St.r (Runs.lit (c := false) (R.geq rfl rfl) (decide_eq_false h4)) rfl rfl ?_
    refine St.r (R.move rfl) rfl rfl ?_
    refine St.pass (dg := 5) rfl rfl rfl rfl rfl ?_
    refine St.pass (dg := 5) rfl rfl rfl rfl rfl ?_
    refine St.r (R.pickF rfl rfl) rfl rfl ?_
    refine St.r (R.assign rfl) rfl rfl ?_
    refine St.nil ?_
    refine St.weak [(2, _)] ⟨rfl, trivial⟩ ?_
    refine St.then_n ?_
    refine St.go hK1 ?_
    clear hK1
    refine St.ret ?_
    refine St.ret1 Tryz.results170 rfl ?_
    exact ⟨_, rfl, by rw [digitB, decide_eq_false h4]; rfl, Ext.refl _⟩


theorem all_snoc {s : List UInt8} {p : UInt8 → Bool} {k : Nat} {x : UInt8} (h : ∀ y ∈ s.take k, p y = true) (hx : s[k]? = some x) (hp : p x = true) : ∀ y ∈ s.take (k + 1), p y = true := by
  rw [take_snoc hx]
  intro y hy
  rcases List.mem_append.1 hy with hy | hy
  · exact h y hy
  · rw [List.mem_singleton] at hy; subst hy; exact hp
theorem all_take {s : List UInt8} {p : UInt8 → Bool} {k : Nat} (h : ∀ y ∈ s.take k, p y = true) (hk : s.length ≤ k) : s.all p = true := by
  rw [List.take_of_length_le hk] at h
  exact List.all_eq_true.2 h
theorem all_not {s : List UInt8} {p : UInt8 → Bool} {k : Nat} {x : UInt8} (hx : s[k]? = some x) (hp : p x = false) : s.all p = false :=
  List.all_eq_false.2 ⟨x, List.mem_of_getElem? hx, by rw [hp]; simp⟩
theorem first_at {s : ByteArray} {x : UInt8} (h : s.data.toList[0]? = some x) : firstLetter s = letterB x := by
  unfold firstLetter
  cases hs : s.data.toList with
  | nil => rw [hs] at h; cases h
  | cons c r => rw [hs] at h; injection h with h; rw [h]
theorem rightS_good {k : Int} {s : ByteArray} (h : ¬ s = ⟨#[]⟩) (ha : s.data.toList.all (okByte k) = true) (hf : k = 1 → firstLetter s = true) : rightS k s = true := by
  rw [rightS, if_neg h, ha]
  by_cases e : k = 1
  · rw [hf e]; simp
  · simp [e]
theorem rightS_bad {k : Int} {s : ByteArray} (h : ¬ s = ⟨#[]⟩) (ha : s.data.toList.all (okByte k) = false) : rightS k s = false := by
  rw [rightS, if_neg h, ha]; rfl
theorem rightS_first {s : ByteArray} (h : ¬ s = ⟨#[]⟩) (hf : firstLetter s = false) : rightS 1 s = false := by
  rw [rightS, if_neg h, hf]; simp
theorem nonempty_len {s : ByteArray} (h : ¬ s = ⟨#[]⟩) : 0 < s.data.toList.length := by
  cases hs : s.data.toList with
  | nil => exact absurd (bytes_inj hs) h
  | cons c r => simp

theorem Letters_ret {s : ByteArray} {n : Int} (hn : n ≤ 1000) (w0 : World) : Ret Tryz.prog 120 [.string s, .int .i64 n] w0 fun r w' => r = .bool (lettersB s n) ∧ Ext w0 w' := by
  have hlen : s.data.toList.length = s.size := by rw [Array.length_toList]; rfl
  have E : Ext w0 w0 := Ext.refl w0
  refine St.enter (N := 27) Tryz.func120 rfl Tryz.ntmps120 rfl ?_
  refine St.seq fun K0 hK0 => ?_
  refine St.region ?_
  refine St.r (R.assign rfl) rfl rfl ?_
  refine St.nil ?_
  refine St.weak [(0, _), (1, _)] ⟨rfl, rfl, trivial⟩ ?_
  refine St.then_n ?_
  refine St.go hK0 ?_
  clear hK0
  refine St.seq fun K1 hK1 => ?_
  refine St.seq fun K2 hK2 => ?_
  by_cases h8 : s = ⟨#[]⟩
  ·
    refine St.region ?_
    refine St.r (R.move rfl) rfl rfl ?_
    refine St.r (Runs.lit (c := true) (R.eqS rfl rfl) (decide_eq_true h8)) rfl rfl ?_
    refine St.r (R.move rfl) rfl rfl ?_
    refine St.pass (dg := 9) rfl rfl rfl rfl rfl ?_
    refine St.pass (dg := 9) rfl rfl rfl rfl rfl ?_
    refine St.pass (dg := 9) rfl rfl rfl rfl rfl ?_
    refine St.pass (dg := 9) rfl rfl rfl rfl rfl ?_
    refine St.r (R.pickT rfl rfl) rfl rfl ?_
    refine St.nil ?_
    refine St.weak [(0, _), (14, _)] ⟨rfl, rfl, trivial⟩ ?_
    refine St.then_n ?_
    refine St.go hK2 ?_
    clear hK2
    refine St.condT rfl ?_
    refine St.seq fun K3 hK3 => ?_
    refine St.region ?_
    refine St.r (R.assign rfl) rfl rfl ?_
    refine St.nil ?_
    refine St.weak [(4, _)] ⟨rfl, trivial⟩ ?_
    refine St.then_n ?_
    refine St.go hK3 ?_
    clear hK3
    refine St.ret ?_
    refine St.then_r ?_
    refine St.ret1 Tryz.results120 rfl ?_
    exact ⟨_, rfl, by rw [lettersB, decide_eq_true h8]; rfl, E⟩
  ·
    refine St.region ?_
    refine St.r (R.move rfl) rfl rfl ?_
    refine St.r (Runs.lit (c := false) (R.eqS rfl rfl) (decide_eq_false h8)) rfl rfl ?_
    refine St.r (R.move rfl) rfl rfl ?_
    refine St.take (dg := 9) rfl rfl ?_ rfl
    refine St.r (R.move rfl) rfl rfl ?_
    refine St.take (dg := 9) rfl rfl ?_ rfl
    refine St.r (R.lenStr Tryz.underlying9 rfl) rfl rfl ?_
    refine St.take (dg := 9) rfl rfl ?_ rfl
    refine St.r (R.move rfl) rfl rfl ?_
    refine St.take (dg := 9) rfl rfl ?_ rfl
    refine St.r (R.gtr rfl rfl) rfl rfl ?_
    refine St.r (R.pickF rfl rfl) rfl rfl ?_
    refine St.nil ?_
    refine St.weak [(0, _), (14, _)] ⟨rfl, rfl, trivial⟩ ?_
    refine St.then_n ?_
    refine St.go hK2 ?_
    clear hK2
    refine St.condD rfl (fun h14 => ?_) (fun h14 => ?_)
    ·
      refine St.seq fun K4 hK4 => ?_
      refine St.region ?_
      refine St.r (R.assign rfl) rfl rfl ?_
      refine St.nil ?_
      refine St.weak [(4, _)] ⟨rfl, trivial⟩ ?_
      refine St.then_n ?_
      refine St.go hK4 ?_
      clear hK4
      refine St.ret ?_
      refine St.then_r ?_
      refine St.ret1 Tryz.results120 rfl ?_
      exact ⟨_, rfl, by rw [lettersB, decide_eq_true h14]; simp, E⟩
    ·
      refine St.skip ?_
      refine St.then_n ?_
      refine St.go hK1 ?_
      clear hK1
      refine St.seq fun K5 hK5 => ?_
      refine St.seq fun K6 hK6 => ?_
      refine St.region ?_
      refine St.r (R.assign rfl) rfl rfl ?_
      refine St.nil ?_
      refine St.weak [(0, _), (5, _)] ⟨rfl, rfl, trivial⟩ ?_
      refine St.then_n ?_
      refine St.go hK6 ?_
      clear hK6
      refine St.block ?_
      refine St.loop (fun (k : Nat) => [(0, .string s), (5, .int .i64 (k : Int))])
          (fun (k : Nat) w => k ≤ s.data.toList.length ∧ Ext w0 w ∧ ∀ y ∈ s.data.toList.take k, letterB y = true)
          (fun (k : Nat) => s.data.toList.length - k) 0 ⟨rfl, rfl, trivial⟩ ?_ ?_
      · exact ⟨Nat.zero_le _, E, by simp⟩
      rintro k w ⟨hk, E, hall⟩
      show St _ _ [(0, .string s), (5, .int .i64 (k : Int))] _ _
      refine St.seq fun K7 hK7 => ?_
      refine St.seq fun K8 hK8 => ?_
      refine St.region ?_
      refine St.r (R.move rfl) rfl rfl ?_
      refine St.r (R.move rfl) rfl rfl ?_
      refine St.r (R.lenStr Tryz.underlying9 rfl) rfl rfl ?_
      refine St.r (R.lss rfl rfl) rfl rfl ?_
      refine St.nil ?_
      refine St.weak [(0, _), (5, _), (18, _)] ⟨rfl, rfl, rfl, trivial⟩ ?_
      refine St.then_n ?_
      refine St.go hK8 ?_
      clear hK8
      refine St.condD rfl (fun h18 => ?_) (fun h18 => ?_)
      ·
        obtain ⟨x, hx⟩ := get_of_lt (xs := s.data.toList) (k := k) (by omega)
        refine St.skip ?_
        refine St.then_n ?_
        refine St.go hK7 ?_
        clear hK7
        refine St.seq fun K9 hK9 => ?_
        refine St.block ?_
        refine St.seq fun K10 hK10 => ?_
        refine St.region ?_
        refine St.r (R.move rfl) rfl rfl ?_
        refine St.r (R.move rfl) rfl rfl ?_
        refine St.r (R.idxStr k Tryz.underlying9 rfl rfl rfl hx) rfl rfl ?_
        refine St.call rfl rfl ent169 (rletter_ret _) rfl ?_
        rintro r24 w24 ⟨rfl, e24⟩
        replace E := Ext.trans E e24
        refine St.r (R.assign rfl) rfl rfl ?_
        refine St.nil ?_
        refine St.weak [(0, _), (5, _), (6, _)] ⟨rfl, rfl, rfl, trivial⟩ ?_
        refine St.then_n ?_
        refine St.go hK10 ?_
        clear hK10
        refine St.seq fun K11 hK11 => ?_
        refine St.region ?_
        refine St.r (R.move rfl) rfl rfl ?_
        refine St.r (R.not rfl) rfl rfl ?_
        refine St.nil ?_
        refine St.weak [(0, _), (5, _), (26, _)] ⟨rfl, rfl, rfl, trivial⟩ ?_
        refine St.then_n ?_
        refine St.go hK11 ?_
        clear hK11
        refine St.cond rfl (fun h26 => ?_) (fun h26 => ?_)
        ·
          refine St.seq fun K12 hK12 => ?_
          refine St.region ?_
          refine St.r (R.assign rfl) rfl rfl ?_
          refine St.nil ?_
          refine St.weak [(4, _)] ⟨rfl, trivial⟩ ?_
          refine St.then_n ?_
          refine St.go hK12 ?_
          clear hK12
          refine St.ret ?_
          refine St.in_r ?_
          refine St.then_r ?_
          refine St.then_r ?_
          refine St.in_r ?_
          refine St.then_r ?_
          refine St.ret1 Tryz.results120 rfl ?_
          exact ⟨_, rfl, by rw [lettersB, all_not hx (by simpa using h26)]; simp, E⟩
        ·
          refine St.skip ?_
          refine St.in_n ?_
          refine St.then_n ?_
          refine St.go hK9 ?_
          clear hK9
          refine St.region ?_
          refine St.r (R.move rfl) rfl rfl ?_
          refine St.r (R.add rfl rfl (by omega) (by omega)) rfl rfl ?_
          refine St.r (R.assign rfl) rfl rfl ?_
          refine St.nil ?_
          refine St.weak [(0, _), (5, _)] ⟨rfl, rfl, trivial⟩ ?_
          refine St.then_n ?_
          refine St.round (k + 1) ⟨rfl, rfl, trivial⟩ ?_ ?_
          · exact ⟨by omega, E, all_snoc hall hx (by simpa using h26)⟩
          · omega
      ·
        refine St.exit ?_
        refine St.then_x ?_
        refine St.then_x ?_
        refine St.in_x ?_
        refine St.then_n ?_
        refine St.go hK5 ?_
        clear hK5
        refine St.seq fun K13 hK13 => ?_
        refine St.region ?_
        refine St.r (R.assign rfl) rfl rfl ?_
        refine St.nil ?_
        refine St.weak [(4, _)] ⟨rfl, trivial⟩ ?_
        refine St.then_n ?_
        refine St.go hK13 ?_
        clear hK13
        refine St.ret ?_
        refine St.ret1 Tryz.results120 rfl ?_
        exact ⟨_, rfl, by rw [lettersB, all_take hall (by omega), decide_eq_false h8, decide_eq_false h14]; rfl, E⟩

set_option maxHeartbeats 4000000 in
set_option maxRecDepth 100000 in
theorem right1_ret {s : ByteArray} (hsz : s.size ≤ 1000) (w0 : World) : Ret Tryz.prog 119 [.int .i64 1, .string s] w0 fun r w' => r = .bool (rightS 1 s) ∧ Ext w0 w' := by
  have hlen : s.data.toList.length = s.size := by rw [Array.length_toList]; rfl
  have E : Ext w0 w0 := Ext.refl w0
  refine St.enter (N := 76) Tryz.func119 rfl Tryz.ntmps119 rfl ?_
  refine St.seq fun K0 hK0 => ?_
  refine St.region ?_
  refine St.r (R.assign rfl) rfl rfl ?_
  refine St.nil ?_
  refine St.weak [(0, _), (1, _)] ⟨rfl, rfl, trivial⟩ ?_
  refine St.then_n ?_
  refine St.go hK0 ?_
  clear hK0
  refine St.seq fun K1 hK1 => ?_
  refine St.seq fun K2 hK2 => ?_
  refine St.region ?_
  refine St.r (R.move rfl) rfl rfl ?_
  refine St.r (R.eqS rfl rfl) rfl rfl ?_
  refine St.nil ?_
  refine St.weak [(0, _), (1, _), (10, _)] ⟨rfl, rfl, rfl, trivial⟩ ?_
  refine St.then_n ?_
  refine St.go hK2 ?_
  clear hK2
  refine St.condD rfl (fun h10 => ?_) (fun h10 => ?_)
  ·
    refine St.seq fun K3 hK3 => ?_
    refine St.region ?_
    refine St.r (R.move rfl) rfl rfl ?_
    refine St.r (R.eql rfl rfl) rfl rfl ?_
    refine St.r (R.assign rfl) rfl rfl ?_
    refine St.nil ?_
    refine St.weak [(4, _)] ⟨rfl, trivial⟩ ?_
    refine St.then_n ?_
    refine St.go hK3 ?_
    clear hK3
    refine St.ret ?_
    refine St.then_r ?_
    refine St.ret1 Tryz.results119 rfl ?_
    exact ⟨_, rfl, by rw [rightS, if_pos h10], E⟩
  ·
    refine St.skip ?_
    refine St.then_n ?_
    refine St.go hK1 ?_
    clear hK1
    refine St.seq fun K4 hK4 => ?_
    refine St.seq fun K5 hK5 => ?_
    refine St.region ?_
    refine St.r (R.assign rfl) rfl rfl ?_
    refine St.nil ?_
    refine St.weak [(0, _), (1, _), (5, _)] ⟨rfl, rfl, rfl, trivial⟩ ?_
    refine St.then_n ?_
    refine St.go hK5 ?_
    clear hK5
    refine St.block ?_
    refine St.loop (fun (k : Nat) => [(0, .int .i64 1), (1, .string s), (5, .int .i64 (k : Int))])
        (fun (k : Nat) w => k ≤ s.data.toList.length ∧ Ext w0 w ∧ (∀ y ∈ s.data.toList.take k, okByte 1 y = true) ∧ (0 < k → firstLetter s = true))
        (fun (k : Nat) => s.data.toList.length - k) 0 ⟨rfl, rfl, rfl, trivial⟩ ?_ ?_
    · exact ⟨Nat.zero_le _, E, by simp, fun h => absurd h (by omega)⟩
    rintro k w ⟨hk, E, hall, hf⟩
    show St _ _ [(0, .int .i64 1), (1, .string s), (5, .int .i64 (k : Int))] _ _
    refine St.seq fun K6 hK6 => ?_
    refine St.seq fun K7 hK7 => ?_
    refine St.region ?_
    refine St.r (R.move rfl) rfl rfl ?_
    refine St.r (R.move rfl) rfl rfl ?_
    refine St.r (R.lenStr Tryz.underlying9 rfl) rfl rfl ?_
    refine St.r (R.lss rfl rfl) rfl rfl ?_
    refine St.nil ?_
    refine St.weak [(0, _), (1, _), (5, _), (16, _)] ⟨rfl, rfl, rfl, rfl, trivial⟩ ?_
    refine St.then_n ?_
    refine St.go hK7 ?_
    clear hK7
    refine St.condD rfl (fun h16 => ?_) (fun h16 => ?_)
    ·
      obtain ⟨x, hx⟩ := get_of_lt (xs := s.data.toList) (k := k) (by omega)
      refine St.skip ?_
      refine St.then_n ?_
      refine St.go hK6 ?_
      clear hK6
      refine St.seq fun K8 hK8 => ?_
      refine St.block ?_
      refine St.seq fun K9 hK9 => ?_
      refine St.region ?_
      refine St.r (R.move rfl) rfl rfl ?_
      refine St.r (R.move rfl) rfl rfl ?_
      refine St.r (R.idxStr k Tryz.underlying9 rfl rfl rfl hx) rfl rfl ?_
      refine St.r (R.assign rfl) rfl rfl ?_
      refine St.nil ?_
      refine St.weak [(0, _), (1, _), (5, _), (6, _)] ⟨rfl, rfl, rfl, rfl, trivial⟩ ?_
      refine St.then_n ?_
      refine St.go hK9 ?_
      clear hK9
      refine St.seq fun K10 hK10 => ?_
      refine St.region ?_
      refine St.r (R.move rfl) rfl rfl ?_
      refine St.call rfl rfl ent169 (rletter_ret _) rfl ?_
      rintro r23 w23 ⟨rfl, e23⟩
      replace E := Ext.trans E e23
      refine St.r (R.assign rfl) rfl rfl ?_
      refine St.nil ?_
      refine St.weak [(0, _), (1, _), (5, _), (6, _), (7, _)] ⟨rfl, rfl, rfl, rfl, rfl, trivial⟩ ?_
      refine St.then_n ?_
      refine St.go hK10 ?_
      clear hK10
      refine St.seq fun K11 hK11 => ?_
      refine St.region ?_
      refine St.r (R.move rfl) rfl rfl ?_
      refine St.call rfl rfl ent170 (rdigit_ret _) rfl ?_
      rintro r25 w25 ⟨rfl, e25⟩
      replace E := Ext.trans E e25
      refine St.r (R.assign rfl) rfl rfl ?_
      refine St.nil ?_
      refine St.weak [(0, _), (1, _), (5, _), (6, _), (7, _), (8, _)] ⟨rfl, rfl, rfl, rfl, rfl, rfl, trivial⟩ ?_
      refine St.then_n ?_
      refine St.go hK11 ?_
      clear hK11
      refine St.seq fun K12 hK12 => ?_
      cases ha : letterB x
      ·
        by_cases h34 : (k : Int) = 0
        ·
          refine St.region ?_
          refine St.r (R.move rfl) rfl rfl ?_
          refine St.r (Runs.lit (c := true) (R.eql rfl rfl) (rfl)) rfl rfl ?_
          refine St.r (R.move rfl) rfl rfl ?_
          refine St.take (dg := 28) rfl rfl ?_ rfl
          refine St.r (R.move rfl) rfl rfl ?_
          refine St.take (dg := 28) rfl rfl ?_ rfl
          refine St.r (Runs.lit (c := true) (R.not rfl) (rfl)) rfl rfl ?_
          refine St.r (R.pickT rfl rfl) rfl rfl ?_
          refine St.r (R.move rfl) rfl rfl ?_
          refine St.take (dg := 32) rfl rfl ?_ rfl
          refine St.r (R.move rfl) rfl rfl ?_
          refine St.take (dg := 32) rfl rfl ?_ rfl
          refine St.r (Runs.lit (c := true) (R.eql rfl rfl) (decide_eq_true h34)) rfl rfl ?_
          refine St.take (dg := 32) rfl rfl ?_ rfl
          refine St.r (R.move rfl) rfl rfl ?_
          refine St.pass (dg := 35) rfl rfl rfl rfl rfl ?_
          refine St.pass (dg := 35) rfl rfl rfl rfl rfl ?_
          refine St.pass (dg := 35) rfl rfl rfl rfl rfl ?_
          refine St.passU (dg := 38) rfl rfl rfl rfl ?_
          refine St.passU (dg := 38) rfl rfl rfl rfl ?_
          refine St.pass (dg := 35) rfl rfl rfl rfl rfl ?_
          refine St.pass (dg := 35) rfl rfl rfl rfl rfl ?_
          refine St.passU (dg := 42) rfl rfl rfl rfl ?_
          refine St.passU (dg := 42) rfl rfl rfl rfl ?_
          refine St.pass (dg := 35) rfl rfl rfl rfl rfl ?_
          refine St.pass (dg := 35) rfl rfl rfl rfl rfl ?_
          refine St.passU (dg := 46) rfl rfl rfl rfl ?_
          refine St.passU (dg := 46) rfl rfl rfl rfl ?_
          refine St.pass (dg := 35) rfl rfl rfl rfl rfl ?_
          refine St.take (dg := 32) rfl rfl ?_ rfl
          refine St.r (R.pickT rfl rfl) rfl rfl ?_
          refine St.r (R.pickT rfl rfl) rfl rfl ?_
          refine St.r (R.move rfl) rfl rfl ?_
          refine St.pass (dg := 52) rfl rfl rfl rfl rfl ?_
          refine St.pass (dg := 52) rfl rfl rfl rfl rfl ?_
          refine St.pass (dg := 52) rfl rfl rfl rfl rfl ?_
          refine St.passU (dg := 55) rfl rfl rfl rfl ?_
          refine St.passU (dg := 55) rfl rfl rfl rfl ?_
          refine St.pass (dg := 52) rfl rfl rfl rfl rfl ?_
          refine St.pass (dg := 52) rfl rfl rfl rfl rfl ?_
          refine St.passU (dg := 59) rfl rfl rfl rfl ?_
          refine St.passU (dg := 59) rfl rfl rfl rfl ?_
          refine St.pass (dg := 52) rfl rfl rfl rfl rfl ?_
          refine St.r (R.pickT rfl rfl) rfl rfl ?_
          refine St.r (R.move rfl) rfl rfl ?_
          refine St.pass (dg := 64) rfl rfl rfl rfl rfl ?_
          refine St.pass (dg := 64) rfl rfl rfl rfl rfl ?_
          refine St.pass (dg := 64) rfl rfl rfl rfl rfl ?_
          refine St.passU (dg := 67) rfl rfl rfl rfl ?_
          refine St.passU (dg := 67) rfl rfl rfl rfl ?_
          refine St.passU (dg := 67) rfl rfl rfl rfl ?_
          refine St.passU (dg := 70) rfl rfl rfl rfl ?_
          refine St.passU (dg := 70) rfl rfl rfl rfl ?_
          refine St.passU (dg := 67) rfl rfl rfl rfl ?_
          refine St.pass (dg := 64) rfl rfl rfl rfl rfl ?_
          refine St.r (R.pickT rfl rfl) rfl rfl ?_
          refine St.nil ?_
          refine St.weak [(0, _), (1, _), (5, _), (75, _)] ⟨rfl, rfl, rfl, rfl, trivial⟩ ?_
          refine St.then_n ?_
          refine St.go hK12 ?_
          clear hK12
          refine St.condT rfl ?_
          refine St.seq fun K13 hK13 => ?_
          refine St.region ?_
          refine St.r (R.assign rfl) rfl rfl ?_
          refine St.nil ?_
          refine St.weak [(4, _)] ⟨rfl, trivial⟩ ?_
          refine St.then_n ?_
          refine St.go hK13 ?_
          clear hK13
          refine St.ret ?_
          refine St.in_r ?_
          refine St.then_r ?_
          refine St.then_r ?_
          refine St.in_r ?_
          refine St.then_r ?_
          refine St.ret1 Tryz.results119 rfl ?_
          obtain rfl : k = 0 := by omega
          exact ⟨_, rfl, by rw [rightS_first h10 (by rw [first_at hx, ha])], E⟩
        ·
          cases hd : digitB x
          ·
            by_cases h40 : (x.toNat : Int) ≠ 58
            ·
              by_cases h44 : (x.toNat : Int) ≠ 47
              ·
                by_cases h48 : (x.toNat : Int) ≠ 46
                ·
                  refine St.region ?_
                  refine St.r (R.move rfl) rfl rfl ?_
                  refine St.r (Runs.lit (c := true) (R.eql rfl rfl) (rfl)) rfl rfl ?_
                  refine St.r (R.move rfl) rfl rfl ?_
                  refine St.take (dg := 28) rfl rfl ?_ rfl
                  refine St.r (R.move rfl) rfl rfl ?_
                  refine St.take (dg := 28) rfl rfl ?_ rfl
                  refine St.r (Runs.lit (c := true) (R.not rfl) (rfl)) rfl rfl ?_
                  refine St.r (R.pickT rfl rfl) rfl rfl ?_
                  refine St.r (R.move rfl) rfl rfl ?_
                  refine St.take (dg := 32) rfl rfl ?_ rfl
                  refine St.r (R.move rfl) rfl rfl ?_
                  refine St.take (dg := 32) rfl rfl ?_ rfl
                  refine St.r (Runs.lit (c := false) (R.eql rfl rfl) (decide_eq_false h34)) rfl rfl ?_
                  refine St.take (dg := 32) rfl rfl ?_ rfl
                  refine St.r (R.move rfl) rfl rfl ?_
                  refine St.take (dg := 35) rfl rfl ?_ rfl
                  refine St.r (R.move rfl) rfl rfl ?_
                  refine St.take (dg := 35) rfl rfl ?_ rfl
                  refine St.r (Runs.lit (c := true) (R.not rfl) (rfl)) rfl rfl ?_
                  refine St.take (dg := 35) rfl rfl ?_ rfl
                  refine St.r (R.move rfl) rfl rfl ?_
                  refine St.take (dg := 38) rfl rfl ?_ rfl
                  refine St.r (R.move rfl) rfl rfl ?_
                  refine St.take (dg := 38) rfl rfl ?_ rfl
                  refine St.r (Runs.lit (c := true) (R.neq rfl rfl) (decide_eq_true h40)) rfl rfl ?_
                  refine St.take (dg := 35) rfl rfl ?_ rfl
                  refine St.r (R.pickT rfl rfl) rfl rfl ?_
                  refine St.take (dg := 35) rfl rfl ?_ rfl
                  refine St.r (R.move rfl) rfl rfl ?_
                  refine St.take (dg := 42) rfl rfl ?_ rfl
                  refine St.r (R.move rfl) rfl rfl ?_
                  refine St.take (dg := 42) rfl rfl ?_ rfl
                  refine St.r (Runs.lit (c := true) (R.neq rfl rfl) (decide_eq_true h44)) rfl rfl ?_
                  refine St.take (dg := 35) rfl rfl ?_ rfl
                  refine St.r (R.pickT rfl rfl) rfl rfl ?_
                  refine St.take (dg := 35) rfl rfl ?_ rfl
                  refine St.r (R.move rfl) rfl rfl ?_
                  refine St.take (dg := 46) rfl rfl ?_ rfl
                  refine St.r (R.move rfl) rfl rfl ?_
                  refine St.take (dg := 46) rfl rfl ?_ rfl
                  refine St.r (Runs.lit (c := true) (R.neq rfl rfl) (decide_eq_true h48)) rfl rfl ?_
                  refine St.take (dg := 35) rfl rfl ?_ rfl
                  refine St.r (R.pickT rfl rfl) rfl rfl ?_
                  refine St.take (dg := 32) rfl rfl ?_ rfl
                  refine St.r (R.pickF rfl rfl) rfl rfl ?_
                  refine St.r (R.pickT rfl rfl) rfl rfl ?_
                  refine St.r (R.move rfl) rfl rfl ?_
                  refine St.pass (dg := 52) rfl rfl rfl rfl rfl ?_
                  refine St.pass (dg := 52) rfl rfl rfl rfl rfl ?_
                  refine St.pass (dg := 52) rfl rfl rfl rfl rfl ?_
                  refine St.passU (dg := 55) rfl rfl rfl rfl ?_
                  refine St.passU (dg := 55) rfl rfl rfl rfl ?_
                  refine St.pass (dg := 52) rfl rfl rfl rfl rfl ?_
                  refine St.pass (dg := 52) rfl rfl rfl rfl rfl ?_
                  refine St.passU (dg := 59) rfl rfl rfl rfl ?_
                  refine St.passU (dg := 59) rfl rfl rfl rfl ?_
                  refine St.pass (dg := 52) rfl rfl rfl rfl rfl ?_
                  refine St.r (R.pickT rfl rfl) rfl rfl ?_
                  refine St.r (R.move rfl) rfl rfl ?_
                  refine St.pass (dg := 64) rfl rfl rfl rfl rfl ?_
                  refine St.pass (dg := 64) rfl rfl rfl rfl rfl ?_
                  refine St.pass (dg := 64) rfl rfl rfl rfl rfl ?_
                  refine St.passU (dg := 67) rfl rfl rfl rfl ?_
                  refine St.passU (dg := 67) rfl rfl rfl rfl ?_
                  refine St.passU (dg := 67) rfl rfl rfl rfl ?_
                  refine St.passU (dg := 70) rfl rfl rfl rfl ?_
                  refine St.passU (dg := 70) rfl rfl rfl rfl ?_
                  refine St.passU (dg := 67) rfl rfl rfl rfl ?_
                  refine St.pass (dg := 64) rfl rfl rfl rfl rfl ?_
                  refine St.r (R.pickT rfl rfl) rfl rfl ?_
                  refine St.nil ?_
                  refine St.weak [(0, _), (1, _), (5, _), (75, _)] ⟨rfl, rfl, rfl, rfl, trivial⟩ ?_
                  refine St.then_n ?_
                  refine St.go hK12 ?_
                  clear hK12
                  refine St.condT rfl ?_
                  refine St.seq fun K14 hK14 => ?_
                  refine St.region ?_
                  refine St.r (R.assign rfl) rfl rfl ?_
                  refine St.nil ?_
                  refine St.weak [(4, _)] ⟨rfl, trivial⟩ ?_
                  refine St.then_n ?_
                  refine St.go hK14 ?_
                  clear hK14
                  refine St.ret ?_
                  refine St.in_r ?_
                  refine St.then_r ?_
                  refine St.then_r ?_
                  refine St.in_r ?_
                  refine St.then_r ?_
                  refine St.ret1 Tryz.results119 rfl ?_
                  exact ⟨_, rfl, by rw [rightS_bad h10 (all_not hx (by simp [okByte, nameB, ha, hd, h40, h44, h48]))], E⟩
                ·
                  refine St.region ?_
                  refine St.r (R.move rfl) rfl rfl ?_
                  refine St.r (Runs.lit (c := true) (R.eql rfl rfl) (rfl)) rfl rfl ?_
                  refine St.r (R.move rfl) rfl rfl ?_
                  refine St.take (dg := 28) rfl rfl ?_ rfl
                  refine St.r (R.move rfl) rfl rfl ?_
                  refine St.take (dg := 28) rfl rfl ?_ rfl
                  refine St.r (Runs.lit (c := true) (R.not rfl) (rfl)) rfl rfl ?_
                  refine St.r (R.pickT rfl rfl) rfl rfl ?_
                  refine St.r (R.move rfl) rfl rfl ?_
                  refine St.take (dg := 32) rfl rfl ?_ rfl
                  refine St.r (R.move rfl) rfl rfl ?_
                  refine St.take (dg := 32) rfl rfl ?_ rfl
                  refine St.r (Runs.lit (c := false) (R.eql rfl rfl) (decide_eq_false h34)) rfl rfl ?_
                  refine St.take (dg := 32) rfl rfl ?_ rfl
                  refine St.r (R.move rfl) rfl rfl ?_
                  refine St.take (dg := 35) rfl rfl ?_ rfl
                  refine St.r (R.move rfl) rfl rfl ?_
                  refine St.take (dg := 35) rfl rfl ?_ rfl
                  refine St.r (Runs.lit (c := true) (R.not rfl) (rfl)) rfl rfl ?_
                  refine St.take (dg := 35) rfl rfl ?_ rfl
                  refine St.r (R.move rfl) rfl rfl ?_
                  refine St.take (dg := 38) rfl rfl ?_ rfl
                  refine St.r (R.move rfl) rfl rfl ?_
                  refine St.take (dg := 38) rfl rfl ?_ rfl
                  refine St.r (Runs.lit (c := true) (R.neq rfl rfl) (decide_eq_true h40)) rfl rfl ?_
                  refine St.take (dg := 35) rfl rfl ?_ rfl
                  refine St.r (R.pickT rfl rfl) rfl rfl ?_
                  refine St.take (dg := 35) rfl rfl ?_ rfl
                  refine St.r (R.move rfl) rfl rfl ?_
                  refine St.take (dg := 42) rfl rfl ?_ rfl
                  refine St.r (R.move rfl) rfl rfl ?_
                  refine St.take (dg := 42) rfl rfl ?_ rfl
                  refine St.r (Runs.lit (c := true) (R.neq rfl rfl) (decide_eq_true h44)) rfl rfl ?_
                  refine St.take (dg := 35) rfl rfl ?_ rfl
                  refine St.r (R.pickT rfl rfl) rfl rfl ?_
                  refine St.take (dg := 35) rfl rfl ?_ rfl
                  refine St.r (R.move rfl) rfl rfl ?_
                  refine St.take (dg := 46) rfl rfl ?_ rfl
                  refine St.r (R.move rfl) rfl rfl ?_
                  refine St.take (dg := 46) rfl rfl ?_ rfl
                  refine St.r (Runs.lit (c := false) (R.neq rfl rfl) (decide_eq_false h48)) rfl rfl ?_
                  refine St.take (dg := 35) rfl rfl ?_ rfl
                  refine St.r (R.pickT rfl rfl) rfl rfl ?_
                  refine St.take (dg := 32) rfl rfl ?_ rfl
                  refine St.r (R.pickF rfl rfl) rfl rfl ?_
                  refine St.r (R.pickT rfl rfl) rfl rfl ?_
                  refine St.r (R.move rfl) rfl rfl ?_
                  refine St.take (dg := 52) rfl rfl ?_ rfl
                  refine St.r (R.move rfl) rfl rfl ?_
                  refine St.take (dg := 52) rfl rfl ?_ rfl
                  refine St.r (Runs.lit (c := false) (R.eql rfl rfl) (rfl)) rfl rfl ?_
                  refine St.take (dg := 52) rfl rfl ?_ rfl
                  refine St.r (R.move rfl) rfl rfl ?_
                  refine St.pass (dg := 55) rfl rfl rfl rfl rfl ?_
                  refine St.pass (dg := 55) rfl rfl rfl rfl rfl ?_
                  refine St.take (dg := 52) rfl rfl ?_ rfl
                  refine St.r (R.pickF rfl rfl) rfl rfl ?_
                  refine St.take (dg := 52) rfl rfl ?_ rfl
                  refine St.r (R.move rfl) rfl rfl ?_
                  refine St.pass (dg := 59) rfl rfl rfl rfl rfl ?_
                  refine St.pass (dg := 59) rfl rfl rfl rfl rfl ?_
                  refine St.take (dg := 52) rfl rfl ?_ rfl
                  refine St.r (R.pickF rfl rfl) rfl rfl ?_
                  refine St.r (R.pickF rfl rfl) rfl rfl ?_
                  refine St.r (R.move rfl) rfl rfl ?_
                  refine St.take (dg := 64) rfl rfl ?_ rfl
                  refine St.r (R.move rfl) rfl rfl ?_
                  refine St.take (dg := 64) rfl rfl ?_ rfl
                  refine St.r (Runs.lit (c := false) (R.eql rfl rfl) (rfl)) rfl rfl ?_
                  refine St.take (dg := 64) rfl rfl ?_ rfl
                  refine St.r (R.move rfl) rfl rfl ?_
                  refine St.pass (dg := 67) rfl rfl rfl rfl rfl ?_
                  refine St.pass (dg := 67) rfl rfl rfl rfl rfl ?_
                  refine St.pass (dg := 67) rfl rfl rfl rfl rfl ?_
                  refine St.passU (dg := 70) rfl rfl rfl rfl ?_
                  refine St.passU (dg := 70) rfl rfl rfl rfl ?_
                  refine St.pass (dg := 67) rfl rfl rfl rfl rfl ?_
                  refine St.take (dg := 64) rfl rfl ?_ rfl
                  refine St.r (R.pickF rfl rfl) rfl rfl ?_
                  refine St.r (R.pickF rfl rfl) rfl rfl ?_
                  refine St.nil ?_
                  refine St.weak [(0, _), (1, _), (5, _), (75, _)] ⟨rfl, rfl, rfl, rfl, trivial⟩ ?_
                  refine St.then_n ?_
                  refine St.go hK12 ?_
                  clear hK12
                  refine St.condF rfl ?_
                  refine St.skip ?_
                  refine St.in_n ?_
                  refine St.then_n ?_
                  refine St.go hK8 ?_
                  clear hK8
                  refine St.region ?_
                  refine St.r (R.move rfl) rfl rfl ?_
                  refine St.r (R.add rfl rfl (by omega) (by omega)) rfl rfl ?_
                  refine St.r (R.assign rfl) rfl rfl ?_
                  refine St.nil ?_
                  refine St.weak [(0, _), (1, _), (5, _)] ⟨rfl, rfl, rfl, trivial⟩ ?_
                  refine St.then_n ?_
                  refine St.round (k + 1) ⟨rfl, rfl, rfl, trivial⟩ ?_ ?_
                  · exact ⟨by omega, E, all_snoc hall hx (by simp [okByte, nameB, ha, hd, Decidable.not_not.1 h48]), fun _ => hf (by omega)⟩
                  · omega
              ·
                refine St.region ?_
                refine St.r (R.move rfl) rfl rfl ?_
                refine St.r (Runs.lit (c := true) (R.eql rfl rfl) (rfl)) rfl rfl ?_
                refine St.r (R.move rfl) rfl rfl ?_
                refine St.take (dg := 28) rfl rfl ?_ rfl
                refine St.r (R.move rfl) rfl rfl ?_
                refine St.take (dg := 28) rfl rfl ?_ rfl
                refine St.r (Runs.lit (c := true) (R.not rfl) (rfl)) rfl rfl ?_
                refine St.r (R.pickT rfl rfl) rfl rfl ?_
                refine St.r (R.move rfl) rfl rfl ?_
                refine St.take (dg := 32) rfl rfl ?_ rfl
                refine St.r (R.move rfl) rfl rfl ?_
                refine St.take (dg := 32) rfl rfl ?_ rfl
                refine St.r (Runs.lit (c := false) (R.eql rfl rfl) (decide_eq_false h34)) rfl rfl ?_
                refine St.take (dg := 32) rfl rfl ?_ rfl
                refine St.r (R.move rfl) rfl rfl ?_
                refine St.take (dg := 35) rfl rfl ?_ rfl
                refine St.r (R.move rfl) rfl rfl ?_
                refine St.take (dg := 35) rfl rfl ?_ rfl
                refine St.r (Runs.lit (c := true) (R.not rfl) (rfl)) rfl rfl ?_
                refine St.take (dg := 35) rfl rfl ?_ rfl
                refine St.r (R.move rfl) rfl rfl ?_
                refine St.take (dg := 38) rfl rfl ?_ rfl
                refine St.r (R.move rfl) rfl rfl ?_
                refine St.take (dg := 38) rfl rfl ?_ rfl
                refine St.r (Runs.lit (c := true) (R.neq rfl rfl) (decide_eq_true h40)) rfl rfl ?_
                refine St.take (dg := 35) rfl rfl ?_ rfl
                refine St.r (R.pickT rfl rfl) rfl rfl ?_
                refine St.take (dg := 35) rfl rfl ?_ rfl
                refine St.r (R.move rfl) rfl rfl ?_
                refine St.take (dg := 42) rfl rfl ?_ rfl
                refine St.r (R.move rfl) rfl rfl ?_
                refine St.take (dg := 42) rfl rfl ?_ rfl
                refine St.r (Runs.lit (c := false) (R.neq rfl rfl) (decide_eq_false h44)) rfl rfl ?_
                refine St.take (dg := 35) rfl rfl ?_ rfl
                refine St.r (R.pickT rfl rfl) rfl rfl ?_
                refine St.take (dg := 35) rfl rfl ?_ rfl
                refine St.r (R.move rfl) rfl rfl ?_
                refine St.pass (dg := 46) rfl rfl rfl rfl rfl ?_
                refine St.pass (dg := 46) rfl rfl rfl rfl rfl ?_
                refine St.take (dg := 35) rfl rfl ?_ rfl
                refine St.r (R.pickF rfl rfl) rfl rfl ?_
                refine St.take (dg := 32) rfl rfl ?_ rfl
                refine St.r (R.pickF rfl rfl) rfl rfl ?_
                refine St.r (R.pickT rfl rfl) rfl rfl ?_
                refine St.r (R.move rfl) rfl rfl ?_
                refine St.take (dg := 52) rfl rfl ?_ rfl
                refine St.r (R.move rfl) rfl rfl ?_
                refine St.take (dg := 52) rfl rfl ?_ rfl
                refine St.r (Runs.lit (c := false) (R.eql rfl rfl) (rfl)) rfl rfl ?_
                refine St.take (dg := 52) rfl rfl ?_ rfl
                refine St.r (R.move rfl) rfl rfl ?_
                refine St.pass (dg := 55) rfl rfl rfl rfl rfl ?_
                refine St.pass (dg := 55) rfl rfl rfl rfl rfl ?_
                refine St.take (dg := 52) rfl rfl ?_ rfl
                refine St.r (R.pickF rfl rfl) rfl rfl ?_
                refine St.take (dg := 52) rfl rfl ?_ rfl
                refine St.r (R.move rfl) rfl rfl ?_
                refine St.pass (dg := 59) rfl rfl rfl rfl rfl ?_
                refine St.pass (dg := 59) rfl rfl rfl rfl rfl ?_
                refine St.take (dg := 52) rfl rfl ?_ rfl
                refine St.r (R.pickF rfl rfl) rfl rfl ?_
                refine St.r (R.pickF rfl rfl) rfl rfl ?_
                refine St.r (R.move rfl) rfl rfl ?_
                refine St.take (dg := 64) rfl rfl ?_ rfl
                refine St.r (R.move rfl) rfl rfl ?_
                refine St.take (dg := 64) rfl rfl ?_ rfl
                refine St.r (Runs.lit (c := false) (R.eql rfl rfl) (rfl)) rfl rfl ?_
                refine St.take (dg := 64) rfl rfl ?_ rfl
                refine St.r (R.move rfl) rfl rfl ?_
                refine St.pass (dg := 67) rfl rfl rfl rfl rfl ?_
                refine St.pass (dg := 67) rfl rfl rfl rfl rfl ?_
                refine St.pass (dg := 67) rfl rfl rfl rfl rfl ?_
                refine St.passU (dg := 70) rfl rfl rfl rfl ?_
                refine St.passU (dg := 70) rfl rfl rfl rfl ?_
                refine St.pass (dg := 67) rfl rfl rfl rfl rfl ?_
                refine St.take (dg := 64) rfl rfl ?_ rfl
                refine St.r (R.pickF rfl rfl) rfl rfl ?_
                refine St.r (R.pickF rfl rfl) rfl rfl ?_
                refine St.nil ?_
                refine St.weak [(0, _), (1, _), (5, _), (75, _)] ⟨rfl, rfl, rfl, rfl, trivial⟩ ?_
                refine St.then_n ?_
                refine St.go hK12 ?_
                clear hK12
                refine St.condF rfl ?_
                refine St.skip ?_
                refine St.in_n ?_
                refine St.then_n ?_
                refine St.go hK8 ?_
                clear hK8
                refine St.region ?_
                refine St.r (R.move rfl) rfl rfl ?_
                refine St.r (R.add rfl rfl (by omega) (by omega)) rfl rfl ?_
                refine St.r (R.assign rfl) rfl rfl ?_
                refine St.nil ?_
                refine St.weak [(0, _), (1, _), (5, _)] ⟨rfl, rfl, rfl, trivial⟩ ?_
                refine St.then_n ?_
                refine St.round (k + 1) ⟨rfl, rfl, rfl, trivial⟩ ?_ ?_
                · exact ⟨by omega, E, all_snoc hall hx (by simp [okByte, nameB, ha, hd, Decidable.not_not.1 h44]), fun _ => hf (by omega)⟩
                · omega
            ·
              refine St.region ?_
              refine St.r (R.move rfl) rfl rfl ?_
              refine St.r (Runs.lit (c := true) (R.eql rfl rfl) (rfl)) rfl rfl ?_
              refine St.r (R.move rfl) rfl rfl ?_
              refine St.take (dg := 28) rfl rfl ?_ rfl
              refine St.r (R.move rfl) rfl rfl ?_
              refine St.take (dg := 28) rfl rfl ?_ rfl
              refine St.r (Runs.lit (c := true) (R.not rfl) (rfl)) rfl rfl ?_
              refine St.r (R.pickT rfl rfl) rfl rfl ?_
              refine St.r (R.move rfl) rfl rfl ?_
              refine St.take (dg := 32) rfl rfl ?_ rfl
              refine St.r (R.move rfl) rfl rfl ?_
              refine St.take (dg := 32) rfl rfl ?_ rfl
              refine St.r (Runs.lit (c := false) (R.eql rfl rfl) (decide_eq_false h34)) rfl rfl ?_
              refine St.take (dg := 32) rfl rfl ?_ rfl
              refine St.r (R.move rfl) rfl rfl ?_
              refine St.take (dg := 35) rfl rfl ?_ rfl
              refine St.r (R.move rfl) rfl rfl ?_
              refine St.take (dg := 35) rfl rfl ?_ rfl
              refine St.r (Runs.lit (c := true) (R.not rfl) (rfl)) rfl rfl ?_
              refine St.take (dg := 35) rfl rfl ?_ rfl
              refine St.r (R.move rfl) rfl rfl ?_
              refine St.take (dg := 38) rfl rfl ?_ rfl
              refine St.r (R.move rfl) rfl rfl ?_
              refine St.take (dg := 38) rfl rfl ?_ rfl
              refine St.r (Runs.lit (c := false) (R.neq rfl rfl) (decide_eq_false h40)) rfl rfl ?_
              refine St.take (dg := 35) rfl rfl ?_ rfl
              refine St.r (R.pickT rfl rfl) rfl rfl ?_
              refine St.take (dg := 35) rfl rfl ?_ rfl
              refine St.r (R.move rfl) rfl rfl ?_
              refine St.pass (dg := 42) rfl rfl rfl rfl rfl ?_
              refine St.pass (dg := 42) rfl rfl rfl rfl rfl ?_
              refine St.take (dg := 35) rfl rfl ?_ rfl
              refine St.r (R.pickF rfl rfl) rfl rfl ?_
              refine St.take (dg := 35) rfl rfl ?_ rfl
              refine St.r (R.move rfl) rfl rfl ?_
              refine St.pass (dg := 46) rfl rfl rfl rfl rfl ?_
              refine St.pass (dg := 46) rfl rfl rfl rfl rfl ?_
              refine St.take (dg := 35) rfl rfl ?_ rfl
              refine St.r (R.pickF rfl rfl) rfl rfl ?_
              refine St.take (dg := 32) rfl rfl ?_ rfl
              refine St.r (R.pickF rfl rfl) rfl rfl ?_
              refine St.r (R.pickT rfl rfl) rfl rfl ?_
              refine St.r (R.move rfl) rfl rfl ?_
              refine St.take (dg := 52) rfl rfl ?_ rfl
              refine St.r (R.move rfl) rfl rfl ?_
              refine St.take (dg := 52) rfl rfl ?_ rfl
              refine St.r (Runs.lit (c := false) (R.eql rfl rfl) (rfl)) rfl rfl ?_
              refine St.take (dg := 52) rfl rfl ?_ rfl
              refine St.r (R.move rfl) rfl rfl ?_
              refine St.pass (dg := 55) rfl rfl rfl rfl rfl ?_
              refine St.pass (dg := 55) rfl rfl rfl rfl rfl ?_
              refine St.take (dg := 52) rfl rfl ?_ rfl
              refine St.r (R.pickF rfl rfl) rfl rfl ?_
              refine St.take (dg := 52) rfl rfl ?_ rfl
              refine St.r (R.move rfl) rfl rfl ?_
              refine St.pass (dg := 59) rfl rfl rfl rfl rfl ?_
              refine St.pass (dg := 59) rfl rfl rfl rfl rfl ?_
              refine St.take (dg := 52) rfl rfl ?_ rfl
              refine St.r (R.pickF rfl rfl) rfl rfl ?_
              refine St.r (R.pickF rfl rfl) rfl rfl ?_
              refine St.r (R.move rfl) rfl rfl ?_
              refine St.take (dg := 64) rfl rfl ?_ rfl
              refine St.r (R.move rfl) rfl rfl ?_
              refine St.take (dg := 64) rfl rfl ?_ rfl
              refine St.r (Runs.lit (c := false) (R.eql rfl rfl) (rfl)) rfl rfl ?_
              refine St.take (dg := 64) rfl rfl ?_ rfl
              refine St.r (R.move rfl) rfl rfl ?_
              refine St.pass (dg := 67) rfl rfl rfl rfl rfl ?_
              refine St.pass (dg := 67) rfl rfl rfl rfl rfl ?_
              refine St.pass (dg := 67) rfl rfl rfl rfl rfl ?_
              refine St.passU (dg := 70) rfl rfl rfl rfl ?_
              refine St.passU (dg := 70) rfl rfl rfl rfl ?_
              refine St.pass (dg := 67) rfl rfl rfl rfl rfl ?_
              refine St.take (dg := 64) rfl rfl ?_ rfl
              refine St.r (R.pickF rfl rfl) rfl rfl ?_
              refine St.r (R.pickF rfl rfl) rfl rfl ?_
              refine St.nil ?_
              refine St.weak [(0, _), (1, _), (5, _), (75, _)] ⟨rfl, rfl, rfl, rfl, trivial⟩ ?_
              refine St.then_n ?_
              refine St.go hK12 ?_
              clear hK12
              refine St.condF rfl ?_
              refine St.skip ?_
              refine St.in_n ?_
              refine St.then_n ?_
              refine St.go hK8 ?_
              clear hK8
              refine St.region ?_
              refine St.r (R.move rfl) rfl rfl ?_
              refine St.r (R.add rfl rfl (by omega) (by omega)) rfl rfl ?_
              refine St.r (R.assign rfl) rfl rfl ?_
              refine St.nil ?_
              refine St.weak [(0, _), (1, _), (5, _)] ⟨rfl, rfl, rfl, trivial⟩ ?_
              refine St.then_n ?_
              refine St.round (k + 1) ⟨rfl, rfl, rfl, trivial⟩ ?_ ?_
              · exact ⟨by omega, E, all_snoc hall hx (by simp [okByte, nameB, ha, hd, Decidable.not_not.1 h40]), fun _ => hf (by omega)⟩
              · omega
          ·
            refine St.region ?_
            refine St.r (R.move rfl) rfl rfl ?_
            refine St.r (Runs.lit (c := true) (R.eql rfl rfl) (rfl)) rfl rfl ?_
            refine St.r (R.move rfl) rfl rfl ?_
            refine St.take (dg := 28) rfl rfl ?_ rfl
            refine St.r (R.move rfl) rfl rfl ?_
            refine St.take (dg := 28) rfl rfl ?_ rfl
            refine St.r (Runs.lit (c := true) (R.not rfl) (rfl)) rfl rfl ?_
            refine St.r (R.pickT rfl rfl) rfl rfl ?_
            refine St.r (R.move rfl) rfl rfl ?_
            refine St.take (dg := 32) rfl rfl ?_ rfl
            refine St.r (R.move rfl) rfl rfl ?_
            refine St.take (dg := 32) rfl rfl ?_ rfl
            refine St.r (Runs.lit (c := false) (R.eql rfl rfl) (decide_eq_false h34)) rfl rfl ?_
            refine St.take (dg := 32) rfl rfl ?_ rfl
            refine St.r (R.move rfl) rfl rfl ?_
            refine St.take (dg := 35) rfl rfl ?_ rfl
            refine St.r (R.move rfl) rfl rfl ?_
            refine St.take (dg := 35) rfl rfl ?_ rfl
            refine St.r (Runs.lit (c := false) (R.not rfl) (rfl)) rfl rfl ?_
            refine St.take (dg := 35) rfl rfl ?_ rfl
            refine St.r (R.move rfl) rfl rfl ?_
            refine St.pass (dg := 38) rfl rfl rfl rfl rfl ?_
            refine St.pass (dg := 38) rfl rfl rfl rfl rfl ?_
            refine St.take (dg := 35) rfl rfl ?_ rfl
            refine St.r (R.pickF rfl rfl) rfl rfl ?_
            refine St.take (dg := 35) rfl rfl ?_ rfl
            refine St.r (R.move rfl) rfl rfl ?_
            refine St.pass (dg := 42) rfl rfl rfl rfl rfl ?_
            refine St.pass (dg := 42) rfl rfl rfl rfl rfl ?_
            refine St.take (dg := 35) rfl rfl ?_ rfl
            refine St.r (R.pickF rfl rfl) rfl rfl ?_
            refine St.take (dg := 35) rfl rfl ?_ rfl
            refine St.r (R.move rfl) rfl rfl ?_
            refine St.pass (dg := 46) rfl rfl rfl rfl rfl ?_
            refine St.pass (dg := 46) rfl rfl rfl rfl rfl ?_
            refine St.take (dg := 35) rfl rfl ?_ rfl
            refine St.r (R.pickF rfl rfl) rfl rfl ?_
            refine St.take (dg := 32) rfl rfl ?_ rfl
            refine St.r (R.pickF rfl rfl) rfl rfl ?_
            refine St.r (R.pickT rfl rfl) rfl rfl ?_
            refine St.r (R.move rfl) rfl rfl ?_
            refine St.take (dg := 52) rfl rfl ?_ rfl
            refine St.r (R.move rfl) rfl rfl ?_
            refine St.take (dg := 52) rfl rfl ?_ rfl
            refine St.r (Runs.lit (c := false) (R.eql rfl rfl) (rfl)) rfl rfl ?_
            refine St.take (dg := 52) rfl rfl ?_ rfl
            refine St.r (R.move rfl) rfl rfl ?_
            refine St.pass (dg := 55) rfl rfl rfl rfl rfl ?_
            refine St.pass (dg := 55) rfl rfl rfl rfl rfl ?_
            refine St.take (dg := 52) rfl rfl ?_ rfl
            refine St.r (R.pickF rfl rfl) rfl rfl ?_
            refine St.take (dg := 52) rfl rfl ?_ rfl
            refine St.r (R.move rfl) rfl rfl ?_
            refine St.pass (dg := 59) rfl rfl rfl rfl rfl ?_
            refine St.pass (dg := 59) rfl rfl rfl rfl rfl ?_
            refine St.take (dg := 52) rfl rfl ?_ rfl
            refine St.r (R.pickF rfl rfl) rfl rfl ?_
            refine St.r (R.pickF rfl rfl) rfl rfl ?_
            refine St.r (R.move rfl) rfl rfl ?_
            refine St.take (dg := 64) rfl rfl ?_ rfl
            refine St.r (R.move rfl) rfl rfl ?_
            refine St.take (dg := 64) rfl rfl ?_ rfl
            refine St.r (Runs.lit (c := false) (R.eql rfl rfl) (rfl)) rfl rfl ?_
            refine St.take (dg := 64) rfl rfl ?_ rfl
            refine St.r (R.move rfl) rfl rfl ?_
            refine St.pass (dg := 67) rfl rfl rfl rfl rfl ?_
            refine St.pass (dg := 67) rfl rfl rfl rfl rfl ?_
            refine St.pass (dg := 67) rfl rfl rfl rfl rfl ?_
            refine St.passU (dg := 70) rfl rfl rfl rfl ?_
            refine St.passU (dg := 70) rfl rfl rfl rfl ?_
            refine St.pass (dg := 67) rfl rfl rfl rfl rfl ?_
            refine St.take (dg := 64) rfl rfl ?_ rfl
            refine St.r (R.pickF rfl rfl) rfl rfl ?_
            refine St.r (R.pickF rfl rfl) rfl rfl ?_
            refine St.nil ?_
            refine St.weak [(0, _), (1, _), (5, _), (75, _)] ⟨rfl, rfl, rfl, rfl, trivial⟩ ?_
            refine St.then_n ?_
            refine St.go hK12 ?_
            clear hK12
            refine St.condF rfl ?_
            refine St.skip ?_
            refine St.in_n ?_
            refine St.then_n ?_
            refine St.go hK8 ?_
            clear hK8
            refine St.region ?_
            refine St.r (R.move rfl) rfl rfl ?_
            refine St.r (R.add rfl rfl (by omega) (by omega)) rfl rfl ?_
            refine St.r (R.assign rfl) rfl rfl ?_
            refine St.nil ?_
            refine St.weak [(0, _), (1, _), (5, _)] ⟨rfl, rfl, rfl, trivial⟩ ?_
            refine St.then_n ?_
            refine St.round (k + 1) ⟨rfl, rfl, rfl, trivial⟩ ?_ ?_
            · exact ⟨by omega, E, all_snoc hall hx (by simp [okByte, nameB, ha, hd]), fun _ => hf (by omega)⟩
            · omega
      ·
        refine St.region ?_
        refine St.r (R.move rfl) rfl rfl ?_
        refine St.r (Runs.lit (c := true) (R.eql rfl rfl) (rfl)) rfl rfl ?_
        refine St.r (R.move rfl) rfl rfl ?_
        refine St.take (dg := 28) rfl rfl ?_ rfl
        refine St.r (R.move rfl) rfl rfl ?_
        refine St.take (dg := 28) rfl rfl ?_ rfl
        refine St.r (Runs.lit (c := false) (R.not rfl) (rfl)) rfl rfl ?_
        refine St.r (R.pickT rfl rfl) rfl rfl ?_
        refine St.r (R.move rfl) rfl rfl ?_
        refine St.pass (dg := 32) rfl rfl rfl rfl rfl ?_
        refine St.pass (dg := 32) rfl rfl rfl rfl rfl ?_
        refine St.pass (dg := 32) rfl rfl rfl rfl rfl ?_
        refine St.passU (dg := 35) rfl rfl rfl rfl ?_
        refine St.passU (dg := 35) rfl rfl rfl rfl ?_
        refine St.passU (dg := 35) rfl rfl rfl rfl ?_
        refine St.passU (dg := 38) rfl rfl rfl rfl ?_
        refine St.passU (dg := 38) rfl rfl rfl rfl ?_
        refine St.passU (dg := 35) rfl rfl rfl rfl ?_
        refine St.passU (dg := 35) rfl rfl rfl rfl ?_
        refine St.passU (dg := 42) rfl rfl rfl rfl ?_
        refine St.passU (dg := 42) rfl rfl rfl rfl ?_
        refine St.passU (dg := 35) rfl rfl rfl rfl ?_
        refine St.passU (dg := 35) rfl rfl rfl rfl ?_
        refine St.passU (dg := 46) rfl rfl rfl rfl ?_
        refine St.passU (dg := 46) rfl rfl rfl rfl ?_
        refine St.passU (dg := 35) rfl rfl rfl rfl ?_
        refine St.pass (dg := 32) rfl rfl rfl rfl rfl ?_
        refine St.r (R.pickF rfl rfl) rfl rfl ?_
        refine St.r (R.move rfl) rfl rfl ?_
        refine St.take (dg := 52) rfl rfl ?_ rfl
        refine St.r (R.move rfl) rfl rfl ?_
        refine St.take (dg := 52) rfl rfl ?_ rfl
        refine St.r (Runs.lit (c := false) (R.eql rfl rfl) (rfl)) rfl rfl ?_
        refine St.take (dg := 52) rfl rfl ?_ rfl
        refine St.r (R.move rfl) rfl rfl ?_
        refine St.pass (dg := 55) rfl rfl rfl rfl rfl ?_
        refine St.pass (dg := 55) rfl rfl rfl rfl rfl ?_
        refine St.take (dg := 52) rfl rfl ?_ rfl
        refine St.r (R.pickF rfl rfl) rfl rfl ?_
        refine St.take (dg := 52) rfl rfl ?_ rfl
        refine St.r (R.move rfl) rfl rfl ?_
        refine St.pass (dg := 59) rfl rfl rfl rfl rfl ?_
        refine St.pass (dg := 59) rfl rfl rfl rfl rfl ?_
        refine St.take (dg := 52) rfl rfl ?_ rfl
        refine St.r (R.pickF rfl rfl) rfl rfl ?_
        refine St.r (R.pickF rfl rfl) rfl rfl ?_
        refine St.r (R.move rfl) rfl rfl ?_
        refine St.take (dg := 64) rfl rfl ?_ rfl
        refine St.r (R.move rfl) rfl rfl ?_
        refine St.take (dg := 64) rfl rfl ?_ rfl
        refine St.r (Runs.lit (c := false) (R.eql rfl rfl) (rfl)) rfl rfl ?_
        refine St.take (dg := 64) rfl rfl ?_ rfl
        refine St.r (R.move rfl) rfl rfl ?_
        refine St.pass (dg := 67) rfl rfl rfl rfl rfl ?_
        refine St.pass (dg := 67) rfl rfl rfl rfl rfl ?_
        refine St.pass (dg := 67) rfl rfl rfl rfl rfl ?_
        refine St.passU (dg := 70) rfl rfl rfl rfl ?_
        refine St.passU (dg := 70) rfl rfl rfl rfl ?_
        refine St.pass (dg := 67) rfl rfl rfl rfl rfl ?_
        refine St.take (dg := 64) rfl rfl ?_ rfl
        refine St.r (R.pickF rfl rfl) rfl rfl ?_
        refine St.r (R.pickF rfl rfl) rfl rfl ?_
        refine St.nil ?_
        refine St.weak [(0, _), (1, _), (5, _), (75, _)] ⟨rfl, rfl, rfl, rfl, trivial⟩ ?_
        refine St.then_n ?_
        refine St.go hK12 ?_
        clear hK12
        refine St.condF rfl ?_
        refine St.skip ?_
        refine St.in_n ?_
        refine St.then_n ?_
        refine St.go hK8 ?_
        clear hK8
        refine St.region ?_
        refine St.r (R.move rfl) rfl rfl ?_
        refine St.r (R.add rfl rfl (by omega) (by omega)) rfl rfl ?_
        refine St.r (R.assign rfl) rfl rfl ?_
        refine St.nil ?_
        refine St.weak [(0, _), (1, _), (5, _)] ⟨rfl, rfl, rfl, trivial⟩ ?_
        refine St.then_n ?_
        refine St.round (k + 1) ⟨rfl, rfl, rfl, trivial⟩ ?_ ?_
        · exact ⟨by omega, E, all_snoc hall hx (by simp [okByte, nameB, ha]), fun _ => by
            rcases Nat.eq_zero_or_pos k with h0 | h0
            · subst h0; rw [first_at hx, ha]
            · exact hf h0⟩
        · omega
    ·
      refine St.exit ?_
      refine St.then_x ?_
      refine St.then_x ?_
      refine St.in_x ?_
      refine St.then_n ?_
      refine St.go hK4 ?_
      clear hK4
      refine St.seq fun K15 hK15 => ?_
      refine St.region ?_
      refine St.r (R.assign rfl) rfl rfl ?_
      refine St.nil ?_
      refine St.weak [(4, _)] ⟨rfl, trivial⟩ ?_
      refine St.then_n ?_
      refine St.go hK15 ?_
      clear hK15
      refine St.ret ?_
      refine St.ret1 Tryz.results119 rfl ?_
      exact ⟨_, rfl, by rw [rightS_good h10 (all_take hall (by omega)) (fun _ => hf (by have := nonempty_len h10; omega))], E⟩

set_option maxHeartbeats 4000000 in
set_option maxRecDepth 100000 in
theorem right2_ret {s : ByteArray} (hsz : s.size ≤ 1000) (w0 : World) : Ret Tryz.prog 119 [.int .i64 2, .string s] w0 fun r w' => r = .bool (rightS 2 s) ∧ Ext w0 w' := by
  have hlen : s.data.toList.length = s.size := by rw [Array.length_toList]; rfl
  have E : Ext w0 w0 := Ext.refl w0
  refine St.enter (N := 76) Tryz.func119 rfl Tryz.ntmps119 rfl ?_
  refine St.seq fun K0 hK0 => ?_
  refine St.region ?_
  refine St.r (R.assign rfl) rfl rfl ?_
  refine St.nil ?_
  refine St.weak [(0, _), (1, _)] ⟨rfl, rfl, trivial⟩ ?_
  refine St.then_n ?_
  refine St.go hK0 ?_
  clear hK0
  refine St.seq fun K1 hK1 => ?_
  refine St.seq fun K2 hK2 => ?_
  refine St.region ?_
  refine St.r (R.move rfl) rfl rfl ?_
  refine St.r (R.eqS rfl rfl) rfl rfl ?_
  refine St.nil ?_
  refine St.weak [(0, _), (1, _), (10, _)] ⟨rfl, rfl, rfl, trivial⟩ ?_
  refine St.then_n ?_
  refine St.go hK2 ?_
  clear hK2
  refine St.condD rfl (fun h10 => ?_) (fun h10 => ?_)
  ·
    refine St.seq fun K3 hK3 => ?_
    refine St.region ?_
    refine St.r (R.move rfl) rfl rfl ?_
    refine St.r (R.eql rfl rfl) rfl rfl ?_
    refine St.r (R.assign rfl) rfl rfl ?_
    refine St.nil ?_
    refine St.weak [(4, _)] ⟨rfl, trivial⟩ ?_
    refine St.then_n ?_
    refine St.go hK3 ?_
    clear hK3
    refine St.ret ?_
    refine St.then_r ?_
    refine St.ret1 Tryz.results119 rfl ?_
    exact ⟨_, rfl, by rw [rightS, if_pos h10], E⟩
  ·
    refine St.skip ?_
    refine St.then_n ?_
    refine St.go hK1 ?_
    clear hK1
    refine St.seq fun K4 hK4 => ?_
    refine St.seq fun K5 hK5 => ?_
    refine St.region ?_
    refine St.r (R.assign rfl) rfl rfl ?_
    refine St.nil ?_
    refine St.weak [(0, _), (1, _), (5, _)] ⟨rfl, rfl, rfl, trivial⟩ ?_
    refine St.then_n ?_
    refine St.go hK5 ?_
    clear hK5
    refine St.block ?_
    refine St.loop (fun (k : Nat) => [(0, .int .i64 2), (1, .string s), (5, .int .i64 (k : Int))])
        (fun (k : Nat) w => k ≤ s.data.toList.length ∧ Ext w0 w ∧ (∀ y ∈ s.data.toList.take k, okByte 2 y = true))
        (fun (k : Nat) => s.data.toList.length - k) 0 ⟨rfl, rfl, rfl, trivial⟩ ?_ ?_
    · exact ⟨Nat.zero_le _, E, by simp⟩
    rintro k w ⟨hk, E, hall⟩
    show St _ _ [(0, .int .i64 2), (1, .string s), (5, .int .i64 (k : Int))] _ _
    refine St.seq fun K6 hK6 => ?_
    refine St.seq fun K7 hK7 => ?_
    refine St.region ?_
    refine St.r (R.move rfl) rfl rfl ?_
    refine St.r (R.move rfl) rfl rfl ?_
    refine St.r (R.lenStr Tryz.underlying9 rfl) rfl rfl ?_
    refine St.r (R.lss rfl rfl) rfl rfl ?_
    refine St.nil ?_
    refine St.weak [(0, _), (1, _), (5, _), (16, _)] ⟨rfl, rfl, rfl, rfl, trivial⟩ ?_
    refine St.then_n ?_
    refine St.go hK7 ?_
    clear hK7
    refine St.condD rfl (fun h16 => ?_) (fun h16 => ?_)
    ·
      obtain ⟨x, hx⟩ := get_of_lt (xs := s.data.toList) (k := k) (by omega)
      refine St.skip ?_
      refine St.then_n ?_
      refine St.go hK6 ?_
      clear hK6
      refine St.seq fun K8 hK8 => ?_
      refine St.block ?_
      refine St.seq fun K9 hK9 => ?_
      refine St.region ?_
      refine St.r (R.move rfl) rfl rfl ?_
      refine St.r (R.move rfl) rfl rfl ?_
      refine St.r (R.idxStr k Tryz.underlying9 rfl rfl rfl hx) rfl rfl ?_
      refine St.r (R.assign rfl) rfl rfl ?_
      refine St.nil ?_
      refine St.weak [(0, _), (1, _), (5, _), (6, _)] ⟨rfl, rfl, rfl, rfl, trivial⟩ ?_
      refine St.then_n ?_
      refine St.go hK9 ?_
      clear hK9
      refine St.seq fun K10 hK10 => ?_
      refine St.region ?_
      refine St.r (R.move rfl) rfl rfl ?_
      refine St.call rfl rfl ent169 (rletter_ret _) rfl ?_
      rintro r23 w23 ⟨rfl, e23⟩
      replace E := Ext.trans E e23
      refine St.r (R.assign rfl) rfl rfl ?_
      refine St.nil ?_
      refine St.weak [(0, _), (1, _), (5, _), (6, _), (7, _)] ⟨rfl, rfl, rfl, rfl, rfl, trivial⟩ ?_
      refine St.then_n ?_
      refine St.go hK10 ?_
      clear hK10
      refine St.seq fun K11 hK11 => ?_
      refine St.region ?_
      refine St.r (R.move rfl) rfl rfl ?_
      refine St.call rfl rfl ent170 (rdigit_ret _) rfl ?_
      rintro r25 w25 ⟨rfl, e25⟩
      replace E := Ext.trans E e25
      refine St.r (R.assign rfl) rfl rfl ?_
      refine St.nil ?_
      refine St.weak [(0, _), (1, _), (5, _), (6, _), (7, _), (8, _)] ⟨rfl, rfl, rfl, rfl, rfl, rfl, trivial⟩ ?_
      refine St.then_n ?_
      refine St.go hK11 ?_
      clear hK11
      refine St.seq fun K12 hK12 => ?_
      cases ha : letterB x
      ·
        cases hd : digitB x
        ·
          refine St.region ?_
          refine St.r (R.move rfl) rfl rfl ?_
          refine St.r (Runs.lit (c := false) (R.eql rfl rfl) (rfl)) rfl rfl ?_
          refine St.r (R.move rfl) rfl rfl ?_
          refine St.pass (dg := 28) rfl rfl rfl rfl rfl ?_
          refine St.pass (dg := 28) rfl rfl rfl rfl rfl ?_
          refine St.r (R.pickF rfl rfl) rfl rfl ?_
          refine St.r (R.move rfl) rfl rfl ?_
          refine St.pass (dg := 32) rfl rfl rfl rfl rfl ?_
          refine St.pass (dg := 32) rfl rfl rfl rfl rfl ?_
          refine St.pass (dg := 32) rfl rfl rfl rfl rfl ?_
          refine St.passU (dg := 35) rfl rfl rfl rfl ?_
          refine St.passU (dg := 35) rfl rfl rfl rfl ?_
          refine St.passU (dg := 35) rfl rfl rfl rfl ?_
          refine St.passU (dg := 38) rfl rfl rfl rfl ?_
          refine St.passU (dg := 38) rfl rfl rfl rfl ?_
          refine St.passU (dg := 35) rfl rfl rfl rfl ?_
          refine St.passU (dg := 35) rfl rfl rfl rfl ?_
          refine St.passU (dg := 42) rfl rfl rfl rfl ?_
          refine St.passU (dg := 42) rfl rfl rfl rfl ?_
          refine St.passU (dg := 35) rfl rfl rfl rfl ?_
          refine St.passU (dg := 35) rfl rfl rfl rfl ?_
          refine St.passU (dg := 46) rfl rfl rfl rfl ?_
          refine St.passU (dg := 46) rfl rfl rfl rfl ?_
          refine St.passU (dg := 35) rfl rfl rfl rfl ?_
          refine St.pass (dg := 32) rfl rfl rfl rfl rfl ?_
          refine St.r (R.pickF rfl rfl) rfl rfl ?_
          refine St.r (R.move rfl) rfl rfl ?_
          refine St.take (dg := 52) rfl rfl ?_ rfl
          refine St.r (R.move rfl) rfl rfl ?_
          refine St.take (dg := 52) rfl rfl ?_ rfl
          refine St.r (Runs.lit (c := true) (R.eql rfl rfl) (rfl)) rfl rfl ?_
          refine St.take (dg := 52) rfl rfl ?_ rfl
          refine St.r (R.move rfl) rfl rfl ?_
          refine St.take (dg := 55) rfl rfl ?_ rfl
          refine St.r (R.move rfl) rfl rfl ?_
          refine St.take (dg := 55) rfl rfl ?_ rfl
          refine St.r (Runs.lit (c := true) (R.not rfl) (rfl)) rfl rfl ?_
          refine St.take (dg := 52) rfl rfl ?_ rfl
          refine St.r (R.pickT rfl rfl) rfl rfl ?_
          refine St.take (dg := 52) rfl rfl ?_ rfl
          refine St.r (R.move rfl) rfl rfl ?_
          refine St.take (dg := 59) rfl rfl ?_ rfl
          refine St.r (R.move rfl) rfl rfl ?_
          refine St.take (dg := 59) rfl rfl ?_ rfl
          refine St.r (Runs.lit (c := true) (R.not rfl) (rfl)) rfl rfl ?_
          refine St.take (dg := 52) rfl rfl ?_ rfl
          refine St.r (R.pickT rfl rfl) rfl rfl ?_
          refine St.r (R.pickF rfl rfl) rfl rfl ?_
          refine St.r (R.move rfl) rfl rfl ?_
          refine St.pass (dg := 64) rfl rfl rfl rfl rfl ?_
          refine St.pass (dg := 64) rfl rfl rfl rfl rfl ?_
          refine St.pass (dg := 64) rfl rfl rfl rfl rfl ?_
          refine St.passU (dg := 67) rfl rfl rfl rfl ?_
          refine St.passU (dg := 67) rfl rfl rfl rfl ?_
          refine St.passU (dg := 67) rfl rfl rfl rfl ?_
          refine St.passU (dg := 70) rfl rfl rfl rfl ?_
          refine St.passU (dg := 70) rfl rfl rfl rfl ?_
          refine St.passU (dg := 67) rfl rfl rfl rfl ?_
          refine St.pass (dg := 64) rfl rfl rfl rfl rfl ?_
          refine St.r (R.pickT rfl rfl) rfl rfl ?_
          refine St.nil ?_
          refine St.weak [(0, _), (1, _), (5, _), (75, _)] ⟨rfl, rfl, rfl, rfl, trivial⟩ ?_
          refine St.then_n ?_
          refine St.go hK12 ?_
          clear hK12
          refine St.condT rfl ?_
          refine St.seq fun K13 hK13 => ?_
          refine St.region ?_
          refine St.r (R.assign rfl) rfl rfl ?_
          refine St.nil ?_
          refine St.weak [(4, _)] ⟨rfl, trivial⟩ ?_
          refine St.then_n ?_
          refine St.go hK13 ?_
          clear hK13
          refine St.ret ?_
          refine St.in_r ?_
          refine St.then_r ?_
          refine St.then_r ?_
          refine St.in_r ?_
          refine St.then_r ?_
          refine St.ret1 Tryz.results119 rfl ?_
          exact ⟨_, rfl, by rw [rightS_bad h10 (all_not hx (by simp [okByte, anonB, ha, hd]))], E⟩
        ·
          refine St.region ?_
          refine St.r (R.move rfl) rfl rfl ?_
          refine St.r (Runs.lit (c := false) (R.eql rfl rfl) (rfl)) rfl rfl ?_
          refine St.r (R.move rfl) rfl rfl ?_
          refine St.pass (dg := 28) rfl rfl rfl rfl rfl ?_
          refine St.pass (dg := 28) rfl rfl rfl rfl rfl ?_
          refine St.r (R.pickF rfl rfl) rfl rfl ?_
          refine St.r (R.move rfl) rfl rfl ?_
          refine St.pass (dg := 32) rfl rfl rfl rfl rfl ?_
          refine St.pass (dg := 32) rfl rfl rfl rfl rfl ?_
          refine St.pass (dg := 32) rfl rfl rfl rfl rfl ?_
          refine St.passU (dg := 35) rfl rfl rfl rfl ?_
          refine St.passU (dg := 35) rfl rfl rfl rfl ?_
          refine St.passU (dg := 35) rfl rfl rfl rfl ?_
          refine St.passU (dg := 38) rfl rfl rfl rfl ?_
          refine St.passU (dg := 38) rfl rfl rfl rfl ?_
          refine St.passU (dg := 35) rfl rfl rfl rfl ?_
          refine St.passU (dg := 35) rfl rfl rfl rfl ?_
          refine St.passU (dg := 42) rfl rfl rfl rfl ?_
          refine St.passU (dg := 42) rfl rfl rfl rfl ?_
          refine St.passU (dg := 35) rfl rfl rfl rfl ?_
          refine St.passU (dg := 35) rfl rfl rfl rfl ?_
          refine St.passU (dg := 46) rfl rfl rfl rfl ?_
          refine St.passU (dg := 46) rfl rfl rfl rfl ?_
          refine St.passU (dg := 35) rfl rfl rfl rfl ?_
          refine St.pass (dg := 32) rfl rfl rfl rfl rfl ?_
          refine St.r (R.pickF rfl rfl) rfl rfl ?_
          refine St.r (R.move rfl) rfl rfl ?_
          refine St.take (dg := 52) rfl rfl ?_ rfl
          refine St.r (R.move rfl) rfl rfl ?_
          refine St.take (dg := 52) rfl rfl ?_ rfl
          refine St.r (Runs.lit (c := true) (R.eql rfl rfl) (rfl)) rfl rfl ?_
          refine St.take (dg := 52) rfl rfl ?_ rfl
          refine St.r (R.move rfl) rfl rfl ?_
          refine St.take (dg := 55) rfl rfl ?_ rfl
          refine St.r (R.move rfl) rfl rfl ?_
          refine St.take (dg := 55) rfl rfl ?_ rfl
          refine St.r (Runs.lit (c := true) (R.not rfl) (rfl)) rfl rfl ?_
          refine St.take (dg := 52) rfl rfl ?_ rfl
          refine St.r (R.pickT rfl rfl) rfl rfl ?_
          refine St.take (dg := 52) rfl rfl ?_ rfl
          refine St.r (R.move rfl) rfl rfl ?_
          refine St.take (dg := 59) rfl rfl ?_ rfl
          refine St.r (R.move rfl) rfl rfl ?_
          refine St.take (dg := 59) rfl rfl ?_ rfl
          refine St.r (Runs.lit (c := false) (R.not rfl) (rfl)) rfl rfl ?_
          refine St.take (dg := 52) rfl rfl ?_ rfl
          refine St.r (R.pickT rfl rfl) rfl rfl ?_
          refine St.r (R.pickF rfl rfl) rfl rfl ?_
          refine St.r (R.move rfl) rfl rfl ?_
          refine St.take (dg := 64) rfl rfl ?_ rfl
          refine St.r (R.move rfl) rfl rfl ?_
          refine St.take (dg := 64) rfl rfl ?_ rfl
          refine St.r (Runs.lit (c := false) (R.eql rfl rfl) (rfl)) rfl rfl ?_
          refine St.take (dg := 64) rfl rfl ?_ rfl
          refine St.r (R.move rfl) rfl rfl ?_
          refine St.pass (dg := 67) rfl rfl rfl rfl rfl ?_
          refine St.pass (dg := 67) rfl rfl rfl rfl rfl ?_
          refine St.pass (dg := 67) rfl rfl rfl rfl rfl ?_
          refine St.passU (dg := 70) rfl rfl rfl rfl ?_
          refine St.passU (dg := 70) rfl rfl rfl rfl ?_
          refine St.pass (dg := 67) rfl rfl rfl rfl rfl ?_
          refine St.take (dg := 64) rfl rfl ?_ rfl
          refine St.r (R.pickF rfl rfl) rfl rfl ?_
          refine St.r (R.pickF rfl rfl) rfl rfl ?_
          refine St.nil ?_
          refine St.weak [(0, _), (1, _), (5, _), (75, _)] ⟨rfl, rfl, rfl, rfl, trivial⟩ ?_
          refine St.then_n ?_
          refine St.go hK12 ?_
          clear hK12
          refine St.condF rfl ?_
          refine St.skip ?_
          refine St.in_n ?_
          refine St.then_n ?_
          refine St.go hK8 ?_
          clear hK8
          refine St.region ?_
          refine St.r (R.move rfl) rfl rfl ?_
          refine St.r (R.add rfl rfl (by omega) (by omega)) rfl rfl ?_
          refine St.r (R.assign rfl) rfl rfl ?_
          refine St.nil ?_
          refine St.weak [(0, _), (1, _), (5, _)] ⟨rfl, rfl, rfl, trivial⟩ ?_
          refine St.then_n ?_
          refine St.round (k + 1) ⟨rfl, rfl, rfl, trivial⟩ ?_ ?_
          · exact ⟨by omega, E, all_snoc hall hx (by simp [okByte, anonB, printB, ha, hd])⟩
          · omega
      ·
        refine St.region ?_
        refine St.r (R.move rfl) rfl rfl ?_
        refine St.r (Runs.lit (c := false) (R.eql rfl rfl) (rfl)) rfl rfl ?_
        refine St.r (R.move rfl) rfl rfl ?_
        refine St.pass (dg := 28) rfl rfl rfl rfl rfl ?_
        refine St.pass (dg := 28) rfl rfl rfl rfl rfl ?_
        refine St.r (R.pickF rfl rfl) rfl rfl ?_
        refine St.r (R.move rfl) rfl rfl ?_
        refine St.pass (dg := 32) rfl rfl rfl rfl rfl ?_
        refine St.pass (dg := 32) rfl rfl rfl rfl rfl ?_
        refine St.pass (dg := 32) rfl rfl rfl rfl rfl ?_
        refine St.passU (dg := 35) rfl rfl rfl rfl ?_
        refine St.passU (dg := 35) rfl rfl rfl rfl ?_
        refine St.passU (dg := 35) rfl rfl rfl rfl ?_
        refine St.passU (dg := 38) rfl rfl rfl rfl ?_
        refine St.passU (dg := 38) rfl rfl rfl rfl ?_
        refine St.passU (dg := 35) rfl rfl rfl rfl ?_
        refine St.passU (dg := 35) rfl rfl rfl rfl ?_
        refine St.passU (dg := 42) rfl rfl rfl rfl ?_
        refine St.passU (dg := 42) rfl rfl rfl rfl ?_
        refine St.passU (dg := 35) rfl rfl rfl rfl ?_
        refine St.passU (dg := 35) rfl rfl rfl rfl ?_
        refine St.passU (dg := 46) rfl rfl rfl rfl ?_
        refine St.passU (dg := 46) rfl rfl rfl rfl ?_
        refine St.passU (dg := 35) rfl rfl rfl rfl ?_
        refine St.pass (dg := 32) rfl rfl rfl rfl rfl ?_
        refine St.r (R.pickF rfl rfl) rfl rfl ?_
        refine St.r (R.move rfl) rfl rfl ?_
        refine St.take (dg := 52) rfl rfl ?_ rfl
        refine St.r (R.move rfl) rfl rfl ?_
        refine St.take (dg := 52) rfl rfl ?_ rfl
        refine St.r (Runs.lit (c := true) (R.eql rfl rfl) (rfl)) rfl rfl ?_
        refine St.take (dg := 52) rfl rfl ?_ rfl
        refine St.r (R.move rfl) rfl rfl ?_
        refine St.take (dg := 55) rfl rfl ?_ rfl
        refine St.r (R.move rfl) rfl rfl ?_
        refine St.take (dg := 55) rfl rfl ?_ rfl
        refine St.r (Runs.lit (c := false) (R.not rfl) (rfl)) rfl rfl ?_
        refine St.take (dg := 52) rfl rfl ?_ rfl
        refine St.r (R.pickT rfl rfl) rfl rfl ?_
        refine St.take (dg := 52) rfl rfl ?_ rfl
        refine St.r (R.move rfl) rfl rfl ?_
        refine St.pass (dg := 59) rfl rfl rfl rfl rfl ?_
        refine St.pass (dg := 59) rfl rfl rfl rfl rfl ?_
        refine St.take (dg := 52) rfl rfl ?_ rfl
        refine St.r (R.pickF rfl rfl) rfl rfl ?_
        refine St.r (R.pickF rfl rfl) rfl rfl ?_
        refine St.r (R.move rfl) rfl rfl ?_
        refine St.take (dg := 64) rfl rfl ?_ rfl
        refine St.r (R.move rfl) rfl rfl ?_
        refine St.take (dg := 64) rfl rfl ?_ rfl
        refine St.r (Runs.lit (c := false) (R.eql rfl rfl) (rfl)) rfl rfl ?_
        refine St.take (dg := 64) rfl rfl ?_ rfl
        refine St.r (R.move rfl) rfl rfl ?_
        refine St.pass (dg := 67) rfl rfl rfl rfl rfl ?_
        refine St.pass (dg := 67) rfl rfl rfl rfl rfl ?_
        refine St.pass (dg := 67) rfl rfl rfl rfl rfl ?_
        refine St.passU (dg := 70) rfl rfl rfl rfl ?_
        refine St.passU (dg := 70) rfl rfl rfl rfl ?_
        refine St.pass (dg := 67) rfl rfl rfl rfl rfl ?_
        refine St.take (dg := 64) rfl rfl ?_ rfl
        refine St.r (R.pickF rfl rfl) rfl rfl ?_
        refine St.r (R.pickF rfl rfl) rfl rfl ?_
        refine St.nil ?_
        refine St.weak [(0, _), (1, _), (5, _), (75, _)] ⟨rfl, rfl, rfl, rfl, trivial⟩ ?_
        refine St.then_n ?_
        refine St.go hK12 ?_
        clear hK12
        refine St.condF rfl ?_
        refine St.skip ?_
        refine St.in_n ?_
        refine St.then_n ?_
        refine St.go hK8 ?_
        clear hK8
        refine St.region ?_
        refine St.r (R.move rfl) rfl rfl ?_
        refine St.r (R.add rfl rfl (by omega) (by omega)) rfl rfl ?_
        refine St.r (R.assign rfl) rfl rfl ?_
        refine St.nil ?_
        refine St.weak [(0, _), (1, _), (5, _)] ⟨rfl, rfl, rfl, trivial⟩ ?_
        refine St.then_n ?_
        refine St.round (k + 1) ⟨rfl, rfl, rfl, trivial⟩ ?_ ?_
        · exact ⟨by omega, E, all_snoc hall hx (by simp [okByte, anonB, printB, ha])⟩
        · omega
    ·
      refine St.exit ?_
      refine St.then_x ?_
      refine St.then_x ?_
      refine St.in_x ?_
      refine St.then_n ?_
      refine St.go hK4 ?_
      clear hK4
      refine St.seq fun K14 hK14 => ?_
      refine St.region ?_
      refine St.r (R.assign rfl) rfl rfl ?_
      refine St.nil ?_
      refine St.weak [(4, _)] ⟨rfl, trivial⟩ ?_
      refine St.then_n ?_
      refine St.go hK14 ?_
      clear hK14
      refine St.ret ?_
      refine St.ret1 Tryz.results119 rfl ?_
      exact ⟨_, rfl, by rw [rightS_good h10 (all_take hall (by omega)) (fun e => by omega)], E⟩

set_option maxHeartbeats 4000000 in
set_option maxRecDepth 100000 in
theorem right3_ret {s : ByteArray} (hsz : s.size ≤ 1000) (w0 : World) : Ret Tryz.prog 119 [.int .i64 3, .string s] w0 fun r w' => r = .bool (rightS 3 s) ∧ Ext w0 w' := by
  have hlen : s.data.toList.length = s.size := by rw [Array.length_toList]; rfl
  have E : Ext w0 w0 := Ext.refl w0
  refine St.enter (N := 76) Tryz.func119 rfl Tryz.ntmps119 rfl ?_
  refine St.seq fun K0 hK0 => ?_
  refine St.region ?_
  refine St.r (R.assign rfl) rfl rfl ?_
  refine St.nil ?_
  refine St.weak [(0, _), (1, _)] ⟨rfl, rfl, trivial⟩ ?_
  refine St.then_n ?_
  refine St.go hK0 ?_
  clear hK0
  refine St.seq fun K1 hK1 => ?_
  refine St.seq fun K2 hK2 => ?_
  refine St.region ?_
  refine St.r (R.move rfl) rfl rfl ?_
  refine St.r (R.eqS rfl rfl) rfl rfl ?_
  refine St.nil ?_
  refine St.weak [(0, _), (1, _), (10, _)] ⟨rfl, rfl, rfl, trivial⟩ ?_
  refine St.then_n ?_
  refine St.go hK2 ?_
  clear hK2
  refine St.condD rfl (fun h10 => ?_) (fun h10 => ?_)
  ·
    refine St.seq fun K3 hK3 => ?_
    refine St.region ?_
    refine St.r (R.move rfl) rfl rfl ?_
    refine St.r (R.eql rfl rfl) rfl rfl ?_
    refine St.r (R.assign rfl) rfl rfl ?_
    refine St.nil ?_
    refine St.weak [(4, _)] ⟨rfl, trivial⟩ ?_
    refine St.then_n ?_
    refine St.go hK3 ?_
    clear hK3
    refine St.ret ?_
    refine St.then_r ?_
    refine St.ret1 Tryz.results119 rfl ?_
    exact ⟨_, rfl, by rw [rightS, if_pos h10], E⟩
  ·
    refine St.skip ?_
    refine St.then_n ?_
    refine St.go hK1 ?_
    clear hK1
    refine St.seq fun K4 hK4 => ?_
    refine St.seq fun K5 hK5 => ?_
    refine St.region ?_
    refine St.r (R.assign rfl) rfl rfl ?_
    refine St.nil ?_
    refine St.weak [(0, _), (1, _), (5, _)] ⟨rfl, rfl, rfl, trivial⟩ ?_
    refine St.then_n ?_
    refine St.go hK5 ?_
    clear hK5
    refine St.block ?_
    refine St.loop (fun (k : Nat) => [(0, .int .i64 3), (1, .string s), (5, .int .i64 (k : Int))])
        (fun (k : Nat) w => k ≤ s.data.toList.length ∧ Ext w0 w ∧ (∀ y ∈ s.data.toList.take k, okByte 3 y = true))
        (fun (k : Nat) => s.data.toList.length - k) 0 ⟨rfl, rfl, rfl, trivial⟩ ?_ ?_
    · exact ⟨Nat.zero_le _, E, by simp⟩
    rintro k w ⟨hk, E, hall⟩
    show St _ _ [(0, .int .i64 3), (1, .string s), (5, .int .i64 (k : Int))] _ _
    refine St.seq fun K6 hK6 => ?_
    refine St.seq fun K7 hK7 => ?_
    refine St.region ?_
    refine St.r (R.move rfl) rfl rfl ?_
    refine St.r (R.move rfl) rfl rfl ?_
    refine St.r (R.lenStr Tryz.underlying9 rfl) rfl rfl ?_
    refine St.r (R.lss rfl rfl) rfl rfl ?_
    refine St.nil ?_
    refine St.weak [(0, _), (1, _), (5, _), (16, _)] ⟨rfl, rfl, rfl, rfl, trivial⟩ ?_
    refine St.then_n ?_
    refine St.go hK7 ?_
    clear hK7
    refine St.condD rfl (fun h16 => ?_) (fun h16 => ?_)
    ·
      obtain ⟨x, hx⟩ := get_of_lt (xs := s.data.toList) (k := k) (by omega)
      refine St.skip ?_
      refine St.then_n ?_
      refine St.go hK6 ?_
      clear hK6
      refine St.seq fun K8 hK8 => ?_
      refine St.block ?_
      refine St.seq fun K9 hK9 => ?_
      refine St.region ?_
      refine St.r (R.move rfl) rfl rfl ?_
      refine St.r (R.move rfl) rfl rfl ?_
      refine St.r (R.idxStr k Tryz.underlying9 rfl rfl rfl hx) rfl rfl ?_
      refine St.r (R.assign rfl) rfl rfl ?_
      refine St.nil ?_
      refine St.weak [(0, _), (1, _), (5, _), (6, _)] ⟨rfl, rfl, rfl, rfl, trivial⟩ ?_
      refine St.then_n ?_
      refine St.go hK9 ?_
      clear hK9
      refine St.seq fun K10 hK10 => ?_
      refine St.region ?_
      refine St.r (R.move rfl) rfl rfl ?_
      refine St.call rfl rfl ent169 (rletter_ret _) rfl ?_
      rintro r23 w23 ⟨rfl, e23⟩
      replace E := Ext.trans E e23
      refine St.r (R.assign rfl) rfl rfl ?_
      refine St.nil ?_
      refine St.weak [(0, _), (1, _), (5, _), (6, _), (7, _)] ⟨rfl, rfl, rfl, rfl, rfl, trivial⟩ ?_
      refine St.then_n ?_
      refine St.go hK10 ?_
      clear hK10
      refine St.seq fun K11 hK11 => ?_
      refine St.region ?_
      refine St.r (R.move rfl) rfl rfl ?_
      refine St.call rfl rfl ent170 (rdigit_ret _) rfl ?_
      rintro r25 w25 ⟨rfl, e25⟩
      replace E := Ext.trans E e25
      refine St.r (R.assign rfl) rfl rfl ?_
      refine St.nil ?_
      refine St.weak [(0, _), (1, _), (5, _), (6, _), (7, _), (8, _)] ⟨rfl, rfl, rfl, rfl, rfl, rfl, trivial⟩ ?_
      refine St.then_n ?_
      refine St.go hK11 ?_
      clear hK11
      refine St.seq fun K12 hK12 => ?_
      by_cases h69 : (x.toNat : Int) < 32
      ·
        refine St.region ?_
        refine St.r (R.move rfl) rfl rfl ?_
        refine St.r (Runs.lit (c := false) (R.eql rfl rfl) (rfl)) rfl rfl ?_
        refine St.r (R.move rfl) rfl rfl ?_
        refine St.pass (dg := 28) rfl rfl rfl rfl rfl ?_
        refine St.pass (dg := 28) rfl rfl rfl rfl rfl ?_
        refine St.r (R.pickF rfl rfl) rfl rfl ?_
        refine St.r (R.move rfl) rfl rfl ?_
        refine St.pass (dg := 32) rfl rfl rfl rfl rfl ?_
        refine St.pass (dg := 32) rfl rfl rfl rfl rfl ?_
        refine St.pass (dg := 32) rfl rfl rfl rfl rfl ?_
        refine St.passU (dg := 35) rfl rfl rfl rfl ?_
        refine St.passU (dg := 35) rfl rfl rfl rfl ?_
        refine St.passU (dg := 35) rfl rfl rfl rfl ?_
        refine St.passU (dg := 38) rfl rfl rfl rfl ?_
        refine St.passU (dg := 38) rfl rfl rfl rfl ?_
        refine St.passU (dg := 35) rfl rfl rfl rfl ?_
        refine St.passU (dg := 35) rfl rfl rfl rfl ?_
        refine St.passU (dg := 42) rfl rfl rfl rfl ?_
        refine St.passU (dg := 42) rfl rfl rfl rfl ?_
        refine St.passU (dg := 35) rfl rfl rfl rfl ?_
        refine St.passU (dg := 35) rfl rfl rfl rfl ?_
        refine St.passU (dg := 46) rfl rfl rfl rfl ?_
        refine St.passU (dg := 46) rfl rfl rfl rfl ?_
        refine St.passU (dg := 35) rfl rfl rfl rfl ?_
        refine St.pass (dg := 32) rfl rfl rfl rfl rfl ?_
        refine St.r (R.pickF rfl rfl) rfl rfl ?_
        refine St.r (R.move rfl) rfl rfl ?_
        refine St.take (dg := 52) rfl rfl ?_ rfl
        refine St.r (R.move rfl) rfl rfl ?_
        refine St.take (dg := 52) rfl rfl ?_ rfl
        refine St.r (Runs.lit (c := false) (R.eql rfl rfl) (rfl)) rfl rfl ?_
        refine St.take (dg := 52) rfl rfl ?_ rfl
        refine St.r (R.move rfl) rfl rfl ?_
        refine St.pass (dg := 55) rfl rfl rfl rfl rfl ?_
        refine St.pass (dg := 55) rfl rfl rfl rfl rfl ?_
        refine St.take (dg := 52) rfl rfl ?_ rfl
        refine St.r (R.pickF rfl rfl) rfl rfl ?_
        refine St.take (dg := 52) rfl rfl ?_ rfl
        refine St.r (R.move rfl) rfl rfl ?_
        refine St.pass (dg := 59) rfl rfl rfl rfl rfl ?_
        refine St.pass (dg := 59) rfl rfl rfl rfl rfl ?_
        refine St.take (dg := 52) rfl rfl ?_ rfl
        refine St.r (R.pickF rfl rfl) rfl rfl ?_
        refine St.r (R.pickF rfl rfl) rfl rfl ?_
        refine St.r (R.move rfl) rfl rfl ?_
        refine St.take (dg := 64) rfl rfl ?_ rfl
        refine St.r (R.move rfl) rfl rfl ?_
        refine St.take (dg := 64) rfl rfl ?_ rfl
        refine St.r (Runs.lit (c := true) (R.eql rfl rfl) (rfl)) rfl rfl ?_
        refine St.take (dg := 64) rfl rfl ?_ rfl
        refine St.r (R.move rfl) rfl rfl ?_
        refine St.take (dg := 67) rfl rfl ?_ rfl
        refine St.r (R.move rfl) rfl rfl ?_
        refine St.take (dg := 67) rfl rfl ?_ rfl
        refine St.r (Runs.lit (c := true) (R.lss rfl rfl) (decide_eq_true h69)) rfl rfl ?_
        refine St.take (dg := 67) rfl rfl ?_ rfl
        refine St.r (R.move rfl) rfl rfl ?_
        refine St.pass (dg := 70) rfl rfl rfl rfl rfl ?_
        refine St.pass (dg := 70) rfl rfl rfl rfl rfl ?_
        refine St.take (dg := 67) rfl rfl ?_ rfl
        refine St.r (R.pickT rfl rfl) rfl rfl ?_
        refine St.take (dg := 64) rfl rfl ?_ rfl
        refine St.r (R.pickT rfl rfl) rfl rfl ?_
        refine St.r (R.pickF rfl rfl) rfl rfl ?_
        refine St.nil ?_
        refine St.weak [(0, _), (1, _), (5, _), (75, _)] ⟨rfl, rfl, rfl, rfl, trivial⟩ ?_
        refine St.then_n ?_
        refine St.go hK12 ?_
        clear hK12
        refine St.condT rfl ?_
        refine St.seq fun K13 hK13 => ?_
        refine St.region ?_
        refine St.r (R.assign rfl) rfl rfl ?_
        refine St.nil ?_
        refine St.weak [(4, _)] ⟨rfl, trivial⟩ ?_
        refine St.then_n ?_
        refine St.go hK13 ?_
        clear hK13
        refine St.ret ?_
        refine St.in_r ?_
        refine St.then_r ?_
        refine St.then_r ?_
        refine St.in_r ?_
        refine St.then_r ?_
        refine St.ret1 Tryz.results119 rfl ?_
        exact ⟨_, rfl, by rw [rightS_bad h10 (all_not hx (by rw [okByte, if_neg (by omega), if_neg (by omega), printB, decide_eq_false (by omega)]; rfl))], E⟩
      ·
        refine St.region ?_
        refine St.r (R.move rfl) rfl rfl ?_
        refine St.r (Runs.lit (c := false) (R.eql rfl rfl) (rfl)) rfl rfl ?_
        refine St.r (R.move rfl) rfl rfl ?_
        refine St.pass (dg := 28) rfl rfl rfl rfl rfl ?_
        refine St.pass (dg := 28) rfl rfl rfl rfl rfl ?_
        refine St.r (R.pickF rfl rfl) rfl rfl ?_
        refine St.r (R.move rfl) rfl rfl ?_
        refine St.pass (dg := 32) rfl rfl rfl rfl rfl ?_
        refine St.pass (dg := 32) rfl rfl rfl rfl rfl ?_
        refine St.pass (dg := 32) rfl rfl rfl rfl rfl ?_
        refine St.passU (dg := 35) rfl rfl rfl rfl ?_
        refine St.passU (dg := 35) rfl rfl rfl rfl ?_
        refine St.passU (dg := 35) rfl rfl rfl rfl ?_
        refine St.passU (dg := 38) rfl rfl rfl rfl ?_
        refine St.passU (dg := 38) rfl rfl rfl rfl ?_
        refine St.passU (dg := 35) rfl rfl rfl rfl ?_
        refine St.passU (dg := 35) rfl rfl rfl rfl ?_
        refine St.passU (dg := 42) rfl rfl rfl rfl ?_
        refine St.passU (dg := 42) rfl rfl rfl rfl ?_
        refine St.passU (dg := 35) rfl rfl rfl rfl ?_
        refine St.passU (dg := 35) rfl rfl rfl rfl ?_
        refine St.passU (dg := 46) rfl rfl rfl rfl ?_
        refine St.passU (dg := 46) rfl rfl rfl rfl ?_
        refine St.passU (dg := 35) rfl rfl rfl rfl ?_
        refine St.pass (dg := 32) rfl rfl rfl rfl rfl ?_
        refine St.r (R.pickF rfl rfl) rfl rfl ?_
        refine St.r (R.move rfl) rfl rfl ?_
        refine St.take (dg := 52) rfl rfl ?_ rfl
        refine St.r (R.move rfl) rfl rfl ?_
        refine St.take (dg := 52) rfl rfl ?_ rfl
        refine St.r (Runs.lit (c := false) (R.eql rfl rfl) (rfl)) rfl rfl ?_
        refine St.take (dg := 52) rfl rfl ?_ rfl
        refine St.r (R.move rfl) rfl rfl ?_
        refine St.pass (dg := 55) rfl rfl rfl rfl rfl ?_
        refine St.pass (dg := 55) rfl rfl rfl rfl rfl ?_
        refine St.take (dg := 52) rfl rfl ?_ rfl
        refine St.r (R.pickF rfl rfl) rfl rfl ?_
        refine St.take (dg := 52) rfl rfl ?_ rfl
        refine St.r (R.move rfl) rfl rfl ?_
        refine St.pass (dg := 59) rfl rfl rfl rfl rfl ?_
        refine St.pass (dg := 59) rfl rfl rfl rfl rfl ?_
        refine St.take (dg := 52) rfl rfl ?_ rfl
        refine St.r (R.pickF rfl rfl) rfl rfl ?_
        refine St.r (R.pickF rfl rfl) rfl rfl ?_
        refine St.r (R.move rfl) rfl rfl ?_
        refine St.take (dg := 64) rfl rfl ?_ rfl
        refine St.r (R.move rfl) rfl rfl ?_
        refine St.take (dg := 64) rfl rfl ?_ rfl
        refine St.r (Runs.lit (c := true) (R.eql rfl rfl) (rfl)) rfl rfl ?_
        refine St.take (dg := 64) rfl rfl ?_ rfl
        refine St.r (R.move rfl) rfl rfl ?_
        refine St.take (dg := 67) rfl rfl ?_ rfl
        refine St.r (R.move rfl) rfl rfl ?_
        refine St.take (dg := 67) rfl rfl ?_ rfl
        refine St.r (Runs.lit (c := false) (R.lss rfl rfl) (decide_eq_false h69)) rfl rfl ?_
        refine St.take (dg := 67) rfl rfl ?_ rfl
        refine St.r (R.move rfl) rfl rfl ?_
        refine St.take (dg := 70) rfl rfl ?_ rfl
        refine St.r (R.move rfl) rfl rfl ?_
        refine St.take (dg := 70) rfl rfl ?_ rfl
        refine St.r (R.gtr rfl rfl) rfl rfl ?_
        refine St.take (dg := 67) rfl rfl ?_ rfl
        refine St.r (R.pickF rfl rfl) rfl rfl ?_
        refine St.take (dg := 64) rfl rfl ?_ rfl
        refine St.r (R.pickT rfl rfl) rfl rfl ?_
        refine St.r (R.pickF rfl rfl) rfl rfl ?_
        refine St.nil ?_
        refine St.weak [(0, _), (1, _), (5, _), (75, _)] ⟨rfl, rfl, rfl, rfl, trivial⟩ ?_
        refine St.then_n ?_
        refine St.go hK12 ?_
        clear hK12
        refine St.condD rfl (fun h75 => ?_) (fun h75 => ?_)
        ·
          refine St.seq fun K14 hK14 => ?_
          refine St.region ?_
          refine St.r (R.assign rfl) rfl rfl ?_
          refine St.nil ?_
          refine St.weak [(4, _)] ⟨rfl, trivial⟩ ?_
          refine St.then_n ?_
          refine St.go hK14 ?_
          clear hK14
          refine St.ret ?_
          refine St.in_r ?_
          refine St.then_r ?_
          refine St.then_r ?_
          refine St.in_r ?_
          refine St.then_r ?_
          refine St.ret1 Tryz.results119 rfl ?_
          exact ⟨_, rfl, by rw [rightS_bad h10 (all_not hx (by rw [okByte, if_neg (by omega), if_neg (by omega), printB, decide_eq_false (p := (x.toNat : Int) ≤ 126) (by omega), Bool.and_false]))], E⟩
        ·
          refine St.skip ?_
          refine St.in_n ?_
          refine St.then_n ?_
          refine St.go hK8 ?_
          clear hK8
          refine St.region ?_
          refine St.r (R.move rfl) rfl rfl ?_
          refine St.r (R.add rfl rfl (by omega) (by omega)) rfl rfl ?_
          refine St.r (R.assign rfl) rfl rfl ?_
          refine St.nil ?_
          refine St.weak [(0, _), (1, _), (5, _)] ⟨rfl, rfl, rfl, trivial⟩ ?_
          refine St.then_n ?_
          refine St.round (k + 1) ⟨rfl, rfl, rfl, trivial⟩ ?_ ?_
          · exact ⟨by omega, E, all_snoc hall hx (by rw [okByte, if_neg (by omega), if_neg (by omega), printB, decide_eq_true (by omega), decide_eq_true (by omega)]; rfl)⟩
          · omega
    ·
      refine St.exit ?_
      refine St.then_x ?_
      refine St.then_x ?_
      refine St.in_x ?_
      refine St.then_n ?_
      refine St.go hK4 ?_
      clear hK4
      refine St.seq fun K15 hK15 => ?_
      refine St.region ?_
      refine St.r (R.assign rfl) rfl rfl ?_
      refine St.nil ?_
      refine St.weak [(4, _)] ⟨rfl, trivial⟩ ?_
      refine St.then_n ?_
      refine St.go hK15 ?_
      clear hK15
      refine St.ret ?_
      refine St.ret1 Tryz.results119 rfl ?_
      exact ⟨_, rfl, by rw [rightS_good h10 (all_take hall (by omega)) (fun e => by omega)], E⟩


theorem right_ret {k : Int} {s : ByteArray} (hk : kindB k = true) (hsz : s.size ≤ 1000) (w0 : World) : Ret Tryz.prog 119 [.int .i64 k, .string s] w0 fun r w' => r = .bool (rightS k s) ∧ Ext w0 w' := by
  unfold kindB at hk
  rw [Bool.and_eq_true, decide_eq_true_iff, decide_eq_true_iff] at hk
  obtain rfl | rfl | rfl : k = 1 ∨ k = 2 ∨ k = 3 := by omega
  · exact right1_ret hsz w0
  · exact right2_ret hsz w0
  · exact right3_ret hsz w0
theorem kind_bad {k : Int} (h : k < 1 ∨ 3 < k) : kindB k = false := by
  unfold kindB; rw [Bool.and_eq_false_iff, decide_eq_false_iff_not, decide_eq_false_iff_not]; omega
theorem kind_ok {k : Int} (h : ¬ k < 1) (h2 : ¬ 3 < k) : kindB k = true := by
  unfold kindB; rw [Bool.and_eq_true, decide_eq_true_iff, decide_eq_true_iff]; omega

set_option maxHeartbeats 4000000 in
set_option maxRecDepth 100000 in
theorem rTerm_ret {t : Term} (w0 : World) : Ret Tryz.prog 44 [.agg (encTerm t).toArray] w0 fun r w' => r = .int .i64 (wrongI (termErr t)) ∧ Ext w0 w' := by
  have E : Ext w0 w0 := Ext.refl w0
  refine St.enter (N := 43) Tryz.func44 rfl Tryz.ntmps44 rfl ?_
  refine St.seq fun K0 hK0 => ?_
  refine St.region ?_
  refine St.box rfl rfl ?_
  intro w1 b1 hb1 hs1 e1 k1
  have qE1 := E.size
  replace E := Ext.trans E e1
  refine St.r (R.assign rfl) rfl rfl ?_
  refine St.nil ?_
  refine St.weak [(1, _)] ⟨rfl, trivial⟩ ?_
  refine St.then_n ?_
  refine St.go hK0 ?_
  clear hK0
  refine St.seq fun K1 hK1 => ?_
  refine St.seq fun K2 hK2 => ?_
  by_cases h7 : t.kind < 1
  ·
    refine St.region ?_
    refine St.r (R.fieldA Tryz.underlying44 rfl Tryz.sizeOf3 rfl rfl rfl) rfl rfl ?_
    refine St.r (R.load1 Tryz.isAgg3 rfl (k1.cells.at 0 rfl)) rfl rfl ?_
    refine St.r (Runs.lit (c := true) (R.lss rfl rfl) (decide_eq_true h7)) rfl rfl ?_
    refine St.r (R.move rfl) rfl rfl ?_
    refine St.pass (dg := 8) rfl rfl rfl rfl rfl ?_
    refine St.pass (dg := 8) rfl rfl rfl rfl rfl ?_
    refine St.pass (dg := 8) rfl rfl rfl rfl rfl ?_
    refine St.r (R.pickT rfl rfl) rfl rfl ?_
    refine St.nil ?_
    refine St.weak [(1, _), (12, _)] ⟨rfl, rfl, trivial⟩ ?_
    refine St.then_n ?_
    refine St.go hK2 ?_
    clear hK2
    refine St.condT rfl ?_
    refine St.seq fun K3 hK3 => ?_
    refine St.region ?_
    refine St.r (R.assign rfl) rfl rfl ?_
    refine St.nil ?_
    refine St.weak [(2, _)] ⟨rfl, trivial⟩ ?_
    refine St.then_n ?_
    refine St.go hK3 ?_
    clear hK3
    refine St.ret ?_
    refine St.then_r ?_
    refine St.ret1 Tryz.results44 rfl ?_
    exact ⟨_, rfl, by rw [termErr, if_pos (kind_bad (.inl h7))]; rfl, E⟩
  ·
    refine St.region ?_
    refine St.r (R.fieldA Tryz.underlying44 rfl Tryz.sizeOf3 rfl rfl rfl) rfl rfl ?_
    refine St.r (R.load1 Tryz.isAgg3 rfl (k1.cells.at 0 rfl)) rfl rfl ?_
    refine St.r (Runs.lit (c := false) (R.lss rfl rfl) (decide_eq_false h7)) rfl rfl ?_
    refine St.r (R.move rfl) rfl rfl ?_
    refine St.take (dg := 8) rfl rfl ?_ rfl
    refine St.r (R.fieldA Tryz.underlying44 rfl Tryz.sizeOf3 rfl rfl rfl) rfl rfl ?_
    refine St.take (dg := 8) rfl rfl ?_ rfl
    refine St.r (R.load1 Tryz.isAgg3 rfl (k1.cells.at 0 rfl)) rfl rfl ?_
    refine St.take (dg := 8) rfl rfl ?_ rfl
    refine St.r (R.gtr rfl rfl) rfl rfl ?_
    refine St.r (R.pickF rfl rfl) rfl rfl ?_
    refine St.nil ?_
    refine St.weak [(1, _), (12, _)] ⟨rfl, rfl, trivial⟩ ?_
    refine St.then_n ?_
    refine St.go hK2 ?_
    clear hK2
    refine St.condD rfl (fun h12 => ?_) (fun h12 => ?_)
    ·
      refine St.seq fun K4 hK4 => ?_
      refine St.region ?_
      refine St.r (R.assign rfl) rfl rfl ?_
      refine St.nil ?_
      refine St.weak [(2, _)] ⟨rfl, trivial⟩ ?_
      refine St.then_n ?_
      refine St.go hK4 ?_
      clear hK4
      refine St.ret ?_
      refine St.then_r ?_
      refine St.ret1 Tryz.results44 rfl ?_
      exact ⟨_, rfl, by rw [termErr, if_pos (kind_bad (.inr h12))]; rfl, E⟩
    ·
      have hk : kindB t.kind = true := kind_ok h7 h12
      refine St.skip ?_
      refine St.then_n ?_
      refine St.go hK1 ?_
      clear hK1
      refine St.seq fun K5 hK5 => ?_
      refine St.seq fun K6 hK6 => ?_
      refine St.region ?_
      refine St.r (R.fieldA Tryz.underlying44 rfl Tryz.sizeOf9 rfl rfl rfl) rfl rfl ?_
      refine St.r (R.load1 Tryz.isAgg9 rfl (k1.cells.at 1 rfl)) rfl rfl ?_
      refine St.r (R.lenStr Tryz.underlying9 rfl) rfl rfl ?_
      refine St.r (R.gtr rfl rfl) rfl rfl ?_
      refine St.nil ?_
      refine St.weak [(1, _), (16, _)] ⟨rfl, rfl, trivial⟩ ?_
      refine St.then_n ?_
      refine St.go hK6 ?_
      clear hK6
      refine St.condD rfl (fun h16 => ?_) (fun h16 => ?_)
      ·
        refine St.seq fun K7 hK7 => ?_
        refine St.region ?_
        refine St.r (R.assign rfl) rfl rfl ?_
        refine St.nil ?_
        refine St.weak [(2, _)] ⟨rfl, trivial⟩ ?_
        refine St.then_n ?_
        refine St.go hK7 ?_
        clear hK7
        refine St.ret ?_
        refine St.then_r ?_
        refine St.ret1 Tryz.results44 rfl ?_
        exact ⟨_, rfl, by rw [termErr, if_neg (by rw [hk]; simp), if_pos h16]; rfl, E⟩
      ·
        refine St.skip ?_
        refine St.then_n ?_
        refine St.go hK5 ?_
        clear hK5
        refine St.seq fun K8 hK8 => ?_
        refine St.region ?_
        refine St.r (R.fieldA Tryz.underlying44 rfl Tryz.sizeOf3 rfl rfl rfl) rfl rfl ?_
        refine St.r (R.load1 Tryz.isAgg3 rfl (k1.cells.at 0 rfl)) rfl rfl ?_
        refine St.r (R.fieldA Tryz.underlying44 rfl Tryz.sizeOf9 rfl rfl rfl) rfl rfl ?_
        refine St.r (R.load1 Tryz.isAgg9 rfl (k1.cells.at 1 rfl)) rfl rfl ?_
        refine St.call rfl rfl ent119 (right_ret hk (by omega) _) rfl ?_
        rintro r21 w21 ⟨rfl, e21⟩
        replace E := Ext.trans E e21
        replace k1 := k1.ext e21
        refine St.r (R.assign rfl) rfl rfl ?_
        refine St.nil ?_
        refine St.weak [(1, _), (3, _)] ⟨rfl, rfl, trivial⟩ ?_
        refine St.then_n ?_
        refine St.go hK8 ?_
        clear hK8
        refine St.seq fun K9 hK9 => ?_
        refine St.seq fun K10 hK10 => ?_
        refine St.region ?_
        refine St.r (R.move rfl) rfl rfl ?_
        refine St.r (R.not rfl) rfl rfl ?_
        refine St.nil ?_
        refine St.weak [(1, _), (23, _)] ⟨rfl, rfl, trivial⟩ ?_
        refine St.then_n ?_
        refine St.go hK10 ?_
        clear hK10
        refine St.cond rfl (fun h23 => ?_) (fun h23 => ?_)
        ·
          have htx : textB t = false := by rw [← rightS_eq]; simpa using h23
          refine St.seq fun K11 hK11 => ?_
          refine St.region ?_
          refine St.r (R.assign rfl) rfl rfl ?_
          refine St.nil ?_
          refine St.weak [(2, _)] ⟨rfl, trivial⟩ ?_
          refine St.then_n ?_
          refine St.go hK11 ?_
          clear hK11
          refine St.ret ?_
          refine St.then_r ?_
          refine St.ret1 Tryz.results44 rfl ?_
          exact ⟨_, rfl, by rw [termErr, if_neg (by rw [hk]; simp), if_neg h16, if_pos htx]; rfl, E⟩
        ·
          have htx : textB t = true := by rw [← rightS_eq]; simpa using h23
          refine St.skip ?_
          refine St.then_n ?_
          refine St.go hK9 ?_
          clear hK9
          refine St.seq fun K12 hK12 => ?_
          refine St.seq fun K13 hK13 => ?_
          refine St.region ?_
          refine St.r (R.fieldA Tryz.underlying44 rfl Tryz.sizeOf9 rfl rfl rfl) rfl rfl ?_
          refine St.r (R.load1 Tryz.isAgg9 rfl (k1.cells.at 2 rfl)) rfl rfl ?_
          refine St.r (R.eqS rfl rfl) rfl rfl ?_
          refine St.nil ?_
          refine St.weak [(1, _), (26, _)] ⟨rfl, rfl, trivial⟩ ?_
          refine St.then_n ?_
          refine St.go hK13 ?_
          clear hK13
          refine St.condD rfl (fun h26 => ?_) (fun h26 => ?_)
          ·
            refine St.seq fun K14 hK14 => ?_
            refine St.region ?_
            refine St.r (R.assign rfl) rfl rfl ?_
            refine St.nil ?_
            refine St.weak [(2, _)] ⟨rfl, trivial⟩ ?_
            refine St.then_n ?_
            refine St.go hK14 ?_
            clear hK14
            refine St.ret ?_
            refine St.then_r ?_
            refine St.ret1 Tryz.results44 rfl ?_
            exact ⟨_, rfl, by rw [termErr, if_neg (by rw [hk]; simp), if_neg h16, if_neg (by rw [htx]; simp), if_neg (by rw [langB_nil t h26]; simp)]; rfl, E⟩
          ·
            refine St.skip ?_
            refine St.then_n ?_
            refine St.go hK12 ?_
            clear hK12
            refine St.seq fun K15 hK15 => ?_
            refine St.region ?_
            refine St.r (R.fieldA Tryz.underlying44 rfl Tryz.sizeOf9 rfl rfl rfl) rfl rfl ?_
            refine St.r (R.load1 Tryz.isAgg9 rfl (k1.cells.at 2 rfl)) rfl rfl ?_
            refine St.call rfl rfl ent120 (Letters_ret (by omega) _) rfl ?_
            rintro r29 w29 ⟨rfl, e29⟩
            replace E := Ext.trans E e29
            replace k1 := k1.ext e29
            refine St.r (R.assign rfl) rfl rfl ?_
            refine St.nil ?_
            refine St.weak [(1, _), (4, _)] ⟨rfl, rfl, trivial⟩ ?_
            refine St.then_n ?_
            refine St.go hK15 ?_
            clear hK15
            refine St.seq fun K16 hK16 => ?_
            refine St.seq fun K17 hK17 => ?_
            by_cases h32 : t.kind ≠ 3
            ·
              refine St.region ?_
              refine St.r (R.fieldA Tryz.underlying44 rfl Tryz.sizeOf3 rfl rfl rfl) rfl rfl ?_
              refine St.r (R.load1 Tryz.isAgg3 rfl (k1.cells.at 0 rfl)) rfl rfl ?_
              refine St.r (Runs.lit (c := true) (R.neq rfl rfl) (decide_eq_true h32)) rfl rfl ?_
              refine St.r (R.move rfl) rfl rfl ?_
              refine St.pass (dg := 33) rfl rfl rfl rfl rfl ?_
              refine St.pass (dg := 33) rfl rfl rfl rfl rfl ?_
              refine St.pass (dg := 33) rfl rfl rfl rfl rfl ?_
              refine St.pass (dg := 33) rfl rfl rfl rfl rfl ?_
              refine St.r (R.pickT rfl rfl) rfl rfl ?_
              refine St.r (R.move rfl) rfl rfl ?_
              refine St.pass (dg := 39) rfl rfl rfl rfl rfl ?_
              refine St.pass (dg := 39) rfl rfl rfl rfl rfl ?_
              refine St.r (R.pickT rfl rfl) rfl rfl ?_
              refine St.nil ?_
              refine St.weak [(42, _)] ⟨rfl, trivial⟩ ?_
              refine St.then_n ?_
              refine St.go hK17 ?_
              clear hK17
              refine St.condT rfl ?_
              refine St.seq fun K18 hK18 => ?_
              refine St.region ?_
              refine St.r (R.assign rfl) rfl rfl ?_
              refine St.nil ?_
              refine St.weak [(2, _)] ⟨rfl, trivial⟩ ?_
              refine St.then_n ?_
              refine St.go hK18 ?_
              clear hK18
              refine St.ret ?_
              refine St.then_r ?_
              refine St.ret1 Tryz.results44 rfl ?_
              exact ⟨_, rfl, by rw [termErr, if_neg (by rw [hk]; simp), if_neg h16, if_neg (by rw [htx]; simp), if_pos (by rw [langB_eq t h26, decide_eq_false h32]; rfl)]; rfl, E⟩
            ·
              by_cases h37 : (t.lang.size : Int) ≠ 2
              ·
                refine St.region ?_
                refine St.r (R.fieldA Tryz.underlying44 rfl Tryz.sizeOf3 rfl rfl rfl) rfl rfl ?_
                refine St.r (R.load1 Tryz.isAgg3 rfl (k1.cells.at 0 rfl)) rfl rfl ?_
                refine St.r (Runs.lit (c := false) (R.neq rfl rfl) (decide_eq_false h32)) rfl rfl ?_
                refine St.r (R.move rfl) rfl rfl ?_
                refine St.take (dg := 33) rfl rfl ?_ rfl
                refine St.r (R.fieldA Tryz.underlying44 rfl Tryz.sizeOf9 rfl rfl rfl) rfl rfl ?_
                refine St.take (dg := 33) rfl rfl ?_ rfl
                refine St.r (R.load1 Tryz.isAgg9 rfl (k1.cells.at 2 rfl)) rfl rfl ?_
                refine St.take (dg := 33) rfl rfl ?_ rfl
                refine St.r (R.lenStr Tryz.underlying9 rfl) rfl rfl ?_
                refine St.take (dg := 33) rfl rfl ?_ rfl
                refine St.r (Runs.lit (c := true) (R.neq rfl rfl) (decide_eq_true h37)) rfl rfl ?_
                refine St.r (R.pickF rfl rfl) rfl rfl ?_
                refine St.r (R.move rfl) rfl rfl ?_
                refine St.pass (dg := 39) rfl rfl rfl rfl rfl ?_
                refine St.pass (dg := 39) rfl rfl rfl rfl rfl ?_
                refine St.r (R.pickT rfl rfl) rfl rfl ?_
                refine St.nil ?_
                refine St.weak [(42, _)] ⟨rfl, trivial⟩ ?_
                refine St.then_n ?_
                refine St.go hK17 ?_
                clear hK17
                refine St.condT rfl ?_
                refine St.seq fun K19 hK19 => ?_
                refine St.region ?_
                refine St.r (R.assign rfl) rfl rfl ?_
                refine St.nil ?_
                refine St.weak [(2, _)] ⟨rfl, trivial⟩ ?_
                refine St.then_n ?_
                refine St.go hK19 ?_
                clear hK19
                refine St.ret ?_
                refine St.then_r ?_
                refine St.ret1 Tryz.results44 rfl ?_
                exact ⟨_, rfl, by rw [termErr, if_neg (by rw [hk]; simp), if_neg h16, if_neg (by rw [htx]; simp), if_pos (by rw [langB_eq t h26, decide_eq_true (Decidable.not_not.1 h32), decide_eq_false h37]; rfl)]; rfl, E⟩
              ·
                refine St.region ?_
                refine St.r (R.fieldA Tryz.underlying44 rfl Tryz.sizeOf3 rfl rfl rfl) rfl rfl ?_
                refine St.r (R.load1 Tryz.isAgg3 rfl (k1.cells.at 0 rfl)) rfl rfl ?_
                refine St.r (Runs.lit (c := false) (R.neq rfl rfl) (decide_eq_false h32)) rfl rfl ?_
                refine St.r (R.move rfl) rfl rfl ?_
                refine St.take (dg := 33) rfl rfl ?_ rfl
                refine St.r (R.fieldA Tryz.underlying44 rfl Tryz.sizeOf9 rfl rfl rfl) rfl rfl ?_
                refine St.take (dg := 33) rfl rfl ?_ rfl
                refine St.r (R.load1 Tryz.isAgg9 rfl (k1.cells.at 2 rfl)) rfl rfl ?_
                refine St.take (dg := 33) rfl rfl ?_ rfl
                refine St.r (R.lenStr Tryz.underlying9 rfl) rfl rfl ?_
                refine St.take (dg := 33) rfl rfl ?_ rfl
                refine St.r (Runs.lit (c := false) (R.neq rfl rfl) (decide_eq_false h37)) rfl rfl ?_
                refine St.r (R.pickF rfl rfl) rfl rfl ?_
                refine St.r (R.move rfl) rfl rfl ?_
                refine St.take (dg := 39) rfl rfl ?_ rfl
                refine St.r (R.move rfl) rfl rfl ?_
                refine St.take (dg := 39) rfl rfl ?_ rfl
                refine St.r (R.not rfl) rfl rfl ?_
                refine St.r (R.pickF rfl rfl) rfl rfl ?_
                refine St.nil ?_
                refine St.weak [(42, _)] ⟨rfl, trivial⟩ ?_
                refine St.then_n ?_
                refine St.go hK17 ?_
                clear hK17
                refine St.cond rfl (fun h42 => ?_) (fun h42 => ?_)
                ·
                  have hlt : lettersB t.lang 2 = false := by simpa using h42
                  refine St.seq fun K20 hK20 => ?_
                  refine St.region ?_
                  refine St.r (R.assign rfl) rfl rfl ?_
                  refine St.nil ?_
                  refine St.weak [(2, _)] ⟨rfl, trivial⟩ ?_
                  refine St.then_n ?_
                  refine St.go hK20 ?_
                  clear hK20
                  refine St.ret ?_
                  refine St.then_r ?_
                  refine St.ret1 Tryz.results44 rfl ?_
                  exact ⟨_, rfl, by rw [termErr, if_neg (by rw [hk]; simp), if_neg h16, if_neg (by rw [htx]; simp), if_pos (by rw [langB_eq t h26, decide_eq_true (Decidable.not_not.1 h32), decide_eq_true (Decidable.not_not.1 h37), hlt]; rfl)]; rfl, E⟩
                ·
                  have hlt : lettersB t.lang 2 = true := by simpa using h42
                  refine St.skip ?_
                  refine St.then_n ?_
                  refine St.go hK16 ?_
                  clear hK16
                  refine St.seq fun K21 hK21 => ?_
                  refine St.region ?_
                  refine St.r (R.assign rfl) rfl rfl ?_
                  refine St.nil ?_
                  refine St.weak [(2, _)] ⟨rfl, trivial⟩ ?_
                  refine St.then_n ?_
                  refine St.go hK21 ?_
                  clear hK21
                  refine St.ret ?_
                  refine St.ret1 Tryz.results44 rfl ?_
                  exact ⟨_, rfl, by rw [termErr, if_neg (by rw [hk]; simp), if_neg h16, if_neg (by rw [htx]; simp), if_neg (by rw [langB_eq t h26, decide_eq_true (Decidable.not_not.1 h32), decide_eq_true (Decidable.not_not.1 h37), hlt]; simp)]; rfl, E⟩

theorem rshape_ret {t : Triple} (w0 : World) : Ret Tryz.prog 124 [.agg (encTriple t).toArray] w0 fun r w' => r = .bool (shapeB t) ∧ Ext w0 w' := by
  have E : Ext w0 w0 := Ext.refl w0
  refine St.enter (N := 13) Tryz.func124 rfl Tryz.ntmps124 rfl ?_
  refine St.seq fun K0 hK0 => ?_
  refine St.region ?_
  refine St.box rfl rfl ?_
  intro w1 b1 hb1 hs1 e1 k1
  have qE1 := E.size
  replace E := Ext.trans E e1
  refine St.r (R.assign rfl) rfl rfl ?_
  refine St.nil ?_
  refine St.weak [(1, _)] ⟨rfl, trivial⟩ ?_
  refine St.then_n ?_
  refine St.go hK0 ?_
  clear hK0
  refine St.seq fun K1 hK1 => ?_
  by_cases h6 : t.s.kind ≠ 3
  ·
    refine St.region ?_
    refine St.r (R.fieldA Tryz.underlying100 rfl Tryz.sizeOf44 rfl rfl rfl) rfl rfl ?_
    refine St.r (R.fieldA Tryz.underlying44 rfl Tryz.sizeOf3 rfl rfl rfl) rfl rfl ?_
    refine St.r (R.load1 Tryz.isAgg3 rfl (k1.cells.at 0 rfl)) rfl rfl ?_
    refine St.r (Runs.lit (c := true) (R.neq rfl rfl) (decide_eq_true h6)) rfl rfl ?_
    refine St.r (R.move rfl) rfl rfl ?_
    refine St.take (dg := 7) rfl rfl ?_ rfl
    refine St.r (R.fieldA Tryz.underlying100 rfl Tryz.sizeOf44 rfl rfl rfl) rfl rfl ?_
    refine St.take (dg := 7) rfl rfl ?_ rfl
    refine St.r (R.fieldA Tryz.underlying44 rfl Tryz.sizeOf3 rfl rfl rfl) rfl rfl ?_
    refine St.take (dg := 7) rfl rfl ?_ rfl
    refine St.r (R.load1 Tryz.isAgg3 rfl (k1.cells.at 3 rfl)) rfl rfl ?_
    refine St.take (dg := 7) rfl rfl ?_ rfl
    refine St.r (R.eql rfl rfl) rfl rfl ?_
    refine St.r (R.pickT rfl rfl) rfl rfl ?_
    refine St.r (R.assign rfl) rfl rfl ?_
    refine St.nil ?_
    refine St.weak [(2, _)] ⟨rfl, trivial⟩ ?_
    refine St.then_n ?_
    refine St.go hK1 ?_
    clear hK1
    refine St.ret ?_
    refine St.ret1 Tryz.results124 rfl ?_
    exact ⟨_, rfl, by rw [shapeB, decide_eq_true h6, Bool.true_and], E⟩
  ·
    refine St.region ?_
    refine St.r (R.fieldA Tryz.underlying100 rfl Tryz.sizeOf44 rfl rfl rfl) rfl rfl ?_
    refine St.r (R.fieldA Tryz.underlying44 rfl Tryz.sizeOf3 rfl rfl rfl) rfl rfl ?_
    refine St.r (R.load1 Tryz.isAgg3 rfl (k1.cells.at 0 rfl)) rfl rfl ?_
    refine St.r (Runs.lit (c := false) (R.neq rfl rfl) (decide_eq_false h6)) rfl rfl ?_
    refine St.r (R.move rfl) rfl rfl ?_
    refine St.pass (dg := 7) rfl rfl rfl rfl rfl ?_
    refine St.pass (dg := 7) rfl rfl rfl rfl rfl ?_
    refine St.pass (dg := 7) rfl rfl rfl rfl rfl ?_
    refine St.pass (dg := 7) rfl rfl rfl rfl rfl ?_
    refine St.r (R.pickF rfl rfl) rfl rfl ?_
    refine St.r (R.assign rfl) rfl rfl ?_
    refine St.nil ?_
    refine St.weak [(2, _)] ⟨rfl, trivial⟩ ?_
    refine St.then_n ?_
    refine St.go hK1 ?_
    clear hK1
    refine St.ret ?_
    refine St.ret1 Tryz.results124 rfl ?_
    exact ⟨_, rfl, by rw [shapeB, decide_eq_false h6]; rfl, E⟩


def e2 (t : Triple) : Int := if wrongI (termErr t.s) = 0 then wrongI (termErr t.p) else wrongI (termErr t.s)
def e3 (t : Triple) : Int := if e2 t = 0 then wrongI (termErr t.o) else e2 t
theorem wrong_trip (t : Triple) : wrongI (tripErr t) = if e3 t = 0 then (if shapeB t = false then 3 else 0) else e3 t := by
  rw [wrong_tripErr]
  unfold e3 e2
  by_cases h1 : wrongI (termErr t.s) = 0
  · by_cases h2 : wrongI (termErr t.p) = 0
    · by_cases h3 : wrongI (termErr t.o) = 0 <;> simp [h1, h2, h3]
    · simp [h1, h2]
  · simp [h1]

theorem rTriple_ret {t : Triple} (w0 : World) : Ret Tryz.prog 48 [.agg (encTriple t).toArray] w0 fun r w' => r = .int .i64 (wrongI (tripErr t)) ∧ Ext w0 w' := by
  have E : Ext w0 w0 := Ext.refl w0
  refine St.enter (N := 27) Tryz.func48 rfl Tryz.ntmps48 rfl ?_
  refine St.seq fun K0 hK0 => ?_
  refine St.region ?_
  refine St.box rfl rfl ?_
  intro w1 b1 hb1 hs1 e1 k1
  have qE1 := E.size
  replace E := Ext.trans E e1
  refine St.r (R.assign rfl) rfl rfl ?_
  refine St.nil ?_
  refine St.weak [(1, _)] ⟨rfl, trivial⟩ ?_
  refine St.then_n ?_
  refine St.go hK0 ?_
  clear hK0
  refine St.seq fun K1 hK1 => ?_
  refine St.region ?_
  refine St.r (R.fieldA Tryz.underlying100 rfl Tryz.sizeOf44 rfl rfl rfl) rfl rfl ?_
  refine St.r (R.loadA Tryz.isAgg44 Tryz.sizeOf44 rfl (triple_s k1) rfl) rfl rfl ?_
  refine St.call rfl rfl ent44 (rTerm_ret _) rfl ?_
  rintro r7 w7 ⟨rfl, e7⟩
  replace E := Ext.trans E e7
  replace k1 := k1.ext e7
  refine St.r (R.assign rfl) rfl rfl ?_
  refine St.nil ?_
  refine St.weak [(1, _), (3, _)] ⟨rfl, rfl, trivial⟩ ?_
  refine St.then_n ?_
  refine St.go hK1 ?_
  clear hK1
  refine St.seqJ (fun (x : Unit) => match x with | () => [(1, .pointer (some ⟨b1, 0, none⟩)), (3, .int .i64 (e2 t))])
      (fun (x : Unit) w => match x with | () => Ext w0 w ∧ Blk w b1 100 (encTriple t)) ?_ ?_
  · rintro _ w ⟨E, k1⟩
    show St _ _ [(1, .pointer (some ⟨b1, 0, none⟩)), (3, .int .i64 (e2 t))] _ _
    refine St.seqJ (fun (x : Unit) => match x with | () => [(1, .pointer (some ⟨b1, 0, none⟩)), (3, .int .i64 (e3 t))])
        (fun (x : Unit) w => match x with | () => Ext w0 w ∧ Blk w b1 100 (encTriple t)) ?_ ?_
    · rintro _ w ⟨E, k1⟩
      show St _ _ [(1, .pointer (some ⟨b1, 0, none⟩)), (3, .int .i64 (e3 t))] _ _
      refine St.seq fun K4 hK4 => ?_
      refine St.region ?_
      refine St.r (R.loadA Tryz.isAgg100 Tryz.sizeOf100 rfl k1.cells rfl) rfl rfl ?_
      refine St.call rfl rfl ent124 (rshape_ret _) rfl ?_
      rintro r19 w19 ⟨rfl, e19⟩
      replace E := Ext.trans E e19
      replace k1 := k1.ext e19
      refine St.r (R.assign rfl) rfl rfl ?_
      refine St.nil ?_
      refine St.weak [(3, _), (4, _)] ⟨rfl, rfl, trivial⟩ ?_
      refine St.then_n ?_
      refine St.go hK4 ?_
      clear hK4
      refine St.seqJ (fun (x : Unit) => match x with | () => [(3, .int .i64 (wrongI (tripErr t)))])
          (fun (x : Unit) w => match x with | () => Ext w0 w) ?_ ?_
      · rintro _ w E
        show St _ _ [(3, .int .i64 (wrongI (tripErr t)))] _ _
        refine St.seq fun K6 hK6 => ?_
        refine St.region ?_
        refine St.r (R.move rfl) rfl rfl ?_
        refine St.r (R.assign rfl) rfl rfl ?_
        refine St.nil ?_
        refine St.weak [(2, _)] ⟨rfl, trivial⟩ ?_
        refine St.then_n ?_
        refine St.go hK6 ?_
        clear hK6
        refine St.ret ?_
        refine St.ret1 Tryz.results48 rfl ?_
        exact ⟨_, rfl, rfl, E⟩
      intro K5 hK5
      refine St.seq fun K7 hK7 => ?_
      by_cases h21 : e3 t = 0
      ·
        refine St.region ?_
        refine St.r (R.move rfl) rfl rfl ?_
        refine St.r (Runs.lit (c := true) (R.eql rfl rfl) (decide_eq_true h21)) rfl rfl ?_
        refine St.r (R.move rfl) rfl rfl ?_
        refine St.take (dg := 22) rfl rfl ?_ rfl
        refine St.r (R.move rfl) rfl rfl ?_
        refine St.take (dg := 22) rfl rfl ?_ rfl
        refine St.r (R.not rfl) rfl rfl ?_
        refine St.r (R.pickT rfl rfl) rfl rfl ?_
        refine St.nil ?_
        refine St.weak [(3, _), (25, _)] ⟨rfl, rfl, trivial⟩ ?_
        refine St.then_n ?_
        refine St.go hK7 ?_
        clear hK7
        refine St.cond rfl (fun h25 => ?_) (fun h25 => ?_)
        ·
          refine St.region ?_
          refine St.r (R.assign rfl) rfl rfl ?_
          refine St.nil ?_
          refine St.weak [(3, _)] ⟨rfl, trivial⟩ ?_
          refine St.then_n ?_
          refine St.meet hK5 () ⟨(look_int rfl (by rw [wrong_trip, if_pos h21, if_pos (by simpa using h25)])), trivial⟩ ?_
          · exact E
        ·
          refine St.skip ?_
          refine St.then_n ?_
          refine St.meet hK5 () ⟨(look_int rfl (by rw [wrong_trip, if_pos h21, if_neg (by simpa using h25)]; exact h21)), trivial⟩ ?_
          · exact E
      ·
        refine St.region ?_
        refine St.r (R.move rfl) rfl rfl ?_
        refine St.r (Runs.lit (c := false) (R.eql rfl rfl) (decide_eq_false h21)) rfl rfl ?_
        refine St.r (R.move rfl) rfl rfl ?_
        refine St.pass (dg := 22) rfl rfl rfl rfl rfl ?_
        refine St.pass (dg := 22) rfl rfl rfl rfl rfl ?_
        refine St.r (R.pickF rfl rfl) rfl rfl ?_
        refine St.nil ?_
        refine St.weak [(3, _), (25, _)] ⟨rfl, rfl, trivial⟩ ?_
        refine St.then_n ?_
        refine St.go hK7 ?_
        clear hK7
        refine St.condF rfl ?_
        refine St.skip ?_
        refine St.then_n ?_
        refine St.meet hK5 () ⟨(look_int rfl (by rw [wrong_trip, if_neg h21])), trivial⟩ ?_
        · exact E
    intro K3 hK3
    refine St.seq fun K8 hK8 => ?_
    refine St.region ?_
    refine St.r (R.move rfl) rfl rfl ?_
    refine St.r (R.eql rfl rfl) rfl rfl ?_
    refine St.nil ?_
    refine St.weak [(1, _), (3, _), (14, _)] ⟨rfl, rfl, rfl, trivial⟩ ?_
    refine St.then_n ?_
    refine St.go hK8 ?_
    clear hK8
    refine St.condD rfl (fun h14 => ?_) (fun h14 => ?_)
    ·
      refine St.region ?_
      refine St.r (R.fieldA Tryz.underlying100 rfl Tryz.sizeOf44 rfl rfl rfl) rfl rfl ?_
      refine St.r (R.loadA Tryz.isAgg44 Tryz.sizeOf44 rfl (triple_o k1) rfl) rfl rfl ?_
      refine St.call rfl rfl ent44 (rTerm_ret _) rfl ?_
      rintro r17 w17 ⟨rfl, e17⟩
      replace E := Ext.trans E e17
      replace k1 := k1.ext e17
      refine St.r (R.assign rfl) rfl rfl ?_
      refine St.nil ?_
      refine St.weak [(1, _), (3, _)] ⟨rfl, rfl, trivial⟩ ?_
      refine St.then_n ?_
      refine St.meet hK3 () ⟨rfl, (look_int rfl (by rw [e3, if_pos h14])), trivial⟩ ?_
      · exact ⟨E, k1⟩
    ·
      refine St.skip ?_
      refine St.then_n ?_
      refine St.meet hK3 () ⟨rfl, (look_int rfl (by rw [e3, if_neg h14])), trivial⟩ ?_
      · exact ⟨E, k1⟩
  intro K2 hK2
  refine St.seq fun K9 hK9 => ?_
  refine St.region ?_
  refine St.r (R.move rfl) rfl rfl ?_
  refine St.r (R.eql rfl rfl) rfl rfl ?_
  refine St.nil ?_
  refine St.weak [(1, _), (3, _), (9, _)] ⟨rfl, rfl, rfl, trivial⟩ ?_
  refine St.then_n ?_
  refine St.go hK9 ?_
  clear hK9
  refine St.condD rfl (fun h9 => ?_) (fun h9 => ?_)
  ·
    refine St.region ?_
    refine St.r (R.fieldA Tryz.underlying100 rfl Tryz.sizeOf44 rfl rfl rfl) rfl rfl ?_
    refine St.r (R.loadA Tryz.isAgg44 Tryz.sizeOf44 rfl (triple_p k1) rfl) rfl rfl ?_
    refine St.call rfl rfl ent44 (rTerm_ret _) rfl ?_
    rintro r12 w12 ⟨rfl, e12⟩
    replace E := Ext.trans E e12
    replace k1 := k1.ext e12
    refine St.r (R.assign rfl) rfl rfl ?_
    refine St.nil ?_
    refine St.weak [(1, _), (3, _)] ⟨rfl, rfl, trivial⟩ ?_
    refine St.then_n ?_
    refine St.meet hK2 () ⟨rfl, (look_int rfl (by rw [e2, if_pos h9])), trivial⟩ ?_
    · exact ⟨E, k1⟩
  ·
    refine St.skip ?_
    refine St.then_n ?_
    refine St.meet hK2 () ⟨rfl, (look_int rfl (by rw [e2, if_neg h9])), trivial⟩ ?_
    · exact ⟨E, k1⟩

theorem rSet_ret {l : List Triple} {v : Value} (w0 : World) (hv : RTriples w0 v l) : Ret Tryz.prog 7 [v] w0 fun r w' => r = .int .i64 (wrongI (setErr l)) ∧ Ext w0 w' := by
  obtain ⟨A, c, rfl, hc1, hc2⟩ := hv.form
  have E : Ext w0 w0 := Ext.refl w0
  refine St.enter (N := 37) Tryz.func7 rfl Tryz.ntmps7 rfl ?_
  refine St.seq fun K0 hK0 => ?_
  refine St.region ?_
  refine St.r (R.assign rfl) rfl rfl ?_
  refine St.nil ?_
  refine St.weak [(0, _)] ⟨rfl, trivial⟩ ?_
  refine St.then_n ?_
  refine St.go hK0 ?_
  clear hK0
  refine St.seq fun K1 hK1 => ?_
  refine St.seq fun K2 hK2 => ?_
  refine St.region ?_
  refine St.r (R.move rfl) rfl rfl ?_
  refine St.r (R.lenSl Tryz.underlying22 rfl) rfl rfl ?_
  refine St.r (R.gtr rfl rfl) rfl rfl ?_
  refine St.nil ?_
  refine St.weak [(0, _), (7, _)] ⟨rfl, rfl, trivial⟩ ?_
  refine St.then_n ?_
  refine St.go hK2 ?_
  clear hK2
  refine St.condD rfl (fun h7 => ?_) (fun h7 => ?_)
  ·
    refine St.seq fun K3 hK3 => ?_
    refine St.region ?_
    refine St.r (R.assign rfl) rfl rfl ?_
    refine St.nil ?_
    refine St.weak [(2, _)] ⟨rfl, trivial⟩ ?_
    refine St.then_n ?_
    refine St.go hK3 ?_
    clear hK3
    refine St.ret ?_
    refine St.then_r ?_
    refine St.ret1 Tryz.results7 rfl ?_
    exact ⟨_, rfl, by rw [setErr, if_pos (by omega)]; rfl, E⟩
  ·
    have hs : setErr l = setErrFrom (pvL l 0) (l.drop 0) := by rw [setErr, if_neg (by omega)]; rfl
    refine St.skip ?_
    refine St.then_n ?_
    refine St.go hK1 ?_
    clear hK1
    refine St.seq fun K4 hK4 => ?_
    refine St.seq fun K5 hK5 => ?_
    refine St.region ?_
    refine St.r (R.assign rfl) rfl rfl ?_
    refine St.nil ?_
    refine St.weak [(0, _), (3, _)] ⟨rfl, rfl, trivial⟩ ?_
    refine St.then_n ?_
    refine St.go hK5 ?_
    clear hK5
    refine St.block ?_
    refine St.loop (fun (k : Nat) => [(0, .slice A l.length c), (3, .int .i64 (k : Int))])
        (fun (k : Nat) w => k ≤ l.length ∧ Ext w0 w ∧ setErr l = setErrFrom (pvL l k) (l.drop k))
        (fun (k : Nat) => l.length - k) 0 ⟨rfl, rfl, trivial⟩ ?_ ?_
    · exact ⟨Nat.zero_le _, E, hs⟩
    rintro k w ⟨hk, E, hs⟩
    show St _ _ [(0, .slice A l.length c), (3, .int .i64 (k : Int))] _ _
    refine St.seq fun K6 hK6 => ?_
    refine St.seq fun K7 hK7 => ?_
    refine St.region ?_
    refine St.r (R.move rfl) rfl rfl ?_
    refine St.r (R.move rfl) rfl rfl ?_
    refine St.r (R.lenSl Tryz.underlying22 rfl) rfl rfl ?_
    refine St.r (R.lss rfl rfl) rfl rfl ?_
    refine St.nil ?_
    refine St.weak [(0, _), (3, _), (11, _)] ⟨rfl, rfl, rfl, trivial⟩ ?_
    refine St.then_n ?_
    refine St.go hK7 ?_
    clear hK7
    refine St.condD rfl (fun h11 => ?_) (fun h11 => ?_)
    ·
      obtain ⟨x, hx⟩ := get_of_lt (xs := l) (k := k) (by omega)
      obtain ⟨xb, xo, rfl, hxc⟩ := hv.get' hx
      refine St.skip ?_
      refine St.then_n ?_
      refine St.go hK6 ?_
      clear hK6
      refine St.seq fun K8 hK8 => ?_
      refine St.block ?_
      refine St.seq fun K9 hK9 => ?_
      refine St.region ?_
      refine St.r (R.move rfl) rfl rfl ?_
      refine St.r (R.move rfl) rfl rfl ?_
      refine St.r (R.indexS k Tryz.underlying22 Tryz.sizeOf100 rfl rfl rfl (by omega)) rfl rfl ?_
      refine St.r (R.loadA Tryz.isAgg100 Tryz.sizeOf100 rfl (E.cells hxc) rfl) rfl rfl ?_
      refine St.call rfl rfl ent48 (rTriple_ret _) rfl ?_
      rintro r18 w18 ⟨rfl, e18⟩
      replace E := Ext.trans E e18
      refine St.r (R.assign rfl) rfl rfl ?_
      refine St.nil ?_
      refine St.weak [(0, _), (3, _), (4, _)] ⟨rfl, rfl, rfl, trivial⟩ ?_
      refine St.then_n ?_
      refine St.go hK9 ?_
      clear hK9
      refine St.seq fun K10 hK10 => ?_
      refine St.seq fun K11 hK11 => ?_
      refine St.region ?_
      refine St.r (R.move rfl) rfl rfl ?_
      refine St.r (R.neq rfl rfl) rfl rfl ?_
      refine St.nil ?_
      refine St.weak [(0, _), (3, _), (4, _), (20, _)] ⟨rfl, rfl, rfl, rfl, trivial⟩ ?_
      refine St.then_n ?_
      refine St.go hK11 ?_
      clear hK11
      refine St.condD rfl (fun h20 => ?_) (fun h20 => ?_)
      ·
        obtain ⟨er, her⟩ : ∃ e, tripErr x = some e := by
          cases hc : tripErr x with
          | none => rw [hc] at h20; exact absurd rfl h20
          | some e => exact ⟨e, rfl⟩
        refine St.seq fun K12 hK12 => ?_
        refine St.region ?_
        refine St.r (R.move rfl) rfl rfl ?_
        refine St.r (R.assign rfl) rfl rfl ?_
        refine St.nil ?_
        refine St.weak [(2, _)] ⟨rfl, trivial⟩ ?_
        refine St.then_n ?_
        refine St.go hK12 ?_
        clear hK12
        refine St.ret ?_
        refine St.then_r ?_
        refine St.in_r ?_
        refine St.then_r ?_
        refine St.then_r ?_
        refine St.in_r ?_
        refine St.then_r ?_
        refine St.ret1 Tryz.results7 rfl ?_
        exact ⟨_, rfl, by rw [hs, drop_at hx, setErrFrom_cons, her], E⟩
      ·
        have ht : tripErr x = none := tripErr_0.1 (Decidable.not_not.1 h20)
        refine St.skip ?_
        refine St.then_n ?_
        refine St.go hK10 ?_
        clear hK10
        refine St.seq fun K13 hK13 => ?_
        by_cases h23 : (0 : Int) < (k : Int)
        ·
          obtain ⟨q, hq⟩ := get_of_lt (xs := l) (k := k - 1) (by omega)
          have hqc := hv.get hq
          have hpv : pvL l k = some q := pv_prev (by omega) hq
          refine St.weak [(0, _), (3, _)] ⟨rfl, rfl, trivial⟩ ?_
          refine St.drawX mixed rfl rfl rfl rfl ?_
          replace E := Ext.trans E (Ext.drew _)
          refine ⟨_, fun W eW => OpX.q (OpOk.r (R.move rfl) rfl), ?_⟩
          refine ⟨_, fun W eW => OpX.q (OpOk.r (Runs.lit (c := true) (R.gtr rfl rfl) (decide_eq_true h23)) rfl), ?_⟩
          refine ⟨_, fun W eW => OpX.q (OpOk.r (R.move rfl) rfl), ?_⟩
          refine ⟨_, fun W eW => OpX.q (OpOk.take (dg := 24) (R.move rfl) rfl rfl rfl rfl), ?_⟩
          refine ⟨_, fun W eW => OpX.q (OpOk.take (dg := 24) (R.move rfl) rfl rfl rfl rfl), ?_⟩
          refine ⟨_, fun W eW => OpX.q (OpOk.take (dg := 24) (R.sub rfl rfl (by omega) (by omega)) rfl rfl rfl rfl), ?_⟩
          refine ⟨_, fun W eW => OpX.q (OpOk.take (dg := 24) (R.indexS (k - 1) Tryz.underlying22 Tryz.sizeOf100 rfl rfl (by omega) (by omega)) rfl rfl rfl rfl), ?_⟩
          refine ⟨_, fun W eW => OpX.q (OpOk.take (dg := 24) (R.loadA Tryz.isAgg100 Tryz.sizeOf100 rfl ((Ext.trans E eW).cells hqc) rfl) rfl rfl rfl rfl), ?_⟩
          refine ⟨_, fun W eW => OpX.q (OpOk.take (dg := 24) (R.move rfl) rfl rfl rfl rfl), ?_⟩
          refine ⟨_, fun W eW => OpX.q (OpOk.take (dg := 24) (R.move rfl) rfl rfl rfl rfl), ?_⟩
          refine ⟨_, fun W eW => OpX.q (OpOk.take (dg := 24) (R.indexS k Tryz.underlying22 Tryz.sizeOf100 rfl rfl rfl (by omega)) rfl rfl rfl rfl), ?_⟩
          refine ⟨_, fun W eW => OpX.q (OpOk.take (dg := 24) (R.loadA Tryz.isAgg100 Tryz.sizeOf100 rfl ((Ext.trans E eW).cells hxc) rfl) rfl rfl rfl rfl), ?_⟩
          refine ⟨_, fun W eW => OpX.callG (dg := 24) rfl rfl ent49 (rOrder_ret (a := q) (b := x) _) rfl rfl rfl, ?_⟩
          refine ⟨_, fun W eW => OpX.q (OpOk.take (dg := 24) (R.geq rfl rfl) rfl rfl rfl rfl), ?_⟩
          refine ⟨_, fun W eW => OpX.q (OpOk.r (R.pickT rfl rfl) rfl), ?_⟩
          show ∀ w', Ext _ w' → St _ _ _ _ w'
          intro wd9 ed9
          replace E := Ext.trans E ed9
          refine St.weak [(0, _), (3, _), (36, _)] ⟨rfl, rfl, rfl, trivial⟩ ?_
          refine St.then_n ?_
          refine St.go hK13 ?_
          clear hK13
          refine St.condD rfl (fun h36 => ?_) (fun h36 => ?_)
          ·
            refine St.seq fun K14 hK14 => ?_
            refine St.region ?_
            refine St.r (R.assign rfl) rfl rfl ?_
            refine St.nil ?_
            refine St.weak [(2, _)] ⟨rfl, trivial⟩ ?_
            refine St.then_n ?_
            refine St.go hK14 ?_
            clear hK14
            refine St.ret ?_
            refine St.in_r ?_
            refine St.then_r ?_
            refine St.then_r ?_
            refine St.in_r ?_
            refine St.then_r ?_
            refine St.ret1 Tryz.results7 rfl ?_
            exact ⟨_, rfl, by rw [hs, drop_at hx, setErrFrom_cons, ht, hpv]; simp only; rw [if_pos h36]; rfl, E⟩
          ·
            refine St.skip ?_
            refine St.in_n ?_
            refine St.then_n ?_
            refine St.go hK8 ?_
            clear hK8
            refine St.region ?_
            refine St.r (R.move rfl) rfl rfl ?_
            refine St.r (R.add rfl rfl (by omega) (by omega)) rfl rfl ?_
            refine St.r (R.assign rfl) rfl rfl ?_
            refine St.nil ?_
            refine St.weak [(0, _), (3, _)] ⟨rfl, rfl, trivial⟩ ?_
            refine St.then_n ?_
            refine St.round (k + 1) ⟨rfl, rfl, trivial⟩ ?_ ?_
            · refine ⟨by omega, E, ?_⟩
              rw [hs, drop_at hx, pv_next hx, setErrFrom_cons, ht, hpv]
              simp only
              rw [if_neg h36]
            · omega
        ·
          refine St.weak [(0, _), (3, _)] ⟨rfl, rfl, trivial⟩ ?_
          refine St.drawX mixed rfl rfl rfl rfl ?_
          replace E := Ext.trans E (Ext.drew _)
          refine ⟨_, fun W eW => OpX.q (OpOk.r (R.move rfl) rfl), ?_⟩
          refine ⟨_, fun W eW => OpX.q (OpOk.r (Runs.lit (c := false) (R.gtr rfl rfl) (decide_eq_false h23)) rfl), ?_⟩
          refine ⟨_, fun W eW => OpX.q (OpOk.r (R.move rfl) rfl), ?_⟩
          refine ⟨_, fun W eW => OpX.q (OpOk.pass (dg := 24) rfl rfl rfl rfl rfl), ?_⟩
          refine ⟨_, fun W eW => OpX.q (OpOk.pass (dg := 24) rfl rfl rfl rfl rfl), ?_⟩
          refine ⟨_, fun W eW => OpX.q (OpOk.pass (dg := 24) rfl rfl rfl rfl rfl), ?_⟩
          refine ⟨_, fun W eW => OpX.q (OpOk.pass (dg := 24) rfl rfl rfl rfl rfl), ?_⟩
          refine ⟨_, fun W eW => OpX.q (OpOk.pass (dg := 24) rfl rfl rfl rfl rfl), ?_⟩
          refine ⟨_, fun W eW => OpX.q (OpOk.pass (dg := 24) rfl rfl rfl rfl rfl), ?_⟩
          refine ⟨_, fun W eW => OpX.q (OpOk.pass (dg := 24) rfl rfl rfl rfl rfl), ?_⟩
          refine ⟨_, fun W eW => OpX.q (OpOk.pass (dg := 24) rfl rfl rfl rfl rfl), ?_⟩
          refine ⟨_, fun W eW => OpX.q (OpOk.pass (dg := 24) rfl rfl rfl rfl rfl), ?_⟩
          refine ⟨_, fun W eW => OpX.q (OpOk.pass (dg := 24) rfl rfl rfl rfl rfl), ?_⟩
          refine ⟨_, fun W eW => OpX.q (OpOk.pass (dg := 24) rfl rfl rfl rfl rfl), ?_⟩
          refine ⟨_, fun W eW => OpX.q (OpOk.r (R.pickF rfl rfl) rfl), ?_⟩
          show ∀ w', Ext _ w' → St _ _ _ _ w'
          intro wd9 ed9
          replace E := Ext.trans E ed9
          refine St.weak [(0, _), (3, _), (36, _)] ⟨rfl, rfl, rfl, trivial⟩ ?_
          refine St.then_n ?_
          refine St.go hK13 ?_
          clear hK13
          refine St.condF rfl ?_
          refine St.skip ?_
          refine St.in_n ?_
          refine St.then_n ?_
          refine St.go hK8 ?_
          clear hK8
          refine St.region ?_
          refine St.r (R.move rfl) rfl rfl ?_
          refine St.r (R.add rfl rfl (by omega) (by omega)) rfl rfl ?_
          refine St.r (R.assign rfl) rfl rfl ?_
          refine St.nil ?_
          refine St.weak [(0, _), (3, _)] ⟨rfl, rfl, trivial⟩ ?_
          refine St.then_n ?_
          refine St.round (k + 1) ⟨rfl, rfl, trivial⟩ ?_ ?_
          · refine ⟨by omega, E, ?_⟩
            obtain rfl : k = 0 := by omega
            rw [hs, drop_at hx, pv_next hx, setErrFrom_cons, ht]; rfl
          · omega
    ·
      refine St.exit ?_
      refine St.then_x ?_
      refine St.then_x ?_
      refine St.in_x ?_
      refine St.then_n ?_
      refine St.go hK4 ?_
      clear hK4
      refine St.seq fun K15 hK15 => ?_
      refine St.region ?_
      refine St.r (R.assign rfl) rfl rfl ?_
      refine St.nil ?_
      refine St.weak [(2, _)] ⟨rfl, trivial⟩ ?_
      refine St.then_n ?_
      refine St.go hK15 ?_
      clear hK15
      refine St.ret ?_
      refine St.ret1 Tryz.results7 rfl ?_
      exact ⟨_, rfl, by rw [hs, List.drop_of_length_le (by omega)]; cases k <;> rfl, E⟩

end Go.Proofs.YtjgcmpondbocfaaGreatDoor

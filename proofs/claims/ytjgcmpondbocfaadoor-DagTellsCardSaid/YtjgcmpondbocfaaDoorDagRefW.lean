/- What the references of package strataref2 on commits, dag.Log and slices.Reverse come to: each walked once. Under the reading of its arguments. -/
import Derived.Test.YtjgcmpondbocfaaDoorProg
import Derived.Test.YtjgcmpondbocfaaDoorDagRef
import Derived.Test.YtjgcmpondbocfaaDoorDagW
import Derived.Test.YtjgcmpondbocfaaDoorMore
namespace Go.Proofs.YtjgcmpondbocfaaDoor
open Go.RowKit 
theorem ent9 : Ent Tryd.prog 9 := Ent.of Tryd.func9 (by kernel_rfl) rfl
theorem ent10 : Ent Tryd.prog 10 := Ent.of Tryd.func10 (by kernel_rfl) rfl
theorem ent14 : Ent Tryd.prog 14 := Ent.of Tryd.func14 (by kernel_rfl) rfl
theorem ent34 : Ent Tryd.prog 34 := Ent.of Tryd.func34 (by kernel_rfl) rfl
theorem ent40 : Ent Tryd.prog 40 := Ent.of Tryd.func40 (by kernel_rfl) rfl
theorem info4 : (Tryd.prog.info? 4).map (fun i => (i.zero, i.size, i.bytes)) = some (some (.bool false), 1, 1) := by kernel_rfl
theorem rMessage_ret {s : ByteArray} (w0 : World) : Ret Tryd.prog 34 [.string s] w0 fun r w' => r = .int .i64 ((msgErr s).getD 0) ∧ Ext w0 w' := by
  have hlen : s.data.toList.length = s.size := by rw [Array.length_toList]; rfl
  have E : Ext w0 w0 := Ext.refl w0
  refine St.enter (N := 23) Tryd.func34 rfl Tryd.ntmps34 rfl ?_
  refine St.seq fun K0 hK0 => ?_
  refine St.region ?_
  refine St.r (R.assign rfl) rfl rfl ?_
  refine St.nil ?_
  refine St.weak [(0, _)] ⟨rfl, trivial⟩ ?_
  refine St.then_n ?_
  refine St.go hK0 ?_
  clear hK0
  refine St.seq fun K1 hK1 => ?_
  refine St.seq fun K2 hK2 => ?_
  refine St.region ?_
  refine St.r (R.move rfl) rfl rfl ?_
  refine St.r (R.lenStr Tryd.underlying9 rfl) rfl rfl ?_
  refine St.r (R.gtr rfl rfl) rfl rfl ?_
  refine St.nil ?_
  refine St.weak [(0, _), (6, _)] ⟨rfl, rfl, trivial⟩ ?_
  refine St.then_n ?_
  refine St.go hK2 ?_
  clear hK2
  refine St.condD rfl (fun h6 => ?_) (fun h6 => ?_)
  ·
    refine St.seq fun K3 hK3 => ?_
    refine St.region ?_
    refine St.r (R.assign rfl) rfl rfl ?_
    refine St.nil ?_
    refine St.weak [(2, _)] ⟨rfl, trivial⟩ ?_
    refine St.then_n ?_
    refine St.go hK3 ?_
    clear hK3
    refine St.ret ?_
    refine St.then_r ?_
    refine St.ret1 Tryd.results34 rfl ?_
    exact ⟨_, rfl, by rw [msgErr_long h6]; rfl, E⟩
  ·
    refine St.skip ?_
    refine St.then_n ?_
    refine St.go hK1 ?_
    clear hK1
    refine St.seq fun K4 hK4 => ?_
    refine St.seq fun K5 hK5 => ?_
    refine St.region ?_
    refine St.r (R.assign rfl) rfl rfl ?_
    refine St.nil ?_
    refine St.weak [(0, _), (3, _)] ⟨rfl, rfl, trivial⟩ ?_
    refine St.then_n ?_
    refine St.go hK5 ?_
    clear hK5
    refine St.block ?_
    refine St.loop (fun (k : Nat) => [(0, .string s), (3, .int .i64 (k : Int))])
        (fun (k : Nat) w => k ≤ s.data.toList.length ∧ Ext w0 w ∧ ∀ y ∈ s.data.toList.take k, badMsg y = false)
        (fun (k : Nat) => s.data.toList.length - k) 0 ⟨rfl, rfl, trivial⟩ ?_ ?_
    · exact ⟨Nat.zero_le _, E, by simp⟩
    rintro k w ⟨hk, E, hall⟩
    show St _ _ [(0, .string s), (3, .int .i64 (k : Int))] _ _
    refine St.seq fun K6 hK6 => ?_
    refine St.seq fun K7 hK7 => ?_
    refine St.region ?_
    refine St.r (R.move rfl) rfl rfl ?_
    refine St.r (R.move rfl) rfl rfl ?_
    refine St.r (R.lenStr Tryd.underlying9 rfl) rfl rfl ?_
    refine St.r (R.lss rfl rfl) rfl rfl ?_
    refine St.nil ?_
    refine St.weak [(0, _), (3, _), (10, _)] ⟨rfl, rfl, rfl, trivial⟩ ?_
    refine St.then_n ?_
    refine St.go hK7 ?_
    clear hK7
    refine St.condD rfl (fun h10 => ?_) (fun h10 => ?_)
    ·
      obtain ⟨x, hx⟩ := get_of_lt (xs := s.data.toList) (k := k) (by omega)
      refine St.skip ?_
      refine St.then_n ?_
      refine St.go hK6 ?_
      clear hK6
      refine St.seq fun K8 hK8 => ?_
      refine St.block ?_
      refine St.seq fun K9 hK9 => ?_
      by_cases h16 : (x.toNat : Int) < 32
      ·
        refine St.region ?_
        refine St.r (R.move rfl) rfl rfl ?_
        refine St.r (R.move rfl) rfl rfl ?_
        refine St.r (R.idxStr k Tryd.underlying9 rfl rfl rfl hx) rfl rfl ?_
        refine St.r (Runs.lit (c := true) (R.lss rfl rfl) (decide_eq_true h16)) rfl rfl ?_
        refine St.r (R.move rfl) rfl rfl ?_
        refine St.pass (dg := 17) rfl rfl rfl rfl rfl ?_
        refine St.pass (dg := 17) rfl rfl rfl rfl rfl ?_
        refine St.pass (dg := 17) rfl rfl rfl rfl rfl ?_
        refine St.pass (dg := 17) rfl rfl rfl rfl rfl ?_
        refine St.r (R.pickT rfl rfl) rfl rfl ?_
        refine St.nil ?_
        refine St.weak [(0, _), (3, _), (22, _)] ⟨rfl, rfl, rfl, trivial⟩ ?_
        refine St.then_n ?_
        refine St.go hK9 ?_
        clear hK9
        refine St.condT rfl ?_
        refine St.seq fun K10 hK10 => ?_
        refine St.region ?_
        refine St.r (R.assign rfl) rfl rfl ?_
        refine St.nil ?_
        refine St.weak [(2, _)] ⟨rfl, trivial⟩ ?_
        refine St.then_n ?_
        refine St.go hK10 ?_
        clear hK10
        refine St.ret ?_
        refine St.in_r ?_
        refine St.then_r ?_
        refine St.then_r ?_
        refine St.in_r ?_
        refine St.then_r ?_
        refine St.ret1 Tryd.results34 rfl ?_
        exact ⟨_, rfl, by rw [msgErr_bad h6 hx (by rw [badMsg, decide_eq_true h16]; rfl)]; rfl, E⟩
      ·
        refine St.region ?_
        refine St.r (R.move rfl) rfl rfl ?_
        refine St.r (R.move rfl) rfl rfl ?_
        refine St.r (R.idxStr k Tryd.underlying9 rfl rfl rfl hx) rfl rfl ?_
        refine St.r (Runs.lit (c := false) (R.lss rfl rfl) (decide_eq_false h16)) rfl rfl ?_
        refine St.r (R.move rfl) rfl rfl ?_
        refine St.take (dg := 17) rfl rfl ?_ rfl
        refine St.r (R.move rfl) rfl rfl ?_
        refine St.take (dg := 17) rfl rfl ?_ rfl
        refine St.r (R.move rfl) rfl rfl ?_
        refine St.take (dg := 17) rfl rfl ?_ rfl
        refine St.r (R.idxStr k Tryd.underlying9 rfl rfl rfl hx) rfl rfl ?_
        refine St.take (dg := 17) rfl rfl ?_ rfl
        refine St.r (R.gtr rfl rfl) rfl rfl ?_
        refine St.r (R.pickF rfl rfl) rfl rfl ?_
        refine St.nil ?_
        refine St.weak [(0, _), (3, _), (22, _)] ⟨rfl, rfl, rfl, trivial⟩ ?_
        refine St.then_n ?_
        refine St.go hK9 ?_
        clear hK9
        refine St.condD rfl (fun h22 => ?_) (fun h22 => ?_)
        ·
          refine St.seq fun K11 hK11 => ?_
          refine St.region ?_
          refine St.r (R.assign rfl) rfl rfl ?_
          refine St.nil ?_
          refine St.weak [(2, _)] ⟨rfl, trivial⟩ ?_
          refine St.then_n ?_
          refine St.go hK11 ?_
          clear hK11
          refine St.ret ?_
          refine St.in_r ?_
          refine St.then_r ?_
          refine St.then_r ?_
          refine St.in_r ?_
          refine St.then_r ?_
          refine St.ret1 Tryd.results34 rfl ?_
          exact ⟨_, rfl, by rw [msgErr_bad h6 hx (by rw [badMsg, decide_eq_false h16, decide_eq_true h22]; rfl)]; rfl, E⟩
        ·
          refine St.skip ?_
          refine St.in_n ?_
          refine St.then_n ?_
          refine St.go hK8 ?_
          clear hK8
          refine St.region ?_
          refine St.r (R.move rfl) rfl rfl ?_
          refine St.r (R.add rfl rfl (by omega) (by omega)) rfl rfl ?_
          refine St.r (R.assign rfl) rfl rfl ?_
          refine St.nil ?_
          refine St.weak [(0, _), (3, _)] ⟨rfl, rfl, trivial⟩ ?_
          refine St.then_n ?_
          refine St.round (k + 1) ⟨rfl, rfl, trivial⟩ ?_ ?_
          · refine ⟨by omega, E, ?_⟩
            rw [take_snoc hx]
            intro y hy
            rcases List.mem_append.1 hy with hy | hy
            · exact hall y hy
            · rw [List.mem_singleton] at hy; subst hy; rw [badMsg, decide_eq_false h16, decide_eq_false h22]; rfl
          · omega
    ·
      refine St.exit ?_
      refine St.then_x ?_
      refine St.then_x ?_
      refine St.in_x ?_
      refine St.then_n ?_
      refine St.go hK4 ?_
      clear hK4
      refine St.seq fun K12 hK12 => ?_
      refine St.region ?_
      refine St.r (R.assign rfl) rfl rfl ?_
      refine St.nil ?_
      refine St.weak [(2, _)] ⟨rfl, trivial⟩ ?_
      refine St.then_n ?_
      refine St.go hK12 ?_
      clear hK12
      refine St.ret ?_
      refine St.ret1 Tryd.results34 rfl ?_
      exact ⟨_, rfl, by rw [msgErr_ok h6 (fun x hx => hall x (by rw [List.take_of_length_le (by omega)]; exact hx))]; rfl, E⟩

theorem rCommits_ret {ls : List Commit} {v : Value} (w0 : World) (hv : RCommits w0 v ls) : Ret Tryd.prog 6 [v] w0 fun r w' => r = .tuple #[.int .i64 (checkErr ls).1, .int .i64 ((checkErr ls).2.getD 0)] ∧ Ext w0 w' := by
  obtain ⟨A, c, rfl, hc1, hc2⟩ := hv.form
  have E : Ext w0 w0 := Ext.refl w0
  refine St.enter (N := 88) Tryd.func6 rfl Tryd.ntmps6 rfl ?_
  refine St.seq fun K0 hK0 => ?_
  refine St.region ?_
  refine St.r (R.assign rfl) rfl rfl ?_
  refine St.r (R.assign rfl) rfl rfl ?_
  refine St.nil ?_
  refine St.weak [(0, _)] ⟨rfl, trivial⟩ ?_
  refine St.then_n ?_
  refine St.go hK0 ?_
  clear hK0
  refine St.seq fun K1 hK1 => ?_
  refine St.seq fun K2 hK2 => ?_
  refine St.region ?_
  refine St.r (R.move rfl) rfl rfl ?_
  refine St.r (R.lenSl Tryd.underlying22 rfl) rfl rfl ?_
  refine St.r (R.gtr rfl rfl) rfl rfl ?_
  refine St.nil ?_
  refine St.weak [(0, _), (10, _)] ⟨rfl, rfl, trivial⟩ ?_
  refine St.then_n ?_
  refine St.go hK2 ?_
  clear hK2
  refine St.condD rfl (fun h10 => ?_) (fun h10 => ?_)
  ·
    refine St.seq fun K3 hK3 => ?_
    refine St.region ?_
    refine St.r (R.assign rfl) rfl rfl ?_
    refine St.r (R.assign rfl) rfl rfl ?_
    refine St.nil ?_
    refine St.weak [(2, _), (3, _)] ⟨rfl, rfl, trivial⟩ ?_
    refine St.then_n ?_
    refine St.go hK3 ?_
    clear hK3
    refine St.ret ?_
    refine St.then_r ?_
    refine St.ret2 Tryd.results6 rfl rfl ?_
    exact ⟨_, rfl, by rw [checkErr, if_pos h10]; rfl, E⟩
  ·
    have hce : checkErr ls = firstErr (ls.drop 0) 0 := by rw [checkErr, if_neg h10]; rfl
    refine St.skip ?_
    refine St.then_n ?_
    refine St.go hK1 ?_
    clear hK1
    refine St.seq fun K4 hK4 => ?_
    refine St.seq fun K5 hK5 => ?_
    refine St.region ?_
    refine St.r (R.assign rfl) rfl rfl ?_
    refine St.nil ?_
    refine St.weak [(0, _), (4, _)] ⟨rfl, rfl, trivial⟩ ?_
    refine St.then_n ?_
    refine St.go hK5 ?_
    clear hK5
    refine St.block ?_
    refine St.loop (fun (k : Nat) => [(0, .slice A ls.length c), (4, .int .i64 (k : Int))])
        (fun (k : Nat) w => k ≤ ls.length ∧ Ext w0 w ∧ checkErr ls = firstErr (ls.drop k) k)
        (fun (k : Nat) => ls.length - k) 0 ⟨rfl, rfl, trivial⟩ ?_ ?_
    · exact ⟨Nat.zero_le _, E, hce⟩
    rintro k w ⟨hk, E, hce⟩
    show St _ _ [(0, .slice A ls.length c), (4, .int .i64 (k : Int))] _ _
    refine St.seq fun K6 hK6 => ?_
    refine St.seq fun K7 hK7 => ?_
    refine St.region ?_
    refine St.r (R.move rfl) rfl rfl ?_
    refine St.r (R.move rfl) rfl rfl ?_
    refine St.r (R.lenSl Tryd.underlying22 rfl) rfl rfl ?_
    refine St.r (R.lss rfl rfl) rfl rfl ?_
    refine St.nil ?_
    refine St.weak [(0, _), (4, _), (14, _)] ⟨rfl, rfl, rfl, trivial⟩ ?_
    refine St.then_n ?_
    refine St.go hK7 ?_
    clear hK7
    refine St.condD rfl (fun h14 => ?_) (fun h14 => ?_)
    ·
      obtain ⟨x, hx⟩ := get_of_lt (xs := ls) (k := k) (by omega)
      obtain ⟨b, o, c', heq, -, -, hcell⟩ := hv.at (by omega)
      cases heq
      obtain ⟨cs, -, hx', pv, rfl, hpv⟩ := hcell k x hx
      obtain ⟨pA, pc, rfl, hp1, hp2⟩ := hpv.form
      refine St.skip ?_
      refine St.then_n ?_
      refine St.go hK6 ?_
      clear hK6
      refine St.seq fun K8 hK8 => ?_
      refine St.block ?_
      refine St.seq fun K9 hK9 => ?_
      refine St.region ?_
      refine St.r (R.move rfl) rfl rfl ?_
      refine St.r (R.move rfl) rfl rfl ?_
      refine St.r (R.indexS k Tryd.underlying22 Tryd.sizeOf80 rfl rfl rfl (by omega)) rfl rfl ?_
      refine St.r (R.fieldA Tryd.underlying80 rfl Tryd.sizeOf30 rfl rfl rfl) rfl rfl ?_
      refine St.r (R.load1 Tryd.isAgg30 rfl ((E.cells hx').at 0 rfl)) rfl rfl ?_
      refine St.r (R.assign rfl) rfl rfl ?_
      refine St.nil ?_
      refine St.weak [(0, _), (4, _), (5, _)] ⟨rfl, rfl, rfl, trivial⟩ ?_
      refine St.then_n ?_
      refine St.go hK9 ?_
      clear hK9
      refine St.seq fun K10 hK10 => ?_
      refine St.region ?_
      refine St.r (R.move rfl) rfl rfl ?_
      refine St.r (R.move rfl) rfl rfl ?_
      refine St.r (R.indexS k Tryd.underlying22 Tryd.sizeOf80 rfl rfl rfl (by omega)) rfl rfl ?_
      refine St.r (R.fieldA Tryd.underlying80 rfl Tryd.sizeOf9 rfl rfl rfl) rfl rfl ?_
      refine St.r (R.load1 Tryd.isAgg9 rfl ((E.cells hx').at 2 rfl)) rfl rfl ?_
      refine St.call rfl rfl ent34 (rMessage_ret _) rfl ?_
      rintro r27 w27 ⟨rfl, e27⟩
      replace E := Ext.trans E e27
      refine St.r (R.assign rfl) rfl rfl ?_
      refine St.nil ?_
      refine St.weak [(0, _), (4, _), (5, _), (6, _)] ⟨rfl, rfl, rfl, rfl, trivial⟩ ?_
      refine St.then_n ?_
      refine St.go hK10 ?_
      clear hK10
      refine St.seq fun K11 hK11 => ?_
      refine St.seq fun K12 hK12 => ?_
      by_cases h30 : 2 < (x.parents.length : Int)
      ·
        refine St.region ?_
        refine St.r (R.move rfl) rfl rfl ?_
        refine St.r (R.lenSl Tryd.underlying30 rfl) rfl rfl ?_
        refine St.r (Runs.lit (c := true) (R.gtr rfl rfl) (decide_eq_true h30)) rfl rfl ?_
        refine St.r (R.move rfl) rfl rfl ?_
        refine St.pass (dg := 31) rfl rfl rfl rfl rfl ?_
        refine St.pass (dg := 31) rfl rfl rfl rfl rfl ?_
        refine St.r (R.pickT rfl rfl) rfl rfl ?_
        refine St.nil ?_
        refine St.weak [(0, _), (4, _), (5, _), (6, _), (34, _)] ⟨rfl, rfl, rfl, rfl, rfl, trivial⟩ ?_
        refine St.then_n ?_
        refine St.go hK12 ?_
        clear hK12
        refine St.condT rfl ?_
        refine St.seq fun K13 hK13 => ?_
        refine St.region ?_
        refine St.r (R.move rfl) rfl rfl ?_
        refine St.r (R.assign rfl) rfl rfl ?_
        refine St.r (R.assign rfl) rfl rfl ?_
        refine St.nil ?_
        refine St.weak [(2, _), (3, _)] ⟨rfl, rfl, trivial⟩ ?_
        refine St.then_n ?_
        refine St.go hK13 ?_
        clear hK13
        refine St.ret ?_
        refine St.then_r ?_
        refine St.in_r ?_
        refine St.then_r ?_
        refine St.then_r ?_
        refine St.in_r ?_
        refine St.then_r ?_
        refine St.ret2 Tryd.results6 rfl rfl ?_
        exact ⟨_, rfl, by rw [hce, firstErr_at hx (by rw [ce4 (.inl h30)]; rfl), ce4 (.inl h30)]; rfl, E⟩
      ·
        refine St.region ?_
        refine St.r (R.move rfl) rfl rfl ?_
        refine St.r (R.lenSl Tryd.underlying30 rfl) rfl rfl ?_
        refine St.r (Runs.lit (c := false) (R.gtr rfl rfl) (decide_eq_false h30)) rfl rfl ?_
        refine St.r (R.move rfl) rfl rfl ?_
        refine St.take (dg := 31) rfl rfl ?_ rfl
        refine St.r (R.move rfl) rfl rfl ?_
        refine St.take (dg := 31) rfl rfl ?_ rfl
        refine St.r (R.eql rfl rfl) rfl rfl ?_
        refine St.r (R.pickF rfl rfl) rfl rfl ?_
        refine St.nil ?_
        refine St.weak [(0, _), (4, _), (5, _), (6, _), (34, _)] ⟨rfl, rfl, rfl, rfl, rfl, trivial⟩ ?_
        refine St.then_n ?_
        refine St.go hK12 ?_
        clear hK12
        refine St.condD rfl (fun h34 => ?_) (fun h34 => ?_)
        ·
          have h33 : msgErr x.msg = some 4 := by
            cases hm : msgErr x.msg with
            | none => rw [hm] at h34; simp at h34
            | some m => rw [hm] at h34; simp at h34; rw [h34]
          refine St.seq fun K14 hK14 => ?_
          refine St.region ?_
          refine St.r (R.move rfl) rfl rfl ?_
          refine St.r (R.assign rfl) rfl rfl ?_
          refine St.r (R.assign rfl) rfl rfl ?_
          refine St.nil ?_
          refine St.weak [(2, _), (3, _)] ⟨rfl, rfl, trivial⟩ ?_
          refine St.then_n ?_
          refine St.go hK14 ?_
          clear hK14
          refine St.ret ?_
          refine St.then_r ?_
          refine St.in_r ?_
          refine St.then_r ?_
          refine St.then_r ?_
          refine St.in_r ?_
          refine St.then_r ?_
          refine St.ret2 Tryd.results6 rfl rfl ?_
          exact ⟨_, rfl, by rw [hce, firstErr_at hx (by rw [ce4 (.inr h33)]; rfl), ce4 (.inr h33)]; rfl, E⟩
        ·
          have h33 : ¬ msgErr x.msg = some 4 := fun e => h34 (by rw [e]; rfl)
          refine St.skip ?_
          refine St.then_n ?_
          refine St.go hK11 ?_
          clear hK11
          refine St.seq fun K15 hK15 => ?_
          refine St.seq fun K16 hK16 => ?_
          refine St.region ?_
          refine St.r (R.assign rfl) rfl rfl ?_
          refine St.nil ?_
          refine St.weak [(0, _), (4, _), (5, _), (6, _), (7, _)] ⟨rfl, rfl, rfl, rfl, rfl, trivial⟩ ?_
          refine St.then_n ?_
          refine St.go hK16 ?_
          clear hK16
          refine St.block ?_
          refine St.loop (fun (j : Nat) => [(0, .slice (some ⟨b, o, none⟩) ls.length c), (4, .int .i64 (k : Int)), (5, .slice pA x.parents.length pc), (6, .int .i64 ((msgErr x.msg).getD 0)), (7, .int .i64 (j : Int))])
              (fun (j : Nat) w => j ≤ x.parents.length ∧ Ext w0 w ∧ ∀ p ∈ x.parents.take j, badParent (k : Int) p = false)
              (fun (j : Nat) => x.parents.length - j) 0 ⟨rfl, rfl, rfl, rfl, rfl, trivial⟩ ?_ ?_
          · exact ⟨Nat.zero_le _, E, by simp⟩
          rintro j w ⟨hj, E, hall⟩
          show St _ _ [(0, .slice (some ⟨b, o, none⟩) ls.length c), (4, .int .i64 (k : Int)), (5, .slice pA x.parents.length pc), (6, .int .i64 ((msgErr x.msg).getD 0)), (7, .int .i64 (j : Int))] _ _
          refine St.seq fun K17 hK17 => ?_
          refine St.seq fun K18 hK18 => ?_
          refine St.region ?_
          refine St.r (R.move rfl) rfl rfl ?_
          refine St.r (R.move rfl) rfl rfl ?_
          refine St.r (R.lenSl Tryd.underlying30 rfl) rfl rfl ?_
          refine St.r (R.lss rfl rfl) rfl rfl ?_
          refine St.nil ?_
          refine St.weak [(0, _), (4, _), (5, _), (6, _), (7, _), (39, _)] ⟨rfl, rfl, rfl, rfl, rfl, rfl, trivial⟩ ?_
          refine St.then_n ?_
          refine St.go hK18 ?_
          clear hK18
          refine St.condD rfl (fun h39 => ?_) (fun h39 => ?_)
          ·
            obtain ⟨p, hp⟩ := get_of_lt (xs := x.parents) (k := j) (by omega)
            obtain ⟨pb, po, rfl, hpc⟩ := hpv.get' hp
            refine St.skip ?_
            refine St.then_n ?_
            refine St.go hK17 ?_
            clear hK17
            refine St.seq fun K19 hK19 => ?_
            refine St.block ?_
            refine St.seq fun K20 hK20 => ?_
            by_cases h46 : p < 0
            ·
              have hpa : x.parents.any (badParent (k : Int)) = true := List.any_eq_true.2 ⟨p, List.mem_of_getElem? hp, by rw [badParent, decide_eq_true h46]; rfl⟩
              refine St.region ?_
              refine St.r (R.move rfl) rfl rfl ?_
              refine St.r (R.move rfl) rfl rfl ?_
              refine St.r (R.indexS j Tryd.underlying30 Tryd.sizeOf3 rfl rfl rfl (by omega)) rfl rfl ?_
              refine St.r (R.load1 Tryd.isAgg3 rfl ((E.cells hpc).at 0 rfl)) rfl rfl ?_
              refine St.r (Runs.lit (c := true) (R.lss rfl rfl) (decide_eq_true h46)) rfl rfl ?_
              refine St.r (R.move rfl) rfl rfl ?_
              refine St.pass (dg := 47) rfl rfl rfl rfl rfl ?_
              refine St.pass (dg := 47) rfl rfl rfl rfl rfl ?_
              refine St.pass (dg := 47) rfl rfl rfl rfl rfl ?_
              refine St.pass (dg := 47) rfl rfl rfl rfl rfl ?_
              refine St.pass (dg := 47) rfl rfl rfl rfl rfl ?_
              refine St.pass (dg := 47) rfl rfl rfl rfl rfl ?_
              refine St.r (R.pickT rfl rfl) rfl rfl ?_
              refine St.nil ?_
              refine St.weak [(0, _), (4, _), (5, _), (6, _), (7, _), (54, _)] ⟨rfl, rfl, rfl, rfl, rfl, rfl, trivial⟩ ?_
              refine St.then_n ?_
              refine St.go hK20 ?_
              clear hK20
              refine St.condT rfl ?_
              refine St.seq fun K21 hK21 => ?_
              refine St.region ?_
              refine St.r (R.move rfl) rfl rfl ?_
              refine St.r (R.assign rfl) rfl rfl ?_
              refine St.r (R.assign rfl) rfl rfl ?_
              refine St.nil ?_
              refine St.weak [(2, _), (3, _)] ⟨rfl, rfl, trivial⟩ ?_
              refine St.then_n ?_
              refine St.go hK21 ?_
              clear hK21
              refine St.ret ?_
              refine St.in_r ?_
              refine St.then_r ?_
              refine St.then_r ?_
              refine St.in_r ?_
              refine St.then_r ?_
              refine St.in_r ?_
              refine St.then_r ?_
              refine St.then_r ?_
              refine St.in_r ?_
              refine St.then_r ?_
              refine St.ret2 Tryd.results6 rfl rfl ?_
              exact ⟨_, rfl, by rw [hce, firstErr_at hx (by rw [ce1 h30 h33 hpa]; rfl), ce1 h30 h33 hpa]; rfl, E⟩
            ·
              refine St.region ?_
              refine St.r (R.move rfl) rfl rfl ?_
              refine St.r (R.move rfl) rfl rfl ?_
              refine St.r (R.indexS j Tryd.underlying30 Tryd.sizeOf3 rfl rfl rfl (by omega)) rfl rfl ?_
              refine St.r (R.load1 Tryd.isAgg3 rfl ((E.cells hpc).at 0 rfl)) rfl rfl ?_
              refine St.r (Runs.lit (c := false) (R.lss rfl rfl) (decide_eq_false h46)) rfl rfl ?_
              refine St.r (R.move rfl) rfl rfl ?_
              refine St.take (dg := 47) rfl rfl ?_ rfl
              refine St.r (R.move rfl) rfl rfl ?_
              refine St.take (dg := 47) rfl rfl ?_ rfl
              refine St.r (R.move rfl) rfl rfl ?_
              refine St.take (dg := 47) rfl rfl ?_ rfl
              refine St.r (R.indexS j Tryd.underlying30 Tryd.sizeOf3 rfl rfl rfl (by omega)) rfl rfl ?_
              refine St.take (dg := 47) rfl rfl ?_ rfl
              refine St.r (R.load1 Tryd.isAgg3 rfl ((E.cells hpc).at 0 rfl)) rfl rfl ?_
              refine St.take (dg := 47) rfl rfl ?_ rfl
              refine St.r (R.move rfl) rfl rfl ?_
              refine St.take (dg := 47) rfl rfl ?_ rfl
              refine St.r (R.geq rfl rfl) rfl rfl ?_
              refine St.r (R.pickF rfl rfl) rfl rfl ?_
              refine St.nil ?_
              refine St.weak [(0, _), (4, _), (5, _), (6, _), (7, _), (54, _)] ⟨rfl, rfl, rfl, rfl, rfl, rfl, trivial⟩ ?_
              refine St.then_n ?_
              refine St.go hK20 ?_
              clear hK20
              refine St.condD rfl (fun h53 => ?_) (fun h53 => ?_)
              ·
                have hpa : x.parents.any (badParent (k : Int)) = true := List.any_eq_true.2 ⟨p, List.mem_of_getElem? hp, by rw [badParent, decide_eq_false h46, decide_eq_true h53]; rfl⟩
                refine St.seq fun K22 hK22 => ?_
                refine St.region ?_
                refine St.r (R.move rfl) rfl rfl ?_
                refine St.r (R.assign rfl) rfl rfl ?_
                refine St.r (R.assign rfl) rfl rfl ?_
                refine St.nil ?_
                refine St.weak [(2, _), (3, _)] ⟨rfl, rfl, trivial⟩ ?_
                refine St.then_n ?_
                refine St.go hK22 ?_
                clear hK22
                refine St.ret ?_
                refine St.in_r ?_
                refine St.then_r ?_
                refine St.then_r ?_
                refine St.in_r ?_
                refine St.then_r ?_
                refine St.in_r ?_
                refine St.then_r ?_
                refine St.then_r ?_
                refine St.in_r ?_
                refine St.then_r ?_
                refine St.ret2 Tryd.results6 rfl rfl ?_
                exact ⟨_, rfl, by rw [hce, firstErr_at hx (by rw [ce1 h30 h33 hpa]; rfl), ce1 h30 h33 hpa]; rfl, E⟩
              ·
                refine St.skip ?_
                refine St.in_n ?_
                refine St.then_n ?_
                refine St.go hK19 ?_
                clear hK19
                refine St.region ?_
                refine St.r (R.move rfl) rfl rfl ?_
                refine St.r (R.add rfl rfl (by omega) (by omega)) rfl rfl ?_
                refine St.r (R.assign rfl) rfl rfl ?_
                refine St.nil ?_
                refine St.weak [(0, _), (4, _), (5, _), (6, _), (7, _)] ⟨rfl, rfl, rfl, rfl, rfl, trivial⟩ ?_
                refine St.then_n ?_
                refine St.round (j + 1) ⟨rfl, rfl, rfl, rfl, rfl, trivial⟩ ?_ ?_
                · refine ⟨by omega, E, ?_⟩
                  rw [take_snoc hp]
                  intro y hy
                  rcases List.mem_append.1 hy with hy | hy
                  · exact hall y hy
                  · rw [List.mem_singleton] at hy; subst hy; rw [badParent, decide_eq_false h46, decide_eq_false h53]; rfl
                · omega
          ·
            have hpa : x.parents.any (badParent (k : Int)) = false := by
              rw [List.any_eq_false]
              intro y hy
              have := hall y (by rw [List.take_of_length_le (by omega)]; exact hy)
              rw [this]; simp
            refine St.exit ?_
            refine St.then_x ?_
            refine St.then_x ?_
            refine St.in_x ?_
            refine St.then_n ?_
            refine St.go hK15 ?_
            clear hK15
            refine St.seq fun K23 hK23 => ?_
            refine St.seq fun K24 hK24 => ?_
            by_cases h58 : (x.parents.length : Int) = 2
            ·
              obtain ⟨p0, hp0⟩ := get_of_lt (xs := x.parents) (k := 0) (by omega)
              obtain ⟨p1, hp1'⟩ := get_of_lt (xs := x.parents) (k := 1) (by omega)
              have g0 : x.parents.getD 0 0 = p0 := by simp [List.getD_eq_getElem?_getD, hp0]
              have g1 : x.parents.getD 1 0 = p1 := by simp [List.getD_eq_getElem?_getD, hp1']
              obtain ⟨pb, po, rfl, hc0⟩ := hpv.get' hp0
              have hc1 := hpv.get hp1'
              refine St.weak [(0, _), (4, _), (5, _), (6, _)] ⟨rfl, rfl, rfl, rfl, trivial⟩ ?_
              refine St.draw mixed rfl rfl rfl rfl ?_
              replace E := Ext.trans E (Ext.drew _)
              refine ⟨_, OpOk.r (R.move rfl) rfl, ?_⟩
              refine ⟨_, OpOk.r (R.lenSl Tryd.underlying30 rfl) rfl, ?_⟩
              refine ⟨_, OpOk.r (Runs.lit (c := true) (R.eql rfl rfl) (decide_eq_true h58)) rfl, ?_⟩
              refine ⟨_, OpOk.r (R.move rfl) rfl, ?_⟩
              refine ⟨_, OpOk.take (dg := 59) (R.move rfl) rfl rfl rfl rfl, ?_⟩
              refine ⟨_, OpOk.take (dg := 59) (R.indexS 0 Tryd.underlying30 Tryd.sizeOf3 rfl rfl rfl (by omega)) rfl rfl rfl rfl, ?_⟩
              refine ⟨_, OpOk.take (dg := 59) (R.load1 Tryd.isAgg3 rfl ((E.cells hc0).at 0 rfl)) rfl rfl rfl rfl, ?_⟩
              refine ⟨_, OpOk.take (dg := 59) (R.move rfl) rfl rfl rfl rfl, ?_⟩
              refine ⟨_, OpOk.take (dg := 59) (R.indexS 1 Tryd.underlying30 Tryd.sizeOf3 rfl rfl rfl (by omega)) rfl rfl rfl rfl, ?_⟩
              refine ⟨_, OpOk.take (dg := 59) (R.load1 Tryd.isAgg3 rfl ((E.cells hc1).at 0 rfl)) rfl rfl rfl rfl, ?_⟩
              refine ⟨_, OpOk.take (dg := 59) (R.eql rfl rfl) rfl rfl rfl rfl, ?_⟩
              refine ⟨_, OpOk.r (R.pickT rfl rfl) rfl, ?_⟩
              show St _ _ _ _ _
              refine St.weak [(0, _), (4, _), (6, _), (67, _)] ⟨rfl, rfl, rfl, rfl, trivial⟩ ?_
              refine St.then_n ?_
              refine St.go hK24 ?_
              clear hK24
              refine St.condD rfl (fun h66 => ?_) (fun h66 => ?_)
              ·
                refine St.seq fun K25 hK25 => ?_
                refine St.region ?_
                refine St.r (R.move rfl) rfl rfl ?_
                refine St.r (R.assign rfl) rfl rfl ?_
                refine St.r (R.assign rfl) rfl rfl ?_
                refine St.nil ?_
                refine St.weak [(2, _), (3, _)] ⟨rfl, rfl, trivial⟩ ?_
                refine St.then_n ?_
                refine St.go hK25 ?_
                clear hK25
                refine St.ret ?_
                refine St.then_r ?_
                refine St.in_r ?_
                refine St.then_r ?_
                refine St.then_r ?_
                refine St.in_r ?_
                refine St.then_r ?_
                refine St.ret2 Tryd.results6 rfl rfl ?_
                exact ⟨_, rfl, by rw [hce, firstErr_at hx (by rw [ce7 h30 h33 hpa ⟨h58, by rw [g0, g1]; exact h66⟩]; rfl), ce7 h30 h33 hpa ⟨h58, by rw [g0, g1]; exact h66⟩]; rfl, E⟩
              ·
                have hB : ¬ ((x.parents.length : Int) = 2 ∧ x.parents.getD 0 0 = x.parents.getD 1 0) := fun h => h66 (by rw [← g0, ← g1]; exact h.2)
                refine St.skip ?_
                refine St.then_n ?_
                refine St.go hK23 ?_
                clear hK23
                refine St.seq fun K26 hK26 => ?_
                refine St.seq fun K27 hK27 => ?_
                refine St.region ?_
                refine St.r (R.move rfl) rfl rfl ?_
                refine St.r (R.neq rfl rfl) rfl rfl ?_
                refine St.nil ?_
                refine St.weak [(0, _), (4, _), (6, _), (70, _)] ⟨rfl, rfl, rfl, rfl, trivial⟩ ?_
                refine St.then_n ?_
                refine St.go hK27 ?_
                clear hK27
                refine St.condD rfl (fun h70 => ?_) (fun h70 => ?_)
                ·
                  have hM : (msgErr x.msg).isSome = true := by
                    cases hm : msgErr x.msg with
                    | none => rw [hm] at h70; exact absurd rfl h70
                    | some m => rfl
                  refine St.seq fun K28 hK28 => ?_
                  refine St.region ?_
                  refine St.r (R.move rfl) rfl rfl ?_
                  refine St.r (R.move rfl) rfl rfl ?_
                  refine St.r (R.assign rfl) rfl rfl ?_
                  refine St.r (R.assign rfl) rfl rfl ?_
                  refine St.nil ?_
                  refine St.weak [(2, _), (3, _)] ⟨rfl, rfl, trivial⟩ ?_
                  refine St.then_n ?_
                  refine St.go hK28 ?_
                  clear hK28
                  refine St.ret ?_
                  refine St.then_r ?_
                  refine St.in_r ?_
                  refine St.then_r ?_
                  refine St.then_r ?_
                  refine St.in_r ?_
                  refine St.then_r ?_
                  refine St.ret2 Tryd.results6 rfl rfl ?_
                  exact ⟨_, rfl, by rw [hce, firstErr_at hx (by rw [ceM h30 h33 hpa hB hM]; exact hM), ceM h30 h33 hpa hB hM], E⟩
                ·
                  have hM : (msgErr x.msg).isSome = false := msgErr_zero (by omega)
                  refine St.skip ?_
                  refine St.then_n ?_
                  refine St.go hK26 ?_
                  clear hK26
                  refine St.seq fun K29 hK29 => ?_
                  by_cases h78 : x.layer < 1
                  ·
                    refine St.region ?_
                    refine St.r (R.move rfl) rfl rfl ?_
                    refine St.r (R.move rfl) rfl rfl ?_
                    refine St.r (R.indexS k Tryd.underlying22 Tryd.sizeOf80 rfl rfl rfl (by omega)) rfl rfl ?_
                    refine St.r (R.fieldA Tryd.underlying80 rfl Tryd.sizeOf3 rfl rfl rfl) rfl rfl ?_
                    refine St.r (R.load1 Tryd.isAgg3 rfl ((E.cells hx').at 1 rfl)) rfl rfl ?_
                    refine St.r (Runs.lit (c := true) (R.lss rfl rfl) (decide_eq_true h78)) rfl rfl ?_
                    refine St.r (R.move rfl) rfl rfl ?_
                    refine St.pass (dg := 79) rfl rfl rfl rfl rfl ?_
                    refine St.pass (dg := 79) rfl rfl rfl rfl rfl ?_
                    refine St.pass (dg := 79) rfl rfl rfl rfl rfl ?_
                    refine St.pass (dg := 79) rfl rfl rfl rfl rfl ?_
                    refine St.pass (dg := 79) rfl rfl rfl rfl rfl ?_
                    refine St.pass (dg := 79) rfl rfl rfl rfl rfl ?_
                    refine St.r (R.pickT rfl rfl) rfl rfl ?_
                    refine St.nil ?_
                    refine St.weak [(0, _), (4, _), (86, _)] ⟨rfl, rfl, rfl, trivial⟩ ?_
                    refine St.then_n ?_
                    refine St.go hK29 ?_
                    clear hK29
                    refine St.condT rfl ?_
                    refine St.seq fun K30 hK30 => ?_
                    refine St.region ?_
                    refine St.r (R.move rfl) rfl rfl ?_
                    refine St.r (R.assign rfl) rfl rfl ?_
                    refine St.r (R.assign rfl) rfl rfl ?_
                    refine St.nil ?_
                    refine St.weak [(2, _), (3, _)] ⟨rfl, rfl, trivial⟩ ?_
                    refine St.then_n ?_
                    refine St.go hK30 ?_
                    clear hK30
                    refine St.ret ?_
                    refine St.in_r ?_
                    refine St.then_r ?_
                    refine St.then_r ?_
                    refine St.in_r ?_
                    refine St.then_r ?_
                    refine St.ret2 Tryd.results6 rfl rfl ?_
                    exact ⟨_, rfl, by rw [hce, firstErr_at hx (by rw [ceL h30 h33 hpa hB hM (.inl h78)]; rfl), ceL h30 h33 hpa hB hM (.inl h78)]; rfl, E⟩
                  ·
                    refine St.region ?_
                    refine St.r (R.move rfl) rfl rfl ?_
                    refine St.r (R.move rfl) rfl rfl ?_
                    refine St.r (R.indexS k Tryd.underlying22 Tryd.sizeOf80 rfl rfl rfl (by omega)) rfl rfl ?_
                    refine St.r (R.fieldA Tryd.underlying80 rfl Tryd.sizeOf3 rfl rfl rfl) rfl rfl ?_
                    refine St.r (R.load1 Tryd.isAgg3 rfl ((E.cells hx').at 1 rfl)) rfl rfl ?_
                    refine St.r (Runs.lit (c := false) (R.lss rfl rfl) (decide_eq_false h78)) rfl rfl ?_
                    refine St.r (R.move rfl) rfl rfl ?_
                    refine St.take (dg := 79) rfl rfl ?_ rfl
                    refine St.r (R.move rfl) rfl rfl ?_
                    refine St.take (dg := 79) rfl rfl ?_ rfl
                    refine St.r (R.move rfl) rfl rfl ?_
                    refine St.take (dg := 79) rfl rfl ?_ rfl
                    refine St.r (R.indexS k Tryd.underlying22 Tryd.sizeOf80 rfl rfl rfl (by omega)) rfl rfl ?_
                    refine St.take (dg := 79) rfl rfl ?_ rfl
                    refine St.r (R.fieldA Tryd.underlying80 rfl Tryd.sizeOf3 rfl rfl rfl) rfl rfl ?_
                    refine St.take (dg := 79) rfl rfl ?_ rfl
                    refine St.r (R.load1 Tryd.isAgg3 rfl ((E.cells hx').at 1 rfl)) rfl rfl ?_
                    refine St.take (dg := 79) rfl rfl ?_ rfl
                    refine St.r (R.gtr rfl rfl) rfl rfl ?_
                    refine St.r (R.pickF rfl rfl) rfl rfl ?_
                    refine St.nil ?_
                    refine St.weak [(0, _), (4, _), (86, _)] ⟨rfl, rfl, rfl, trivial⟩ ?_
                    refine St.then_n ?_
                    refine St.go hK29 ?_
                    clear hK29
                    refine St.condD rfl (fun h85 => ?_) (fun h85 => ?_)
                    ·
                      refine St.seq fun K31 hK31 => ?_
                      refine St.region ?_
                      refine St.r (R.move rfl) rfl rfl ?_
                      refine St.r (R.assign rfl) rfl rfl ?_
                      refine St.r (R.assign rfl) rfl rfl ?_
                      refine St.nil ?_
                      refine St.weak [(2, _), (3, _)] ⟨rfl, rfl, trivial⟩ ?_
                      refine St.then_n ?_
                      refine St.go hK31 ?_
                      clear hK31
                      refine St.ret ?_
                      refine St.in_r ?_
                      refine St.then_r ?_
                      refine St.then_r ?_
                      refine St.in_r ?_
                      refine St.then_r ?_
                      refine St.ret2 Tryd.results6 rfl rfl ?_
                      exact ⟨_, rfl, by rw [hce, firstErr_at hx (by rw [ceL h30 h33 hpa hB hM (.inr h85)]; rfl), ceL h30 h33 hpa hB hM (.inr h85)]; rfl, E⟩
                    ·
                      refine St.skip ?_
                      refine St.in_n ?_
                      refine St.then_n ?_
                      refine St.go hK8 ?_
                      clear hK8
                      refine St.region ?_
                      refine St.r (R.move rfl) rfl rfl ?_
                      refine St.r (R.add rfl rfl (by omega) (by omega)) rfl rfl ?_
                      refine St.r (R.assign rfl) rfl rfl ?_
                      refine St.nil ?_
                      refine St.weak [(0, _), (4, _)] ⟨rfl, rfl, trivial⟩ ?_
                      refine St.then_n ?_
                      refine St.round (k + 1) ⟨rfl, rfl, trivial⟩ ?_ ?_
                      · exact ⟨by omega, E, by rw [hce, firstErr_drop hx (by rw [ceN h30 h33 hpa hB hM h78 h85]; rfl)]⟩
                      · omega
            ·
              have hB : ¬ ((x.parents.length : Int) = 2 ∧ x.parents.getD 0 0 = x.parents.getD 1 0) := fun h => h58 h.1
              refine St.weak [(0, _), (4, _), (5, _), (6, _)] ⟨rfl, rfl, rfl, rfl, trivial⟩ ?_
              refine St.draw mixed rfl rfl rfl rfl ?_
              replace E := Ext.trans E (Ext.drew _)
              refine ⟨_, OpOk.r (R.move rfl) rfl, ?_⟩
              refine ⟨_, OpOk.r (R.lenSl Tryd.underlying30 rfl) rfl, ?_⟩
              refine ⟨_, OpOk.r (Runs.lit (c := false) (R.eql rfl rfl) (decide_eq_false h58)) rfl, ?_⟩
              refine ⟨_, OpOk.r (R.move rfl) rfl, ?_⟩
              refine ⟨_, OpOk.pass (dg := 59) rfl rfl rfl rfl rfl, ?_⟩
              refine ⟨_, OpOk.pass (dg := 59) rfl rfl rfl rfl rfl, ?_⟩
              refine ⟨_, OpOk.pass (dg := 59) rfl rfl rfl rfl rfl, ?_⟩
              refine ⟨_, OpOk.pass (dg := 59) rfl rfl rfl rfl rfl, ?_⟩
              refine ⟨_, OpOk.pass (dg := 59) rfl rfl rfl rfl rfl, ?_⟩
              refine ⟨_, OpOk.pass (dg := 59) rfl rfl rfl rfl rfl, ?_⟩
              refine ⟨_, OpOk.pass (dg := 59) rfl rfl rfl rfl rfl, ?_⟩
              refine ⟨_, OpOk.r (R.pickF rfl rfl) rfl, ?_⟩
              show St _ _ _ _ _
              refine St.weak [(0, _), (4, _), (6, _), (67, _)] ⟨rfl, rfl, rfl, rfl, trivial⟩ ?_
              refine St.then_n ?_
              refine St.go hK24 ?_
              clear hK24
              refine St.condF rfl ?_
              refine St.skip ?_
              refine St.then_n ?_
              refine St.go hK23 ?_
              clear hK23
              refine St.seq fun K32 hK32 => ?_
              refine St.seq fun K33 hK33 => ?_
              refine St.region ?_
              refine St.r (R.move rfl) rfl rfl ?_
              refine St.r (R.neq rfl rfl) rfl rfl ?_
              refine St.nil ?_
              refine St.weak [(0, _), (4, _), (6, _), (70, _)] ⟨rfl, rfl, rfl, rfl, trivial⟩ ?_
              refine St.then_n ?_
              refine St.go hK33 ?_
              clear hK33
              refine St.condD rfl (fun h70 => ?_) (fun h70 => ?_)
              ·
                have hM : (msgErr x.msg).isSome = true := by
                  cases hm : msgErr x.msg with
                  | none => rw [hm] at h70; exact absurd rfl h70
                  | some m => rfl
                refine St.seq fun K34 hK34 => ?_
                refine St.region ?_
                refine St.r (R.move rfl) rfl rfl ?_
                refine St.r (R.move rfl) rfl rfl ?_
                refine St.r (R.assign rfl) rfl rfl ?_
                refine St.r (R.assign rfl) rfl rfl ?_
                refine St.nil ?_
                refine St.weak [(2, _), (3, _)] ⟨rfl, rfl, trivial⟩ ?_
                refine St.then_n ?_
                refine St.go hK34 ?_
                clear hK34
                refine St.ret ?_
                refine St.then_r ?_
                refine St.in_r ?_
                refine St.then_r ?_
                refine St.then_r ?_
                refine St.in_r ?_
                refine St.then_r ?_
                refine St.ret2 Tryd.results6 rfl rfl ?_
                exact ⟨_, rfl, by rw [hce, firstErr_at hx (by rw [ceM h30 h33 hpa hB hM]; exact hM), ceM h30 h33 hpa hB hM], E⟩
              ·
                have hM : (msgErr x.msg).isSome = false := msgErr_zero (by omega)
                refine St.skip ?_
                refine St.then_n ?_
                refine St.go hK32 ?_
                clear hK32
                refine St.seq fun K35 hK35 => ?_
                by_cases h78 : x.layer < 1
                ·
                  refine St.region ?_
                  refine St.r (R.move rfl) rfl rfl ?_
                  refine St.r (R.move rfl) rfl rfl ?_
                  refine St.r (R.indexS k Tryd.underlying22 Tryd.sizeOf80 rfl rfl rfl (by omega)) rfl rfl ?_
                  refine St.r (R.fieldA Tryd.underlying80 rfl Tryd.sizeOf3 rfl rfl rfl) rfl rfl ?_
                  refine St.r (R.load1 Tryd.isAgg3 rfl ((E.cells hx').at 1 rfl)) rfl rfl ?_
                  refine St.r (Runs.lit (c := true) (R.lss rfl rfl) (decide_eq_true h78)) rfl rfl ?_
                  refine St.r (R.move rfl) rfl rfl ?_
                  refine St.pass (dg := 79) rfl rfl rfl rfl rfl ?_
                  refine St.pass (dg := 79) rfl rfl rfl rfl rfl ?_
                  refine St.pass (dg := 79) rfl rfl rfl rfl rfl ?_
                  refine St.pass (dg := 79) rfl rfl rfl rfl rfl ?_
                  refine St.pass (dg := 79) rfl rfl rfl rfl rfl ?_
                  refine St.pass (dg := 79) rfl rfl rfl rfl rfl ?_
                  refine St.r (R.pickT rfl rfl) rfl rfl ?_
                  refine St.nil ?_
                  refine St.weak [(0, _), (4, _), (86, _)] ⟨rfl, rfl, rfl, trivial⟩ ?_
                  refine St.then_n ?_
                  refine St.go hK35 ?_
                  clear hK35
                  refine St.condT rfl ?_
                  refine St.seq fun K36 hK36 => ?_
                  refine St.region ?_
                  refine St.r (R.move rfl) rfl rfl ?_
                  refine St.r (R.assign rfl) rfl rfl ?_
                  refine St.r (R.assign rfl) rfl rfl ?_
                  refine St.nil ?_
                  refine St.weak [(2, _), (3, _)] ⟨rfl, rfl, trivial⟩ ?_
                  refine St.then_n ?_
                  refine St.go hK36 ?_
                  clear hK36
                  refine St.ret ?_
                  refine St.in_r ?_
                  refine St.then_r ?_
                  refine St.then_r ?_
                  refine St.in_r ?_
                  refine St.then_r ?_
                  refine St.ret2 Tryd.results6 rfl rfl ?_
                  exact ⟨_, rfl, by rw [hce, firstErr_at hx (by rw [ceL h30 h33 hpa hB hM (.inl h78)]; rfl), ceL h30 h33 hpa hB hM (.inl h78)]; rfl, E⟩
                ·
                  refine St.region ?_
                  refine St.r (R.move rfl) rfl rfl ?_
                  refine St.r (R.move rfl) rfl rfl ?_
                  refine St.r (R.indexS k Tryd.underlying22 Tryd.sizeOf80 rfl rfl rfl (by omega)) rfl rfl ?_
                  refine St.r (R.fieldA Tryd.underlying80 rfl Tryd.sizeOf3 rfl rfl rfl) rfl rfl ?_
                  refine St.r (R.load1 Tryd.isAgg3 rfl ((E.cells hx').at 1 rfl)) rfl rfl ?_
                  refine St.r (Runs.lit (c := false) (R.lss rfl rfl) (decide_eq_false h78)) rfl rfl ?_
                  refine St.r (R.move rfl) rfl rfl ?_
                  refine St.take (dg := 79) rfl rfl ?_ rfl
                  refine St.r (R.move rfl) rfl rfl ?_
                  refine St.take (dg := 79) rfl rfl ?_ rfl
                  refine St.r (R.move rfl) rfl rfl ?_
                  refine St.take (dg := 79) rfl rfl ?_ rfl
                  refine St.r (R.indexS k Tryd.underlying22 Tryd.sizeOf80 rfl rfl rfl (by omega)) rfl rfl ?_
                  refine St.take (dg := 79) rfl rfl ?_ rfl
                  refine St.r (R.fieldA Tryd.underlying80 rfl Tryd.sizeOf3 rfl rfl rfl) rfl rfl ?_
                  refine St.take (dg := 79) rfl rfl ?_ rfl
                  refine St.r (R.load1 Tryd.isAgg3 rfl ((E.cells hx').at 1 rfl)) rfl rfl ?_
                  refine St.take (dg := 79) rfl rfl ?_ rfl
                  refine St.r (R.gtr rfl rfl) rfl rfl ?_
                  refine St.r (R.pickF rfl rfl) rfl rfl ?_
                  refine St.nil ?_
                  refine St.weak [(0, _), (4, _), (86, _)] ⟨rfl, rfl, rfl, trivial⟩ ?_
                  refine St.then_n ?_
                  refine St.go hK35 ?_
                  clear hK35
                  refine St.condD rfl (fun h85 => ?_) (fun h85 => ?_)
                  ·
                    refine St.seq fun K37 hK37 => ?_
                    refine St.region ?_
                    refine St.r (R.move rfl) rfl rfl ?_
                    refine St.r (R.assign rfl) rfl rfl ?_
                    refine St.r (R.assign rfl) rfl rfl ?_
                    refine St.nil ?_
                    refine St.weak [(2, _), (3, _)] ⟨rfl, rfl, trivial⟩ ?_
                    refine St.then_n ?_
                    refine St.go hK37 ?_
                    clear hK37
                    refine St.ret ?_
                    refine St.in_r ?_
                    refine St.then_r ?_
                    refine St.then_r ?_
                    refine St.in_r ?_
                    refine St.then_r ?_
                    refine St.ret2 Tryd.results6 rfl rfl ?_
                    exact ⟨_, rfl, by rw [hce, firstErr_at hx (by rw [ceL h30 h33 hpa hB hM (.inr h85)]; rfl), ceL h30 h33 hpa hB hM (.inr h85)]; rfl, E⟩
                  ·
                    refine St.skip ?_
                    refine St.in_n ?_
                    refine St.then_n ?_
                    refine St.go hK8 ?_
                    clear hK8
                    refine St.region ?_
                    refine St.r (R.move rfl) rfl rfl ?_
                    refine St.r (R.add rfl rfl (by omega) (by omega)) rfl rfl ?_
                    refine St.r (R.assign rfl) rfl rfl ?_
                    refine St.nil ?_
                    refine St.weak [(0, _), (4, _)] ⟨rfl, rfl, trivial⟩ ?_
                    refine St.then_n ?_
                    refine St.round (k + 1) ⟨rfl, rfl, trivial⟩ ?_ ?_
                    · exact ⟨by omega, E, by rw [hce, firstErr_drop hx (by rw [ceN h30 h33 hpa hB hM h78 h85]; rfl)]⟩
                    · omega
    ·
      refine St.exit ?_
      refine St.then_x ?_
      refine St.then_x ?_
      refine St.in_x ?_
      refine St.then_n ?_
      refine St.go hK4 ?_
      clear hK4
      refine St.seq fun K38 hK38 => ?_
      refine St.region ?_
      refine St.r (R.assign rfl) rfl rfl ?_
      refine St.r (R.assign rfl) rfl rfl ?_
      refine St.nil ?_
      refine St.weak [(2, _), (3, _)] ⟨rfl, rfl, trivial⟩ ?_
      refine St.then_n ?_
      refine St.go hK38 ?_
      clear hK38
      refine St.ret ?_
      refine St.ret2 Tryd.results6 rfl rfl ?_
      exact ⟨_, rfl, by rw [hce, List.drop_of_length_le (by omega)]; rfl, E⟩

theorem Reverse_ret {xs : List Int} {v : Value} {base : Nat} (w0 : World) (ho : Own encInt 1 base 3 w0 v xs) : Ret Tryd.prog 40 [v] w0 fun r w' => r = .tuple #[] ∧ Own encInt 1 base 3 w' v xs.reverse ∧ Chg (fun k => v.ownBlock = some k) w0 w' := by
  obtain ⟨A, c, rfl, hc1, hc2⟩ := ho.form
  refine St.enter (N := 28) Tryd.func40 rfl Tryd.ntmps40 rfl ?_
  refine St.seq fun K0 hK0 => ?_
  refine St.region ?_
  refine St.r (R.move rfl) rfl rfl ?_
  refine St.r (R.lenSl Tryd.underlying30 rfl) rfl rfl ?_
  refine St.r (R.sub rfl rfl (by omega) (by omega)) rfl rfl ?_
  refine St.r (R.assign rfl) rfl rfl ?_
  refine St.r (R.assign rfl) rfl rfl ?_
  refine St.nil ?_
  refine St.weak [(0, _), (2, _), (3, _)] ⟨rfl, rfl, rfl, trivial⟩ ?_
  refine St.then_n ?_
  refine St.go hK0 ?_
  clear hK0
  refine St.block ?_
  refine St.loop (fun (x : Nat × List Int) => match x with | (i, ys) => [(0, .slice A xs.length c), (2, .int .i64 (i : Int)), (3, .int .i64 ((xs.length : Int) - 1 - i))])
      (fun (x : Nat × List Int) w => match x with | (i, ys) => i ≤ xs.length ∧ RevTo xs i ys ∧ Own encInt 1 base 3 w (.slice A xs.length c) ys ∧ Chg (fun k => (Value.slice A xs.length c).ownBlock = some k) w0 w)
      (fun (x : Nat × List Int) => match x with | (i, ys) => xs.length - i) (0, xs) ⟨rfl, rfl, (look_int rfl (by omega)), trivial⟩ ?_ ?_
  · exact ⟨Nat.zero_le _, RevTo.start xs, ho, Chg.refl _ _⟩
  rintro ⟨i, ys⟩ w ⟨hi, hr, ho, C⟩
  show St _ _ [(0, .slice A xs.length c), (2, .int .i64 (i : Int)), (3, .int .i64 ((xs.length : Int) - 1 - i))] _ _
  refine St.seq fun K1 hK1 => ?_
  refine St.seq fun K2 hK2 => ?_
  refine St.region ?_
  refine St.r (R.move rfl) rfl rfl ?_
  refine St.r (R.move rfl) rfl rfl ?_
  refine St.r (R.lss rfl rfl) rfl rfl ?_
  refine St.nil ?_
  refine St.weak [(0, _), (2, _), (3, _), (9, _)] ⟨rfl, rfl, rfl, rfl, trivial⟩ ?_
  refine St.then_n ?_
  refine St.go hK2 ?_
  clear hK2
  refine St.condD rfl (fun h9 => ?_) (fun h9 => ?_)
  ·
    have hl := hr.1
    obtain ⟨x, hx⟩ := get_of_lt (xs := ys) (k := i) (by omega)
    obtain ⟨y, hy⟩ := get_of_lt (xs := ys) (k := xs.length - 1 - i) (by omega)
    obtain ⟨gb, c', sp, heq, hgb, kS, hq1, hq2, hq3⟩ := ho.blk (by omega)
    rw [hl] at heq
    cases heq
    replace kS := kS.ext (Ext.drew w)
    replace C := C.then (Ext.drew w) (fun _ _ h => h.elim)
    clear ho
    refine St.skip ?_
    refine St.then_n ?_
    refine St.go hK1 ?_
    clear hK1
    refine St.seq fun K3 hK3 => ?_
    refine St.block ?_
    refine St.weak [(0, _), (2, _), (3, _)] ⟨rfl, rfl, rfl, trivial⟩ ?_
    refine St.drawT (S := fun k => k = gb) (eff := [13, 15]) mixed rfl rfl rfl rfl ?_
    refine DrawT.quiet 0 rfl rfl (fun W eW => OpOk.r (R.move rfl) rfl) ?_
    refine DrawT.quiet 1 rfl rfl (fun W eW => OpOk.r (R.move rfl) rfl) ?_
    refine DrawT.quiet 2 rfl rfl (fun W eW => OpOk.r (R.move rfl) rfl) ?_
    refine DrawT.quiet 3 rfl rfl (fun W eW => OpOk.r (R.move rfl) rfl) ?_
    refine DrawT.quiet 4 rfl rfl (fun W eW => OpOk.r (R.move rfl) rfl) ?_
    refine DrawT.quiet 5 rfl rfl (fun W eW => OpOk.r (R.move rfl) rfl) ?_
    refine DrawT.quiet 6 rfl rfl (fun W eW => OpOk.r (R.indexS (xs.length - 1 - i) Tryd.underlying30 Tryd.sizeOf3 rfl rfl (by omega) (by omega)) rfl) ?_
    refine DrawT.pin 7 rfl rfl (OpOk.r (R.load1 Tryd.isAgg3 rfl ((kS.elem encInt_len hy).at 0 rfl)) rfl) ?_
    refine DrawT.quiet 8 rfl rfl (fun W eW => OpOk.r (R.move rfl) rfl) ?_
    refine DrawT.quiet 9 rfl rfl (fun W eW => OpOk.r (R.move rfl) rfl) ?_
    refine DrawT.quiet 10 rfl rfl (fun W eW => OpOk.r (R.indexS i Tryd.underlying30 Tryd.sizeOf3 rfl rfl rfl (by omega)) rfl) ?_
    refine DrawT.pin 11 rfl rfl (OpOk.r (R.load1 Tryd.isAgg3 rfl ((kS.elem encInt_len hx).at 0 rfl)) rfl) ?_
    refine DrawT.quiet 12 rfl rfl (fun W eW => OpOk.r (R.indexS i Tryd.underlying30 Tryd.sizeOf3 rfl rfl rfl (by omega)) rfl) ?_
    refine DrawT.one (n := 13) rfl rfl rfl rfl (OpC.plain (Eff.store Tryd.sizeOf3 rfl rfl kS rfl (by simp only [List.length_append, flat_length encInt_len]; omega) (by simp [Value.cells, Value.oneCell'])) rfl) ?_ ?_
    · rintro _ _ ⟨_, _, g, _⟩
      exact g
    rintro _ ws0 ⟨rfl, ks0, gs0, zs0⟩
    replace C := C.then gs0 (fun _ _ h => by subst h; rfl)
    have kT : Blk ws0 gb 3 ((ys.set i y).flatMap encInt ++ sp) := by
      have h := ks0
      rw [Nat.zero_add] at h
      rw [← splice_flat encInt_len (by omega)]
      exact h
    refine DrawT.quiet 14 rfl rfl (fun W eW => OpOk.r (R.indexS (xs.length - 1 - i) Tryd.underlying30 Tryd.sizeOf3 rfl rfl (by omega) (by omega)) rfl) ?_
    refine DrawT.one (n := 15) rfl rfl rfl rfl (OpC.plain (Eff.store Tryd.sizeOf3 rfl rfl kT rfl (by simp only [List.length_append, flat_length encInt_len, List.length_set]; omega) (by simp [Value.cells, Value.oneCell'])) rfl) ?_ ?_
    · rintro _ _ ⟨_, _, g, _⟩
      exact g
    rintro _ ws1 ⟨rfl, ks1, gs1, zs1⟩
    replace C := C.then gs1 (fun _ _ h => by subst h; rfl)
    have kU : Blk ws1 gb 3 (((ys.set i y).set (xs.length - 1 - i) x).flatMap encInt ++ sp) := by
      have h := ks1
      rw [Nat.zero_add] at h
      rw [← splice_flat encInt_len (by rw [List.length_set]; omega)]
      exact h
    have hO : Own encInt 1 base 3 ws1 (.slice (some ⟨gb, 0, none⟩) xs.length c) ((ys.set i y).set (xs.length - 1 - i) x) := by
      have h := Own.of_blk encInt_len kU hgb (c := c) (by rw [List.length_set, List.length_set]; omega) hq2 (by rw [← hq3]; simp only [List.length_append, flat_length encInt_len, List.length_set])
      rw [List.length_set, List.length_set, hl] at h
      exact h
    refine DrawT.fin rfl ?_
    show St _ _ _ _ _
    refine St.weak [(0, _), (2, _), (3, _)] ⟨rfl, rfl, rfl, trivial⟩ ?_
    refine St.in_n ?_
    refine St.then_n ?_
    refine St.go hK3 ?_
    clear hK3
    refine St.region ?_
    refine St.r (R.move rfl) rfl rfl ?_
    refine St.r (R.add rfl rfl (by omega) (by omega)) rfl rfl ?_
    refine St.r (R.move rfl) rfl rfl ?_
    refine St.r (R.sub rfl rfl (by omega) (by omega)) rfl rfl ?_
    refine St.r (R.assign rfl) rfl rfl ?_
    refine St.r (R.assign rfl) rfl rfl ?_
    refine St.nil ?_
    refine St.weak [(0, _), (2, _), (3, _)] ⟨rfl, rfl, rfl, trivial⟩ ?_
    refine St.then_n ?_
    refine St.round (i + 1, (ys.set i y).set (xs.length - 1 - i) x) ⟨rfl, rfl, (look_int rfl (by omega)), trivial⟩ ?_ ?_
    · try dsimp only
      exact ⟨by omega, hr.step (by omega) hx hy, hO, C⟩
    · try dsimp only
      omega
  ·
    have hfin := hr.done (by omega)
    subst hfin
    refine St.exit ?_
    refine St.then_x ?_
    refine St.then_x ?_
    refine St.in_x ?_
    refine St.end0 Tryd.results40 ?_
    exact ⟨_, rfl, rfl, ho, C⟩

theorem Log_ret {ls : List Commit} {v : Value} {a : Int} (w0 : World) (hv : RCommits w0 v ls) :
    Ret Tryd.prog 11 [v, .int .i64 a] w0 fun r w' => ∃ sv, r = .tuple #[sv, errV 81 (readyErr ls [a])] ∧ RInts w' sv (ancList ls a).reverse ∧ Ext w0 w' := by
  have E : Ext w0 w0 := Ext.refl w0
  refine St.enter (N := 18) Tryd.func11 rfl Tryd.ntmps11 rfl ?_
  refine St.seq fun K0 hK0 => ?_
  refine St.region ?_
  refine St.r (R.assign rfl) rfl rfl ?_
  refine St.r (R.assign rfl) rfl rfl ?_
  refine St.nil ?_
  refine St.weak [(0, _), (1, _)] ⟨rfl, rfl, trivial⟩ ?_
  refine St.then_n ?_
  refine St.go hK0 ?_
  clear hK0
  refine St.seq fun K1 hK1 => ?_
  refine St.region ?_
  refine St.r (R.move rfl) rfl rfl ?_
  refine St.r (R.move rfl) rfl rfl ?_
  refine St.call rfl rfl ent10 (Ancestors_ret _ hv) rfl ?_
  rintro r11 w11 ⟨sv, rfl, o11, e11⟩
  replace E := Ext.trans E e11
  refine St.r (R.move rfl) rfl rfl ?_
  refine St.r (R.extract rfl rfl) rfl rfl ?_
  refine St.r (R.extract rfl rfl) rfl rfl ?_
  refine St.r (R.assign rfl) rfl rfl ?_
  refine St.r (R.assign rfl) rfl rfl ?_
  refine St.nil ?_
  refine St.weak [(6, _), (7, _)] ⟨rfl, rfl, trivial⟩ ?_
  refine St.then_n ?_
  refine St.go hK1 ?_
  clear hK1
  refine St.seq fun K2 hK2 => ?_
  refine St.region ?_
  refine St.r (R.move rfl) rfl rfl ?_
  refine St.call rfl rfl ent40 (Reverse_ret _ o11) rfl ?_
  rintro r15 w15 ⟨rfl, o15, C15⟩
  replace E := Ext.then E C15 (by intro j hj hk; have := (o11.base hk).1; omega)
  refine St.nil ?_
  refine St.weak [(6, _), (7, _)] ⟨rfl, rfl, trivial⟩ ?_
  refine St.then_n ?_
  refine St.go hK2 ?_
  clear hK2
  refine St.seq fun K3 hK3 => ?_
  refine St.region ?_
  refine St.r (R.move rfl) rfl rfl ?_
  refine St.r (R.move rfl) rfl rfl ?_
  refine St.r (R.assign rfl) rfl rfl ?_
  refine St.r (R.assign rfl) rfl rfl ?_
  refine St.nil ?_
  refine St.weak [(4, _), (5, _)] ⟨rfl, rfl, trivial⟩ ?_
  refine St.then_n ?_
  refine St.go hK3 ?_
  clear hK3
  refine St.ret ?_
  refine St.ret2 Tryd.results11 rfl rfl ?_
  exact ⟨_, rfl, _, rfl, o15.reads encInt_len, E⟩

theorem rAnc_ret {ls : List Commit} {v : Value} {i : Nat} (w0 : World) (hv : RCommits w0 v ls) (hrd : (readyErr ls [(i : Int)]).isSome = false) :
    Ret Tryd.prog 9 [v, .int .i64 (i : Int)] w0 fun r w' => Own encInt 1 w0.heap.size 3 w' r (ancList ls (i : Int)) ∧ Ext w0 w' := by
  obtain ⟨h60, hel, hnums⟩ := ready_ok hrd
  have hi0 := hnums (i : Int) (by simp)
  obtain ⟨b, o, c, rfl, -, -, hrd'⟩ := hv.at (by omega)
  have E : Ext w0 w0 := Ext.refl w0
  refine St.enter (N := 71) Tryd.func9 rfl Tryd.ntmps9 rfl ?_
  refine St.seq fun K0 hK0 => ?_
  refine St.region ?_
  refine St.r (R.assign rfl) rfl rfl ?_
  refine St.nil ?_
  refine St.weak [(0, _), (1, _)] ⟨rfl, rfl, trivial⟩ ?_
  refine St.then_n ?_
  refine St.go hK0 ?_
  clear hK0
  refine St.seq fun K1 hK1 => ?_
  refine St.region ?_
  refine St.r (R.move rfl) rfl rfl ?_
  refine St.r (R.lenSl Tryd.underlying22 rfl) rfl rfl ?_
  refine St.makeSl (n := ls.length) Tryd.underlying84 info4 rfl rfl rfl rfl (by omega) (by omega) rfl ?_
  intro w14 b14 hb14 hs14 e14 k14
  have qE14 := E.size
  replace E := Ext.trans E e14
  have kS : Blk w14 b14 4 (bls (List.replicate ls.length false)) := by simpa [bls] using k14
  refine St.r (R.assign rfl) rfl rfl ?_
  refine St.nil ?_
  refine St.weak [(0, _), (1, _), (5, _)] ⟨rfl, rfl, rfl, trivial⟩ ?_
  refine St.then_n ?_
  refine St.go hK1 ?_
  clear hK1
  refine St.seq fun K2 hK2 => ?_
  refine St.region ?_
  refine St.r (R.move rfl) rfl rfl ?_
  refine St.r (R.move rfl) rfl rfl ?_
  refine St.r (R.indexS i Tryd.underlying84 Tryd.sizeOf4 rfl rfl rfl (by omega)) rfl rfl ?_
  refine St.store Tryd.sizeOf4 rfl rfl kS rfl (by simp only [bls_length, List.length_replicate]; simp [Value.cells]; omega) (by simp [Value.cells, Value.oneCell']) ?_
  intro ws0 ks0 gs0 zs0
  replace E := Ext.then E gs0 (by intro j hj; omega)
  clear kS; have kS := ks0; clear ks0
  replace kS : Blk ws0 b14 4 (bls ((List.replicate ls.length false).set i true)) := by
    have h := kS
    simp only [Nat.zero_add, Nat.mul_one] at h
    rw [← bls_set]
    exact h
  obtain ⟨t1, t2, t3⟩ := Clim.start (ls := ls) (i := i) (by omega)
  refine St.nil ?_
  refine St.weak [(0, _), (5, _)] ⟨rfl, rfl, trivial⟩ ?_
  refine St.then_n ?_
  refine St.go hK2 ?_
  clear hK2
  refine St.seq fun K3 hK3 => ?_
  refine St.seq fun K4 hK4 => ?_
  refine St.region ?_
  refine St.r (R.assign rfl) rfl rfl ?_
  refine St.nil ?_
  refine St.weak [(0, _), (5, _), (6, _)] ⟨rfl, rfl, rfl, trivial⟩ ?_
  refine St.then_n ?_
  refine St.go hK4 ?_
  clear hK4
  refine St.block ?_
  refine St.loop (fun (x : List Bool × Bool) => match x with | (s, again) => [(0, .slice (some ⟨b, o, none⟩) ls.length c), (5, .slice (some ⟨b14, 0, none⟩) ls.length ls.length), (6, .bool again)])
      (fun (x : List Bool × Bool) w => match x with | (s, again) => s.length = ls.length ∧ Bit s i ∧ (∀ m, Bit s m → Anc ls m i) ∧ (again = false → ∀ m, Bit s m ↔ Anc ls m i) ∧ Ext w0 w ∧ Blk w b14 4 (bls s))
      (fun (x : List Bool × Bool) => match x with | (s, again) => 2 * lack s + (if again then 1 else 0)) ((List.replicate ls.length false).set i true, true) ⟨rfl, rfl, rfl, trivial⟩ ?_ ?_
  · exact ⟨t1, t2, t3, fun h => (by cases h), E, kS⟩
  rintro ⟨s, again⟩ w ⟨t1, t2, t3, hdone, E, kS⟩
  show St _ _ [(0, .slice (some ⟨b, o, none⟩) ls.length c), (5, .slice (some ⟨b14, 0, none⟩) ls.length ls.length), (6, .bool again)] _ _
  refine St.seq fun K5 hK5 => ?_
  refine St.seq fun K6 hK6 => ?_
  refine St.region ?_
  refine St.r (R.move rfl) rfl rfl ?_
  refine St.nil ?_
  refine St.weak [(0, _), (5, _), (18, _)] ⟨rfl, rfl, rfl, trivial⟩ ?_
  refine St.then_n ?_
  refine St.go hK6 ?_
  clear hK6
  refine St.cond rfl (fun h18 => ?_) (fun h18 => ?_)
  ·
    refine St.skip ?_
    refine St.then_n ?_
    refine St.go hK5 ?_
    clear hK5
    refine St.block ?_
    refine St.seq fun K7 hK7 => ?_
    refine St.region ?_
    refine St.r (R.assign rfl) rfl rfl ?_
    refine St.nil ?_
    refine St.weak [(0, _), (5, _), (6, _)] ⟨rfl, rfl, rfl, trivial⟩ ?_
    refine St.then_n ?_
    refine St.go hK7 ?_
    clear hK7
    refine St.seq fun K8 hK8 => ?_
    refine St.region ?_
    refine St.r (R.assign rfl) rfl rfl ?_
    refine St.nil ?_
    refine St.weak [(0, _), (5, _), (6, _), (7, _)] ⟨rfl, rfl, rfl, rfl, trivial⟩ ?_
    refine St.then_n ?_
    refine St.go hK8 ?_
    clear hK8
    refine St.block ?_
    refine St.loop (fun (x : List Bool × Bool × Nat) => match x with | (s2, again2, k) => [(0, .slice (some ⟨b, o, none⟩) ls.length c), (5, .slice (some ⟨b14, 0, none⟩) ls.length ls.length), (6, .bool again2), (7, .int .i64 (k : Int))])
        (fun (x : List Bool × Bool × Nat) w => match x with | (s2, again2, k) => k ≤ ls.length ∧ Clim ls i (lack s) s2 again2 k 0 ∧ Ext w0 w ∧ Blk w b14 4 (bls s2))
        (fun (x : List Bool × Bool × Nat) => match x with | (s2, again2, k) => ls.length - k) (s, false, 0) ⟨rfl, rfl, rfl, rfl, trivial⟩ ?_ ?_
    · exact ⟨Nat.zero_le _, Clim.first t1 t2 t3, E, kS⟩
    rintro ⟨s2, again2, k⟩ w ⟨hk, hC, E, kS⟩
    show St _ _ [(0, .slice (some ⟨b, o, none⟩) ls.length c), (5, .slice (some ⟨b14, 0, none⟩) ls.length ls.length), (6, .bool again2), (7, .int .i64 (k : Int))] _ _
    refine St.seq fun K9 hK9 => ?_
    refine St.seq fun K10 hK10 => ?_
    refine St.region ?_
    refine St.r (R.move rfl) rfl rfl ?_
    refine St.r (R.move rfl) rfl rfl ?_
    refine St.r (R.lenSl Tryd.underlying22 rfl) rfl rfl ?_
    refine St.r (R.lss rfl rfl) rfl rfl ?_
    refine St.nil ?_
    refine St.weak [(0, _), (5, _), (6, _), (7, _), (22, _)] ⟨rfl, rfl, rfl, rfl, rfl, trivial⟩ ?_
    refine St.then_n ?_
    refine St.go hK10 ?_
    clear hK10
    refine St.condD rfl (fun h22 => ?_) (fun h22 => ?_)
    ·
      obtain ⟨cm, hcm⟩ := get_of_lt (xs := ls) (k := k) (by omega)
      obtain ⟨cs, -, hcell, pv, rfl, hpv⟩ := hrd' k cm hcm
      obtain ⟨pA, pc, rfl, hp1, hp2⟩ := hpv.form
      obtain ⟨bb, hbk⟩ := get_of_lt (xs := s2) (k := k) (by rw [hC.len]; omega)
      refine St.skip ?_
      refine St.then_n ?_
      refine St.go hK9 ?_
      clear hK9
      refine St.seq fun K11 hK11 => ?_
      refine St.block ?_
      refine St.seq fun K12 hK12 => ?_
      refine St.seq fun K13 hK13 => ?_
      refine St.region ?_
      refine St.r (R.move rfl) rfl rfl ?_
      refine St.r (R.move rfl) rfl rfl ?_
      refine St.r (R.indexS k Tryd.underlying84 Tryd.sizeOf4 rfl rfl rfl (by omega)) rfl rfl ?_
      refine St.r (R.load1 Tryd.isAgg4 rfl (kS.cells.at (k * 1) (by rw [Nat.mul_one]; exact bls_get hbk))) rfl rfl ?_
      refine St.r (R.not rfl) rfl rfl ?_
      refine St.nil ?_
      refine St.weak [(0, _), (5, _), (6, _), (7, _), (29, _)] ⟨rfl, rfl, rfl, rfl, rfl, trivial⟩ ?_
      refine St.then_n ?_
      refine St.go hK13 ?_
      clear hK13
      refine St.cond rfl (fun h29 => ?_) (fun h29 => ?_)
      ·
        obtain rfl : bb = false := by cases bb <;> simp at h29 ⊢
        refine St.exit ?_
        refine St.then_x ?_
        refine St.in_x ?_
        refine St.then_n ?_
        refine St.go hK11 ?_
        clear hK11
        refine St.region ?_
        refine St.r (R.move rfl) rfl rfl ?_
        refine St.r (R.add rfl rfl (by omega) (by omega)) rfl rfl ?_
        refine St.r (R.assign rfl) rfl rfl ?_
        refine St.nil ?_
        refine St.weak [(0, _), (5, _), (6, _), (7, _)] ⟨rfl, rfl, rfl, rfl, trivial⟩ ?_
        refine St.then_n ?_
        refine St.round (s2, again2, k + 1) ⟨rfl, rfl, rfl, rfl, trivial⟩ ?_ ?_
        · try dsimp only
          exact ⟨by omega, hC.pass hbk, E, kS⟩
        · try dsimp only
          omega
      ·
        obtain rfl : bb = true := by cases bb <;> simp at h29 ⊢
        refine St.skip ?_
        refine St.then_n ?_
        refine St.go hK12 ?_
        clear hK12
        refine St.seq fun K14 hK14 => ?_
        refine St.region ?_
        refine St.r (R.assign rfl) rfl rfl ?_
        refine St.nil ?_
        refine St.weak [(0, _), (5, _), (6, _), (7, _), (8, _)] ⟨rfl, rfl, rfl, rfl, rfl, trivial⟩ ?_
        refine St.then_n ?_
        refine St.go hK14 ?_
        clear hK14
        refine St.block ?_
        refine St.loop (fun (x : List Bool × Bool × Nat) => match x with | (s3, again3, j) => [(0, .slice (some ⟨b, o, none⟩) ls.length c), (5, .slice (some ⟨b14, 0, none⟩) ls.length ls.length), (6, .bool again3), (7, .int .i64 (k : Int)), (8, .int .i64 (j : Int))])
            (fun (x : List Bool × Bool × Nat) w => match x with | (s3, again3, j) => j ≤ cm.parents.length ∧ Clim ls i (lack s) s3 again3 k j ∧ s3[k]? = some true ∧ Ext w0 w ∧ Blk w b14 4 (bls s3))
            (fun (x : List Bool × Bool × Nat) => match x with | (s3, again3, j) => cm.parents.length - j) (s2, again2, 0) ⟨rfl, rfl, rfl, rfl, rfl, trivial⟩ ?_ ?_
        · exact ⟨Nat.zero_le _, hC, hbk, E, kS⟩
        rintro ⟨s3, again3, j⟩ w ⟨hj, hC, hk3, E, kS⟩
        show St _ _ [(0, .slice (some ⟨b, o, none⟩) ls.length c), (5, .slice (some ⟨b14, 0, none⟩) ls.length ls.length), (6, .bool again3), (7, .int .i64 (k : Int)), (8, .int .i64 (j : Int))] _ _
        refine St.seq fun K15 hK15 => ?_
        refine St.seq fun K16 hK16 => ?_
        refine St.region ?_
        refine St.r (R.move rfl) rfl rfl ?_
        refine St.r (R.move rfl) rfl rfl ?_
        refine St.r (R.move rfl) rfl rfl ?_
        refine St.r (R.indexS k Tryd.underlying22 Tryd.sizeOf80 rfl rfl rfl (by omega)) rfl rfl ?_
        refine St.r (R.fieldA Tryd.underlying80 rfl Tryd.sizeOf30 rfl rfl rfl) rfl rfl ?_
        refine St.r (R.load1 Tryd.isAgg30 rfl ((E.cells hcell).at 0 rfl)) rfl rfl ?_
        refine St.r (R.lenSl Tryd.underlying30 rfl) rfl rfl ?_
        refine St.r (R.lss rfl rfl) rfl rfl ?_
        refine St.nil ?_
        refine St.weak [(0, _), (5, _), (6, _), (7, _), (8, _), (37, _)] ⟨rfl, rfl, rfl, rfl, rfl, rfl, trivial⟩ ?_
        refine St.then_n ?_
        refine St.go hK16 ?_
        clear hK16
        refine St.condD rfl (fun h37 => ?_) (fun h37 => ?_)
        ·
          obtain ⟨p, hp⟩ := get_of_lt (xs := cm.parents) (k := j) (by omega)
          obtain ⟨hp0, hpk⟩ := hel k cm hcm p (List.mem_of_getElem? hp)
          obtain ⟨pn, rfl⟩ : ∃ n : Nat, p = (n : Int) := ⟨p.toNat, by omega⟩
          obtain ⟨pb, po, rfl, hpc⟩ := hpv.get' hp
          have hl3 := hC.len
          obtain ⟨bp, hbp⟩ := get_of_lt (xs := s3) (k := pn) (by omega)
          refine St.skip ?_
          refine St.then_n ?_
          refine St.go hK15 ?_
          clear hK15
          refine St.seq fun K17 hK17 => ?_
          refine St.block ?_
          refine St.seq fun K18 hK18 => ?_
          refine St.region ?_
          refine St.r (R.move rfl) rfl rfl ?_
          refine St.r (R.move rfl) rfl rfl ?_
          refine St.r (R.indexS k Tryd.underlying22 Tryd.sizeOf80 rfl rfl rfl (by omega)) rfl rfl ?_
          refine St.r (R.fieldA Tryd.underlying80 rfl Tryd.sizeOf30 rfl rfl rfl) rfl rfl ?_
          refine St.r (R.load1 Tryd.isAgg30 rfl ((E.cells hcell).at 0 rfl)) rfl rfl ?_
          refine St.r (R.move rfl) rfl rfl ?_
          refine St.r (R.indexS j Tryd.underlying30 Tryd.sizeOf3 rfl rfl rfl (by omega)) rfl rfl ?_
          refine St.r (R.load1 Tryd.isAgg3 rfl ((E.cells hpc).at 0 rfl)) rfl rfl ?_
          refine St.r (R.assign rfl) rfl rfl ?_
          refine St.nil ?_
          refine St.weak [(0, _), (5, _), (6, _), (7, _), (8, _), (9, _)] ⟨rfl, rfl, rfl, rfl, rfl, rfl, trivial⟩ ?_
          refine St.then_n ?_
          refine St.go hK18 ?_
          clear hK18
          refine St.seq fun K19 hK19 => ?_
          refine St.region ?_
          refine St.r (R.move rfl) rfl rfl ?_
          refine St.r (R.move rfl) rfl rfl ?_
          refine St.r (R.indexS pn Tryd.underlying84 Tryd.sizeOf4 rfl rfl rfl (by omega)) rfl rfl ?_
          refine St.r (R.load1 Tryd.isAgg4 rfl (kS.cells.at (pn * 1) (by rw [Nat.mul_one]; exact bls_get hbp))) rfl rfl ?_
          refine St.r (R.not rfl) rfl rfl ?_
          refine St.nil ?_
          refine St.weak [(0, _), (5, _), (6, _), (7, _), (8, _), (9, _), (52, _)] ⟨rfl, rfl, rfl, rfl, rfl, rfl, rfl, trivial⟩ ?_
          refine St.then_n ?_
          refine St.go hK19 ?_
          clear hK19
          refine St.cond rfl (fun h52 => ?_) (fun h52 => ?_)
          ·
            obtain rfl : bp = false := by cases bp <;> simp at h52 ⊢
            refine St.seq fun K20 hK20 => ?_
            refine St.region ?_
            refine St.r (R.move rfl) rfl rfl ?_
            refine St.r (R.move rfl) rfl rfl ?_
            refine St.r (R.indexS pn Tryd.underlying84 Tryd.sizeOf4 rfl rfl rfl (by omega)) rfl rfl ?_
            refine St.store Tryd.sizeOf4 rfl rfl kS rfl (by simp only [bls_length, hl3]; simp [Value.cells]; omega) (by simp [Value.cells, Value.oneCell']) ?_
            intro ws1 ks1 gs1 zs1
            replace E := Ext.then E gs1 (by intro j hj; omega)
            clear kS; have kS := ks1; clear ks1
            refine St.nil ?_
            refine St.weak [(0, _), (5, _), (7, _), (8, _)] ⟨rfl, rfl, rfl, rfl, trivial⟩ ?_
            refine St.then_n ?_
            refine St.go hK20 ?_
            clear hK20
            refine St.region ?_
            refine St.r (R.assign rfl) rfl rfl ?_
            refine St.nil ?_
            refine St.weak [(0, _), (5, _), (6, _), (7, _), (8, _)] ⟨rfl, rfl, rfl, rfl, rfl, trivial⟩ ?_
            refine St.in_n ?_
            refine St.then_n ?_
            refine St.go hK17 ?_
            clear hK17
            refine St.region ?_
            refine St.r (R.move rfl) rfl rfl ?_
            refine St.r (R.add rfl rfl (by omega) (by omega)) rfl rfl ?_
            refine St.r (R.assign rfl) rfl rfl ?_
            refine St.nil ?_
            refine St.weak [(0, _), (5, _), (6, _), (7, _), (8, _)] ⟨rfl, rfl, rfl, rfl, rfl, trivial⟩ ?_
            refine St.then_n ?_
            refine St.round (s3.set pn true, true, j + 1) ⟨rfl, rfl, rfl, rfl, rfl, trivial⟩ ?_ ?_
            · try dsimp only
              refine ⟨by omega, hC.new hel hcm hk3 hp hbp, (bit_set (lt_of_get hbp)).2 (.inr hk3), E, ?_⟩
              have h := kS
              simp only [Nat.zero_add, Nat.mul_one] at h
              rw [← bls_set]
              exact h
            · try dsimp only
              omega
          ·
            obtain rfl : bp = true := by cases bp <;> simp at h52 ⊢
            refine St.skip ?_
            refine St.in_n ?_
            refine St.then_n ?_
            refine St.go hK17 ?_
            clear hK17
            refine St.region ?_
            refine St.r (R.move rfl) rfl rfl ?_
            refine St.r (R.add rfl rfl (by omega) (by omega)) rfl rfl ?_
            refine St.r (R.assign rfl) rfl rfl ?_
            refine St.nil ?_
            refine St.weak [(0, _), (5, _), (6, _), (7, _), (8, _)] ⟨rfl, rfl, rfl, rfl, rfl, trivial⟩ ?_
            refine St.then_n ?_
            refine St.round (s3, again3, j + 1) ⟨rfl, rfl, rfl, rfl, rfl, trivial⟩ ?_ ?_
            · try dsimp only
              exact ⟨by omega, hC.old hcm hp hbp, hk3, E, kS⟩
            · try dsimp only
              omega
        ·
          refine St.exit ?_
          refine St.then_x ?_
          refine St.then_x ?_
          refine St.in_x ?_
          refine St.in_n ?_
          refine St.then_n ?_
          refine St.go hK11 ?_
          clear hK11
          refine St.region ?_
          refine St.r (R.move rfl) rfl rfl ?_
          refine St.r (R.add rfl rfl (by omega) (by omega)) rfl rfl ?_
          refine St.r (R.assign rfl) rfl rfl ?_
          refine St.nil ?_
          refine St.weak [(0, _), (5, _), (6, _), (7, _)] ⟨rfl, rfl, rfl, rfl, trivial⟩ ?_
          refine St.then_n ?_
          refine St.round (s3, again3, k + 1) ⟨rfl, rfl, rfl, rfl, trivial⟩ ?_ ?_
          · try dsimp only
            exact ⟨by omega, hC.next hcm (by omega), E, kS⟩
          · try dsimp only
            omega
    ·
      obtain rfl : k = ls.length := by omega
      refine St.exit ?_
      refine St.then_x ?_
      refine St.then_x ?_
      refine St.in_x ?_
      refine St.in_n ?_
      refine St.then_n ?_
      refine St.round (s2, again2) ⟨rfl, rfl, rfl, trivial⟩ ?_ ?_
      · try dsimp only
        exact ⟨hC.len, hC.root, hC.sound, fun ha => by subst ha; exact hC.done hel, E, kS⟩
      · try dsimp only
        have := hC.cnt
        subst h18
        cases again2 <;> simp at this ⊢ <;> omega
  ·
    have hb := hdone h18
    have F0 : w14.heap.size ≤ w.heap.size := by have := kS.lt; omega
    refine St.exit ?_
    refine St.then_x ?_
    refine St.then_x ?_
    refine St.in_x ?_
    refine St.then_n ?_
    refine St.go hK3 ?_
    clear hK3
    refine St.seq fun K21 hK21 => ?_
    refine St.region ?_
    refine St.r (R.assign rfl) rfl rfl ?_
    refine St.nil ?_
    refine St.weak [(0, _), (5, _), (10, _)] ⟨rfl, rfl, rfl, trivial⟩ ?_
    refine St.then_n ?_
    refine St.go hK21 ?_
    clear hK21
    refine St.seq fun K22 hK22 => ?_
    refine St.seq fun K23 hK23 => ?_
    refine St.region ?_
    refine St.r (R.assign rfl) rfl rfl ?_
    refine St.nil ?_
    refine St.weak [(0, _), (5, _), (10, _), (11, _)] ⟨rfl, rfl, rfl, rfl, trivial⟩ ?_
    refine St.then_n ?_
    refine St.go hK23 ?_
    clear hK23
    refine St.block ?_
    refine St.loop (fun (x : Nat × Value) => match x with | (k, v10) => [(0, .slice (some ⟨b, o, none⟩) ls.length c), (5, .slice (some ⟨b14, 0, none⟩) ls.length ls.length), (10, v10), (11, .int .i64 (k : Int))])
        (fun (x : Nat × Value) w => match x with | (k, v10) => k ≤ ls.length ∧ Ext w0 w ∧ Own encInt 1 w14.heap.size 3 w v10 (setListTo s k) ∧ Blk w b14 4 (bls s))
        (fun (x : Nat × Value) => match x with | (k, v10) => ls.length - k) (0, .slice none 0 0) ⟨rfl, rfl, rfl, rfl, trivial⟩ ?_ ?_
    · exact ⟨Nat.zero_le _, E, Own.nil _ _ _ _ _, kS⟩
    rintro ⟨k, v10⟩ w ⟨hk, E, o10, kS⟩
    show St _ _ [(0, .slice (some ⟨b, o, none⟩) ls.length c), (5, .slice (some ⟨b14, 0, none⟩) ls.length ls.length), (10, v10), (11, .int .i64 (k : Int))] _ _
    refine St.seq fun K24 hK24 => ?_
    refine St.seq fun K25 hK25 => ?_
    refine St.region ?_
    refine St.r (R.move rfl) rfl rfl ?_
    refine St.r (R.move rfl) rfl rfl ?_
    refine St.r (R.lenSl Tryd.underlying22 rfl) rfl rfl ?_
    refine St.r (R.lss rfl rfl) rfl rfl ?_
    refine St.nil ?_
    refine St.weak [(0, _), (5, _), (10, _), (11, _), (59, _)] ⟨rfl, rfl, rfl, rfl, rfl, trivial⟩ ?_
    refine St.then_n ?_
    refine St.go hK25 ?_
    clear hK25
    refine St.condD rfl (fun h59 => ?_) (fun h59 => ?_)
    ·
      obtain ⟨bb, hbk⟩ := get_of_lt (xs := s) (k := k) (by omega)
      refine St.skip ?_
      refine St.then_n ?_
      refine St.go hK24 ?_
      clear hK24
      refine St.seq fun K26 hK26 => ?_
      refine St.block ?_
      refine St.seq fun K27 hK27 => ?_
      refine St.region ?_
      refine St.r (R.move rfl) rfl rfl ?_
      refine St.r (R.move rfl) rfl rfl ?_
      refine St.r (R.indexS k Tryd.underlying84 Tryd.sizeOf4 rfl rfl rfl (by omega)) rfl rfl ?_
      refine St.r (R.load1 Tryd.isAgg4 rfl (kS.cells.at (k * 1) (by rw [Nat.mul_one]; exact bls_get hbk))) rfl rfl ?_
      refine St.nil ?_
      refine St.weak [(0, _), (5, _), (10, _), (11, _), (65, _)] ⟨rfl, rfl, rfl, rfl, rfl, trivial⟩ ?_
      refine St.then_n ?_
      refine St.go hK27 ?_
      clear hK27
      refine St.cond rfl (fun h65 => ?_) (fun h65 => ?_)
      ·
        refine St.region ?_
        refine St.r (R.move rfl) rfl rfl ?_
        refine St.r (R.move rfl) rfl rfl ?_
        refine St.buildSl Tryd.underlying30 Tryd.sizeOf3 Tryd.zeroValue3 rfl rfl rfl rfl (by intro u hu; simp only [List.mem_cons, List.not_mem_nil, or_false] at hu; first | (subst hu; rfl) | (rcases hu with rfl | rfl <;> rfl) | (rcases hu with rfl | rfl | rfl <;> rfl) | (rcases hu with rfl | rfl | rfl | rfl <;> rfl)) rfl ?_
        intro w68 b68 hb68 hs68 e68 k68
        have qE68 := E.size
        replace E := Ext.trans E e68
        replace o10 := o10.ext e68
        replace kS := kS.ext e68
        refine St.append (enc := encInt) (fun _ => rfl) one_int Tryd.underlying30 info3 rfl rfl rfl rfl o10 (RSl.mk (enc := encInt) (xs := [(k : Int)]) encInt_len k68.cells (fun i u hu => hu) (by simp) (by simp)) (by have := setListTo_length s k; simp; omega) (by have := setListTo_length s k; simp; omega) (by have := kS.lt; omega) rfl ?_
        intro v69 w69 a69 g69 at69
        replace E := Ext.then E g69 (by intro j hj hk; have := (o10.base hk).1; omega)
        replace kS := kS.chg g69 (by intro hk; have := (o10.base hk).1; omega)
        clear o10; have o10 := a69; clear a69
        refine St.r (R.assign rfl) rfl rfl ?_
        refine St.nil ?_
        refine St.weak [(0, _), (5, _), (10, _), (11, _)] ⟨rfl, rfl, rfl, rfl, trivial⟩ ?_
        refine St.in_n ?_
        refine St.then_n ?_
        refine St.go hK26 ?_
        clear hK26
        refine St.region ?_
        refine St.r (R.move rfl) rfl rfl ?_
        refine St.r (R.add rfl rfl (by omega) (by omega)) rfl rfl ?_
        refine St.r (R.assign rfl) rfl rfl ?_
        refine St.nil ?_
        refine St.weak [(0, _), (5, _), (10, _), (11, _)] ⟨rfl, rfl, rfl, rfl, trivial⟩ ?_
        refine St.then_n ?_
        refine St.round (k + 1, v69) ⟨rfl, rfl, rfl, rfl, trivial⟩ ?_ ?_
        · try dsimp only
          exact ⟨by omega, E, by rw [setListTo_succ, List.getD_eq_getElem?_getD, hbk, Option.getD_some, h65, if_pos rfl]; exact o10, kS⟩
        · try dsimp only
          omega
      ·
        refine St.skip ?_
        refine St.in_n ?_
        refine St.then_n ?_
        refine St.go hK26 ?_
        clear hK26
        refine St.region ?_
        refine St.r (R.move rfl) rfl rfl ?_
        refine St.r (R.add rfl rfl (by omega) (by omega)) rfl rfl ?_
        refine St.r (R.assign rfl) rfl rfl ?_
        refine St.nil ?_
        refine St.weak [(0, _), (5, _), (10, _), (11, _)] ⟨rfl, rfl, rfl, rfl, trivial⟩ ?_
        refine St.then_n ?_
        refine St.round (k + 1, v10) ⟨rfl, rfl, rfl, rfl, trivial⟩ ?_ ?_
        · try dsimp only
          exact ⟨by omega, E, by rw [setListTo_succ, List.getD_eq_getElem?_getD, hbk, Option.getD_some, h65, if_neg (by simp), List.append_nil]; exact o10, kS⟩
        · try dsimp only
          omega
    ·
      obtain rfl : k = ls.length := by omega
      refine St.exit ?_
      refine St.then_x ?_
      refine St.then_x ?_
      refine St.in_x ?_
      refine St.then_n ?_
      refine St.go hK22 ?_
      clear hK22
      refine St.seq fun K28 hK28 => ?_
      refine St.region ?_
      refine St.r (R.move rfl) rfl rfl ?_
      refine St.r (R.assign rfl) rfl rfl ?_
      refine St.nil ?_
      refine St.weak [(4, _)] ⟨rfl, trivial⟩ ?_
      refine St.then_n ?_
      refine St.go hK28 ?_
      clear hK28
      refine St.ret ?_
      refine St.ret1 Tryd.results9 rfl ?_
      exact ⟨_, rfl, by rw [← marks_list hrd t1 hb]; exact o10.lower (by omega), E⟩

theorem rBases_ret {ls : List Commit} {v : Value} {a b : Nat} (w0 : World) (hv : RCommits w0 v ls) (hrd : (readyErr ls [(a : Int), (b : Int)]).isSome = false) :
    Ret Tryd.prog 13 [v, .int .i64 (a : Int), .int .i64 (b : Int)] w0 fun r w' => RInts w' r (baseList ls (a : Int) (b : Int)) ∧ Ext w0 w' := by
  obtain ⟨h60, hel, hnums⟩ := ready_ok hrd
  have hra : (readyErr ls [(a : Int)]).isSome = false := ready_of hrd (fun y hy => hnums y (by simp at hy ⊢; exact .inl hy))
  have hrb : (readyErr ls [(b : Int)]).isSome = false := ready_of hrd (fun y hy => hnums y (by simp at hy ⊢; exact .inr hy))
  have E : Ext w0 w0 := Ext.refl w0
  refine St.enter (N := 85) Tryd.func13 rfl Tryd.ntmps13 rfl ?_
  refine St.seq fun K0 hK0 => ?_
  refine St.region ?_
  refine St.r (R.assign rfl) rfl rfl ?_
  refine St.nil ?_
  refine St.weak [(0, _), (1, _), (2, _)] ⟨rfl, rfl, rfl, trivial⟩ ?_
  refine St.then_n ?_
  refine St.go hK0 ?_
  clear hK0
  refine St.seq fun K1 hK1 => ?_
  refine St.region ?_
  refine St.r (R.move rfl) rfl rfl ?_
  refine St.r (R.move rfl) rfl rfl ?_
  refine St.call rfl rfl ent9 (rAnc_ret _ (hv.ext RCommit.firm E) hra) rfl ?_
  rintro r19 w19 ⟨o19, e19⟩
  replace E := Ext.trans E e19
  have r7 := o19.reads encInt_len
  obtain ⟨xA, xc, rfl, hx1, hx2⟩ := o19.form
  clear o19
  refine St.r (R.assign rfl) rfl rfl ?_
  refine St.nil ?_
  refine St.weak [(0, _), (2, _), (7, _)] ⟨rfl, rfl, rfl, trivial⟩ ?_
  refine St.then_n ?_
  refine St.go hK1 ?_
  clear hK1
  refine St.seq fun K2 hK2 => ?_
  refine St.region ?_
  refine St.r (R.move rfl) rfl rfl ?_
  refine St.r (R.move rfl) rfl rfl ?_
  refine St.call rfl rfl ent9 (rAnc_ret _ (hv.ext RCommit.firm E) hrb) rfl ?_
  rintro r22 w22 ⟨o22, e22⟩
  replace E := Ext.trans E e22
  replace r7 := r7.ext (REnc.firm _) e22
  have r8 := o22.reads encInt_len
  clear o22
  have F := Ext.refl w22
  have z22 := E.size
  refine St.r (R.assign rfl) rfl rfl ?_
  refine St.nil ?_
  refine St.weak [(0, _), (7, _), (8, _)] ⟨rfl, rfl, rfl, trivial⟩ ?_
  refine St.then_n ?_
  refine St.go hK2 ?_
  clear hK2
  refine St.seq fun K3 hK3 => ?_
  refine St.region ?_
  refine St.r (R.assign rfl) rfl rfl ?_
  refine St.r (R.assign rfl) rfl rfl ?_
  refine St.nil ?_
  refine St.weak [(0, _), (7, _), (8, _), (9, _), (10, _)] ⟨rfl, rfl, rfl, rfl, rfl, trivial⟩ ?_
  refine St.then_n ?_
  refine St.go hK3 ?_
  clear hK3
  refine St.seq fun K4 hK4 => ?_
  refine St.seq fun K5 hK5 => ?_
  refine St.region ?_
  refine St.r (R.assign rfl) rfl rfl ?_
  refine St.nil ?_
  refine St.weak [(0, _), (7, _), (8, _), (9, _), (10, _), (11, _)] ⟨rfl, rfl, rfl, rfl, rfl, rfl, trivial⟩ ?_
  refine St.then_n ?_
  refine St.go hK5 ?_
  clear hK5
  refine St.block ?_
  refine St.loop (fun (x : Nat × Value) => match x with | (k, v9) => [(0, v), (7, .slice xA (ancList ls (a : Int)).length xc), (8, r22), (9, v9), (10, .slice none 0 0), (11, .int .i64 (k : Int))])
      (fun (x : Nat × Value) w => match x with | (k, v9) => k ≤ (ancList ls (a : Int)).length ∧ Ext w0 w ∧ Ext w22 w ∧ Own encInt 1 w22.heap.size 3 w v9 (((ancList ls (a : Int)).take k).filter fun x => (ancList ls (b : Int)).any fun y => decide (y = x)))
      (fun (x : Nat × Value) => match x with | (k, v9) => (ancList ls (a : Int)).length - k) (0, .slice none 0 0) ⟨rfl, rfl, rfl, rfl, rfl, rfl, trivial⟩ ?_ ?_
  · exact ⟨Nat.zero_le _, E, F, Own.nil _ _ _ _ _⟩
  rintro ⟨k, v9⟩ w1 ⟨hk, E, F, o9⟩
  show St _ _ [(0, v), (7, .slice xA (ancList ls (a : Int)).length xc), (8, r22), (9, v9), (10, .slice none 0 0), (11, .int .i64 (k : Int))] _ _
  refine St.seq fun K6 hK6 => ?_
  refine St.seq fun K7 hK7 => ?_
  refine St.region ?_
  refine St.r (R.move rfl) rfl rfl ?_
  refine St.r (R.move rfl) rfl rfl ?_
  refine St.r (R.lenSl Tryd.underlying30 rfl) rfl rfl ?_
  refine St.r (R.lss rfl rfl) rfl rfl ?_
  refine St.nil ?_
  refine St.weak [(0, _), (7, _), (8, _), (9, _), (10, _), (11, _), (26, _)] ⟨rfl, rfl, rfl, rfl, rfl, rfl, rfl, trivial⟩ ?_
  refine St.then_n ?_
  refine St.go hK7 ?_
  clear hK7
  refine St.condD rfl (fun h26 => ?_) (fun h26 => ?_)
  ·
    obtain ⟨x, hx⟩ := get_of_lt (xs := ancList ls (a : Int)) (k := k) (by omega)
    obtain ⟨xb, xo, rfl, hxc⟩ := r7.get' hx
    refine St.skip ?_
    refine St.then_n ?_
    refine St.go hK6 ?_
    clear hK6
    refine St.seq fun K8 hK8 => ?_
    refine St.block ?_
    refine St.seq fun K9 hK9 => ?_
    refine St.region ?_
    refine St.r (R.move rfl) rfl rfl ?_
    refine St.r (R.move rfl) rfl rfl ?_
    refine St.r (R.move rfl) rfl rfl ?_
    refine St.r (R.indexS k Tryd.underlying30 Tryd.sizeOf3 rfl rfl rfl (by omega)) rfl rfl ?_
    refine St.r (R.load1 Tryd.isAgg3 rfl ((F.cells hxc).at 0 rfl)) rfl rfl ?_
    refine St.call rfl rfl ent14 (In_ret _ (r8.ext (REnc.firm _) F)) rfl ?_
    rintro r34 w34 ⟨rfl, e34⟩
    replace E := Ext.trans E e34
    replace F := Ext.trans F e34
    replace o9 := o9.ext e34
    refine St.r (R.assign rfl) rfl rfl ?_
    refine St.nil ?_
    refine St.weak [(0, _), (7, _), (8, _), (9, _), (10, _), (11, _), (12, _)] ⟨rfl, rfl, rfl, rfl, rfl, rfl, rfl, trivial⟩ ?_
    refine St.then_n ?_
    refine St.go hK9 ?_
    clear hK9
    refine St.seq fun K10 hK10 => ?_
    refine St.region ?_
    refine St.r (R.move rfl) rfl rfl ?_
    refine St.nil ?_
    refine St.weak [(0, _), (7, _), (8, _), (9, _), (10, _), (11, _), (35, _)] ⟨rfl, rfl, rfl, rfl, rfl, rfl, rfl, trivial⟩ ?_
    refine St.then_n ?_
    refine St.go hK10 ?_
    clear hK10
    refine St.cond rfl (fun h35 => ?_) (fun h35 => ?_)
    ·
      refine St.region ?_
      refine St.r (R.move rfl) rfl rfl ?_
      refine St.r (R.move rfl) rfl rfl ?_
      refine St.r (R.move rfl) rfl rfl ?_
      refine St.r (R.indexS k Tryd.underlying30 Tryd.sizeOf3 rfl rfl rfl (by omega)) rfl rfl ?_
      refine St.r (R.load1 Tryd.isAgg3 rfl ((F.cells hxc).at 0 rfl)) rfl rfl ?_
      refine St.buildSl Tryd.underlying30 Tryd.sizeOf3 Tryd.zeroValue3 rfl rfl rfl rfl (by intro u hu; simp only [List.mem_cons, List.not_mem_nil, or_false] at hu; first | (subst hu; rfl) | (rcases hu with rfl | rfl <;> rfl) | (rcases hu with rfl | rfl | rfl <;> rfl) | (rcases hu with rfl | rfl | rfl | rfl <;> rfl)) rfl ?_
      intro w41 b41 hb41 hs41 e41 k41
      have qE41 := E.size
      have qF41 := F.size
      replace E := Ext.trans E e41
      replace F := Ext.trans F e41
      replace o9 := o9.ext e41
      refine St.append (enc := encInt) (fun _ => rfl) one_int Tryd.underlying30 info3 rfl rfl rfl rfl o9 (RSl.mk (enc := encInt) (xs := [x]) encInt_len k41.cells (fun i u hu => hu) (by simp) (by simp)) (by have h1 := List.length_filter_le (fun x => (ancList ls (b : Int)).any fun y => decide (y = x)) ((ancList ls (a : Int)).take k); have h2 := ancList_length ls (a : Int); rw [List.length_take] at h1; simp; omega) (by have h1 := List.length_filter_le (fun x => (ancList ls (b : Int)).any fun y => decide (y = x)) ((ancList ls (a : Int)).take k); have h2 := ancList_length ls (a : Int); rw [List.length_take] at h1; simp; omega) F.size rfl ?_
      intro v42 w42 a42 g42 at42
      replace E := Ext.then E g42 (by intro j hj hk; have := (o9.base hk).1; omega)
      replace F := Ext.then F g42 (by intro j hj hk; have := (o9.base hk).1; omega)
      clear o9; have o9 := a42; clear a42
      refine St.r (R.assign rfl) rfl rfl ?_
      refine St.nil ?_
      refine St.weak [(0, _), (7, _), (8, _), (9, _), (10, _), (11, _)] ⟨rfl, rfl, rfl, rfl, rfl, rfl, trivial⟩ ?_
      refine St.in_n ?_
      refine St.then_n ?_
      refine St.go hK8 ?_
      clear hK8
      refine St.region ?_
      refine St.r (R.move rfl) rfl rfl ?_
      refine St.r (R.add rfl rfl (by omega) (by omega)) rfl rfl ?_
      refine St.r (R.assign rfl) rfl rfl ?_
      refine St.nil ?_
      refine St.weak [(0, _), (7, _), (8, _), (9, _), (10, _), (11, _)] ⟨rfl, rfl, rfl, rfl, rfl, rfl, trivial⟩ ?_
      refine St.then_n ?_
      refine St.round (k + 1, v42) ⟨rfl, rfl, rfl, rfl, rfl, rfl, trivial⟩ ?_ ?_
      · try dsimp only
        exact ⟨by omega, E, F, by rw [take_snoc hx, filter_snoc, h35, if_pos rfl]; exact o9⟩
      · try dsimp only
        omega
    ·
      refine St.skip ?_
      refine St.in_n ?_
      refine St.then_n ?_
      refine St.go hK8 ?_
      clear hK8
      refine St.region ?_
      refine St.r (R.move rfl) rfl rfl ?_
      refine St.r (R.add rfl rfl (by omega) (by omega)) rfl rfl ?_
      refine St.r (R.assign rfl) rfl rfl ?_
      refine St.nil ?_
      refine St.weak [(0, _), (7, _), (8, _), (9, _), (10, _), (11, _)] ⟨rfl, rfl, rfl, rfl, rfl, rfl, trivial⟩ ?_
      refine St.then_n ?_
      refine St.round (k + 1, v9) ⟨rfl, rfl, rfl, rfl, rfl, rfl, trivial⟩ ?_ ?_
      · try dsimp only
        exact ⟨by omega, E, F, by rw [take_snoc hx, filter_snoc, h35, if_neg (by simp), List.append_nil]; exact o9⟩
      · try dsimp only
        omega
  ·
    obtain rfl : k = (ancList ls (a : Int)).length := by omega
    rw [List.take_length] at o9
    have r9 : RInts w1 v9 (both2 ls (a : Int) (b : Int)) := o9.reads encInt_len
    obtain ⟨yA, yc, rfl, hy1, hy2⟩ := r9.form
    have G := Ext.refl w1
    have z1 := E.size
    refine St.exit ?_
    refine St.then_x ?_
    refine St.then_x ?_
    refine St.in_x ?_
    refine St.then_n ?_
    refine St.go hK4 ?_
    clear hK4
    refine St.seq fun K11 hK11 => ?_
    refine St.seq fun K12 hK12 => ?_
    refine St.region ?_
    refine St.r (R.assign rfl) rfl rfl ?_
    refine St.nil ?_
    refine St.weak [(0, _), (9, _), (10, _), (13, _)] ⟨rfl, rfl, rfl, rfl, trivial⟩ ?_
    refine St.then_n ?_
    refine St.go hK12 ?_
    clear hK12
    refine St.block ?_
    refine St.loop (fun (x : Nat × Value) => match x with | (i, v10) => [(0, v), (9, .slice yA (both2 ls (a : Int) (b : Int)).length yc), (10, v10), (13, .int .i64 (i : Int))])
        (fun (x : Nat × Value) w => match x with | (i, v10) => i ≤ (both2 ls (a : Int) (b : Int)).length ∧ Ext w0 w ∧ Ext w1 w ∧ Own encInt 1 w1.heap.size 3 w v10 (baseTo ls (both2 ls (a : Int) (b : Int)) i))
        (fun (x : Nat × Value) => match x with | (i, v10) => (both2 ls (a : Int) (b : Int)).length - i) (0, .slice none 0 0) ⟨rfl, rfl, rfl, rfl, trivial⟩ ?_ ?_
    · exact ⟨Nat.zero_le _, E, G, Own.nil _ _ _ _ _⟩
    rintro ⟨i, v10⟩ w2 ⟨hi, E, G, o10⟩
    show St _ _ [(0, v), (9, .slice yA (both2 ls (a : Int) (b : Int)).length yc), (10, v10), (13, .int .i64 (i : Int))] _ _
    refine St.seq fun K13 hK13 => ?_
    refine St.seq fun K14 hK14 => ?_
    refine St.region ?_
    refine St.r (R.move rfl) rfl rfl ?_
    refine St.r (R.move rfl) rfl rfl ?_
    refine St.r (R.lenSl Tryd.underlying30 rfl) rfl rfl ?_
    refine St.r (R.lss rfl rfl) rfl rfl ?_
    refine St.nil ?_
    refine St.weak [(0, _), (9, _), (10, _), (13, _), (46, _)] ⟨rfl, rfl, rfl, rfl, rfl, trivial⟩ ?_
    refine St.then_n ?_
    refine St.go hK14 ?_
    clear hK14
    refine St.condD rfl (fun h46 => ?_) (fun h46 => ?_)
    ·
      obtain ⟨x, hx⟩ := get_of_lt (xs := both2 ls (a : Int) (b : Int)) (k := i) (by omega)
      have hgx : (both2 ls (a : Int) (b : Int)).getD i 0 = x := by rw [List.getD_eq_getElem?_getD, hx]; rfl
      obtain ⟨xb, xo, rfl, hxc⟩ := r9.get' hx
      refine St.skip ?_
      refine St.then_n ?_
      refine St.go hK13 ?_
      clear hK13
      refine St.seq fun K15 hK15 => ?_
      refine St.block ?_
      refine St.seq fun K16 hK16 => ?_
      refine St.region ?_
      refine St.r (R.assign rfl) rfl rfl ?_
      refine St.nil ?_
      refine St.weak [(0, _), (9, _), (10, _), (13, _), (14, _)] ⟨rfl, rfl, rfl, rfl, rfl, trivial⟩ ?_
      refine St.then_n ?_
      refine St.go hK16 ?_
      clear hK16
      refine St.seq fun K17 hK17 => ?_
      refine St.seq fun K18 hK18 => ?_
      refine St.region ?_
      refine St.r (R.assign rfl) rfl rfl ?_
      refine St.nil ?_
      refine St.weak [(0, _), (9, _), (10, _), (13, _), (14, _), (15, _)] ⟨rfl, rfl, rfl, rfl, rfl, rfl, trivial⟩ ?_
      refine St.then_n ?_
      refine St.go hK18 ?_
      clear hK18
      refine St.block ?_
      refine St.loop (fun (k : Nat) => [(0, v), (9, .slice (some ⟨xb, xo, none⟩) (both2 ls (a : Int) (b : Int)).length yc), (10, v10), (13, .int .i64 (i : Int)), (14, .bool (below2 ls (both2 ls (a : Int) (b : Int)) i x k)), (15, .int .i64 (k : Int))])
          (fun (k : Nat) w => k ≤ (both2 ls (a : Int) (b : Int)).length ∧ Ext w0 w ∧ Ext w1 w ∧ Own encInt 1 w1.heap.size 3 w v10 (baseTo ls (both2 ls (a : Int) (b : Int)) i))
          (fun (k : Nat) => (both2 ls (a : Int) (b : Int)).length - k) 0 ⟨rfl, rfl, rfl, rfl, rfl, rfl, trivial⟩ ?_ ?_
      · exact ⟨Nat.zero_le _, E, G, o10⟩
      rintro k w4 ⟨hk, E, G, o10⟩
      show St _ _ [(0, v), (9, .slice (some ⟨xb, xo, none⟩) (both2 ls (a : Int) (b : Int)).length yc), (10, v10), (13, .int .i64 (i : Int)), (14, .bool (below2 ls (both2 ls (a : Int) (b : Int)) i x k)), (15, .int .i64 (k : Int))] _ _
      refine St.seq fun K19 hK19 => ?_
      refine St.seq fun K20 hK20 => ?_
      refine St.region ?_
      refine St.r (R.move rfl) rfl rfl ?_
      refine St.r (R.move rfl) rfl rfl ?_
      refine St.r (R.lenSl Tryd.underlying30 rfl) rfl rfl ?_
      refine St.r (R.lss rfl rfl) rfl rfl ?_
      refine St.nil ?_
      refine St.weak [(0, _), (9, _), (10, _), (13, _), (14, _), (15, _), (52, _)] ⟨rfl, rfl, rfl, rfl, rfl, rfl, rfl, trivial⟩ ?_
      refine St.then_n ?_
      refine St.go hK20 ?_
      clear hK20
      refine St.condD rfl (fun h52 => ?_) (fun h52 => ?_)
      ·
        obtain ⟨y, hy⟩ := get_of_lt (xs := both2 ls (a : Int) (b : Int)) (k := k) (by omega)
        have hgy : (both2 ls (a : Int) (b : Int)).getD k 0 = y := by rw [List.getD_eq_getElem?_getD, hy]; rfl
        have hyc := r9.get hy
        obtain ⟨hyr, yi, rfl, hyl⟩ := both2_ready hrd (List.mem_of_getElem? hy)
        refine St.skip ?_
        refine St.then_n ?_
        refine St.go hK19 ?_
        clear hK19
        refine St.seq fun K21 hK21 => ?_
        refine St.block ?_
        refine St.seq fun K22 hK22 => ?_
        refine St.weak [(0, _), (9, _), (10, _), (13, _), (14, _), (15, _)] ⟨rfl, rfl, rfl, rfl, rfl, rfl, trivial⟩ ?_
        refine St.drawT (S := fun _ => False) (eff := [5, 10]) mixed rfl rfl rfl rfl ?_
        replace E := Ext.trans E (Ext.drew _)
        replace G := Ext.trans G (Ext.drew _)
        replace o10 := o10.ext (Ext.drew _)
        refine DrawT.quiet 0 rfl rfl (fun W eW => OpOk.r (R.move rfl) rfl) ?_
        refine DrawT.quiet 1 rfl rfl (fun W eW => OpOk.r (R.move rfl) rfl) ?_
        refine DrawT.quiet 2 rfl rfl (fun W eW => OpOk.r (R.move rfl) rfl) ?_
        refine DrawT.quiet 3 rfl rfl (fun W eW => OpOk.r (R.indexS k Tryd.underlying30 Tryd.sizeOf3 rfl rfl rfl (by omega)) rfl) ?_
        refine DrawT.quiet 4 rfl rfl (fun W eW => OpOk.r (R.load1 Tryd.isAgg3 rfl (((Ext.trans G eW).cells hyc).at 0 rfl)) rfl) ?_
        refine DrawT.quiet 6 rfl rfl (fun W eW => OpOk.r (R.move rfl) rfl) ?_
        refine DrawT.quiet 7 rfl rfl (fun W eW => OpOk.r (R.move rfl) rfl) ?_
        refine DrawT.quiet 8 rfl rfl (fun W eW => OpOk.r (R.indexS i Tryd.underlying30 Tryd.sizeOf3 rfl rfl rfl (by omega)) rfl) ?_
        refine DrawT.quiet 9 rfl rfl (fun W eW => OpOk.r (R.load1 Tryd.isAgg3 rfl (((Ext.trans G eW).cells hxc).at 0 rfl)) rfl) ?_
        refine DrawT.one (n := 5) rfl rfl rfl rfl (OpC.plain (Eff.call rfl rfl ent9 (rAnc_ret _ (hv.ext RCommit.firm E) hyr)) rfl) ?_ ?_
        · rintro r60 w60 ⟨o60, e60⟩
          exact e60
        rintro r60 w60 ⟨o60, e60⟩
        replace E := Ext.trans E e60
        replace G := Ext.trans G e60
        replace o10 := o10.ext e60
        refine DrawT.one (n := 10) rfl rfl rfl rfl (OpC.plain (Eff.call rfl rfl ent14 (In_ret _ (o60.reads encInt_len))) rfl) ?_ ?_
        · rintro r65 w65 ⟨rfl, e65⟩
          exact e65
        rintro r65 w65 ⟨rfl, e65⟩
        replace E := Ext.trans E e65
        replace G := Ext.trans G e65
        replace o10 := o10.ext e65
        replace o60 := o60.ext e65
        refine DrawT.quiet 11 rfl rfl (fun W eW => OpOk.r (R.assign rfl) rfl) ?_
        refine DrawT.fin rfl ?_
        show St _ _ _ _ _
        refine St.weak [(0, _), (9, _), (10, _), (13, _), (14, _), (15, _), (16, _)] ⟨rfl, rfl, rfl, rfl, rfl, rfl, rfl, trivial⟩ ?_
        refine St.then_n ?_
        refine St.go hK22 ?_
        clear hK22
        rcases Bool.eq_false_or_eq_true (below2 ls (both2 ls (a : Int) (b : Int)) i x k) with hbl | hbl
        ·
          have hnext : true = below2 ls (both2 ls (a : Int) (b : Int)) i x (k + 1) := by rw [below2_succ, hbl]; rfl
          refine St.region ?_
          refine St.r (Runs.lit (c := true) (R.move rfl) (hbl)) rfl rfl ?_
          refine St.r (R.move rfl) rfl rfl ?_
          refine St.pass (dg := 67) rfl rfl rfl rfl rfl ?_
          refine St.pass (dg := 67) rfl rfl rfl rfl rfl ?_
          refine St.pass (dg := 67) rfl rfl rfl rfl rfl ?_
          refine St.pass (dg := 67) rfl rfl rfl rfl rfl ?_
          refine St.passU (dg := 71) rfl rfl rfl rfl ?_
          refine St.pass (dg := 67) rfl rfl rfl rfl rfl ?_
          refine St.r (R.pickT rfl rfl) rfl rfl ?_
          refine St.r (R.assign rfl) rfl rfl ?_
          refine St.nil ?_
          refine St.weak [(0, _), (9, _), (10, _), (13, _), (14, _), (15, _)] ⟨rfl, rfl, rfl, rfl, rfl, rfl, trivial⟩ ?_
          refine St.in_n ?_
          refine St.then_n ?_
          refine St.go hK21 ?_
          clear hK21
          refine St.region ?_
          refine St.r (R.move rfl) rfl rfl ?_
          refine St.r (R.add rfl rfl (by omega) (by omega)) rfl rfl ?_
          refine St.r (R.assign rfl) rfl rfl ?_
          refine St.nil ?_
          refine St.weak [(0, _), (9, _), (10, _), (13, _), (14, _), (15, _)] ⟨rfl, rfl, rfl, rfl, rfl, rfl, trivial⟩ ?_
          refine St.then_n ?_
          refine St.round (k + 1) ⟨rfl, rfl, rfl, rfl, (look_eq rfl (congrArg Value.bool hnext)), rfl, trivial⟩ ?_ ?_
          · exact ⟨by omega, E, G, o10⟩
          · omega
        ·
          by_cases hki : (k : Int) ≠ (i : Int)
          ·
            have hnext : ((ancList ls (yi : Int)).any fun z => decide (z = x)) = below2 ls (both2 ls (a : Int) (b : Int)) i x (k + 1) := by rw [below2_succ, hbl, decide_eq_true hki, hgy]; rfl
            refine St.region ?_
            refine St.r (Runs.lit (c := false) (R.move rfl) (hbl)) rfl rfl ?_
            refine St.r (R.move rfl) rfl rfl ?_
            refine St.take (dg := 67) rfl rfl ?_ rfl
            refine St.r (R.move rfl) rfl rfl ?_
            refine St.take (dg := 67) rfl rfl ?_ rfl
            refine St.r (R.move rfl) rfl rfl ?_
            refine St.take (dg := 67) rfl rfl ?_ rfl
            refine St.r (Runs.lit (c := true) (R.neq rfl rfl) (decide_eq_true hki)) rfl rfl ?_
            refine St.take (dg := 67) rfl rfl ?_ rfl
            refine St.r (R.move rfl) rfl rfl ?_
            refine St.take (dg := 71) rfl rfl ?_ rfl
            refine St.r (R.move rfl) rfl rfl ?_
            refine St.take (dg := 67) rfl rfl ?_ rfl
            refine St.r (R.pickT rfl rfl) rfl rfl ?_
            refine St.r (R.pickF rfl rfl) rfl rfl ?_
            refine St.r (R.assign rfl) rfl rfl ?_
            refine St.nil ?_
            refine St.weak [(0, _), (9, _), (10, _), (13, _), (14, _), (15, _)] ⟨rfl, rfl, rfl, rfl, rfl, rfl, trivial⟩ ?_
            refine St.in_n ?_
            refine St.then_n ?_
            refine St.go hK21 ?_
            clear hK21
            refine St.region ?_
            refine St.r (R.move rfl) rfl rfl ?_
            refine St.r (R.add rfl rfl (by omega) (by omega)) rfl rfl ?_
            refine St.r (R.assign rfl) rfl rfl ?_
            refine St.nil ?_
            refine St.weak [(0, _), (9, _), (10, _), (13, _), (14, _), (15, _)] ⟨rfl, rfl, rfl, rfl, rfl, rfl, trivial⟩ ?_
            refine St.then_n ?_
            refine St.round (k + 1) ⟨rfl, rfl, rfl, rfl, (look_eq rfl (congrArg Value.bool hnext)), rfl, trivial⟩ ?_ ?_
            · exact ⟨by omega, E, G, o10⟩
            · omega
          ·
            have hnext : false = below2 ls (both2 ls (a : Int) (b : Int)) i x (k + 1) := by rw [below2_succ, hbl, decide_eq_false hki]; rfl
            refine St.region ?_
            refine St.r (Runs.lit (c := false) (R.move rfl) (hbl)) rfl rfl ?_
            refine St.r (R.move rfl) rfl rfl ?_
            refine St.take (dg := 67) rfl rfl ?_ rfl
            refine St.r (R.move rfl) rfl rfl ?_
            refine St.take (dg := 67) rfl rfl ?_ rfl
            refine St.r (R.move rfl) rfl rfl ?_
            refine St.take (dg := 67) rfl rfl ?_ rfl
            refine St.r (Runs.lit (c := false) (R.neq rfl rfl) (decide_eq_false hki)) rfl rfl ?_
            refine St.take (dg := 67) rfl rfl ?_ rfl
            refine St.r (R.move rfl) rfl rfl ?_
            refine St.pass (dg := 71) rfl rfl rfl rfl rfl ?_
            refine St.take (dg := 67) rfl rfl ?_ rfl
            refine St.r (R.pickF rfl rfl) rfl rfl ?_
            refine St.r (R.pickF rfl rfl) rfl rfl ?_
            refine St.r (R.assign rfl) rfl rfl ?_
            refine St.nil ?_
            refine St.weak [(0, _), (9, _), (10, _), (13, _), (14, _), (15, _)] ⟨rfl, rfl, rfl, rfl, rfl, rfl, trivial⟩ ?_
            refine St.in_n ?_
            refine St.then_n ?_
            refine St.go hK21 ?_
            clear hK21
            refine St.region ?_
            refine St.r (R.move rfl) rfl rfl ?_
            refine St.r (R.add rfl rfl (by omega) (by omega)) rfl rfl ?_
            refine St.r (R.assign rfl) rfl rfl ?_
            refine St.nil ?_
            refine St.weak [(0, _), (9, _), (10, _), (13, _), (14, _), (15, _)] ⟨rfl, rfl, rfl, rfl, rfl, rfl, trivial⟩ ?_
            refine St.then_n ?_
            refine St.round (k + 1) ⟨rfl, rfl, rfl, rfl, (look_eq rfl (congrArg Value.bool hnext)), rfl, trivial⟩ ?_ ?_
            · exact ⟨by omega, E, G, o10⟩
            · omega
      ·
        obtain rfl : k = (both2 ls (a : Int) (b : Int)).length := by omega
        refine St.exit ?_
        refine St.then_x ?_
        refine St.then_x ?_
        refine St.in_x ?_
        refine St.then_n ?_
        refine St.go hK17 ?_
        clear hK17
        refine St.seq fun K23 hK23 => ?_
        refine St.region ?_
        refine St.r (R.move rfl) rfl rfl ?_
        refine St.r (R.not rfl) rfl rfl ?_
        refine St.nil ?_
        refine St.weak [(0, _), (9, _), (10, _), (13, _), (76, _)] ⟨rfl, rfl, rfl, rfl, rfl, trivial⟩ ?_
        refine St.then_n ?_
        refine St.go hK23 ?_
        clear hK23
        refine St.cond rfl (fun h76 => ?_) (fun h76 => ?_)
        ·
          refine St.region ?_
          refine St.r (R.move rfl) rfl rfl ?_
          refine St.r (R.move rfl) rfl rfl ?_
          refine St.r (R.move rfl) rfl rfl ?_
          refine St.r (R.indexS i Tryd.underlying30 Tryd.sizeOf3 rfl rfl rfl (by omega)) rfl rfl ?_
          refine St.r (R.load1 Tryd.isAgg3 rfl ((G.cells hxc).at 0 rfl)) rfl rfl ?_
          refine St.buildSl Tryd.underlying30 Tryd.sizeOf3 Tryd.zeroValue3 rfl rfl rfl rfl (by intro u hu; simp only [List.mem_cons, List.not_mem_nil, or_false] at hu; first | (subst hu; rfl) | (rcases hu with rfl | rfl <;> rfl) | (rcases hu with rfl | rfl | rfl <;> rfl) | (rcases hu with rfl | rfl | rfl | rfl <;> rfl)) rfl ?_
          intro w82 b82 hb82 hs82 e82 k82
          have qE82 := E.size
          have qG82 := G.size
          replace E := Ext.trans E e82
          replace G := Ext.trans G e82
          replace o10 := o10.ext e82
          refine St.append (enc := encInt) (fun _ => rfl) one_int Tryd.underlying30 info3 rfl rfl rfl rfl o10 (RSl.mk (enc := encInt) (xs := [x]) encInt_len k82.cells (fun i u hu => hu) (by simp) (by simp)) (by have h1 := baseTo_length ls (both2 ls (a : Int) (b : Int)) i; have h2 := both2_length (ls := ls) (a : Int) (b : Int); simp; omega) (by have h1 := baseTo_length ls (both2 ls (a : Int) (b : Int)) i; have h2 := both2_length (ls := ls) (a : Int) (b : Int); simp; omega) G.size rfl ?_
          intro v83 w83 a83 g83 at83
          replace E := Ext.then E g83 (by intro j hj hk; have := (o10.base hk).1; omega)
          replace G := Ext.then G g83 (by intro j hj hk; have := (o10.base hk).1; omega)
          clear o10; have o10 := a83; clear a83
          refine St.r (R.assign rfl) rfl rfl ?_
          refine St.nil ?_
          refine St.weak [(0, _), (9, _), (10, _), (13, _)] ⟨rfl, rfl, rfl, rfl, trivial⟩ ?_
          refine St.in_n ?_
          refine St.then_n ?_
          refine St.go hK15 ?_
          clear hK15
          refine St.region ?_
          refine St.r (R.move rfl) rfl rfl ?_
          refine St.r (R.add rfl rfl (by omega) (by omega)) rfl rfl ?_
          refine St.r (R.assign rfl) rfl rfl ?_
          refine St.nil ?_
          refine St.weak [(0, _), (9, _), (10, _), (13, _)] ⟨rfl, rfl, rfl, rfl, trivial⟩ ?_
          refine St.then_n ?_
          refine St.round (i + 1, v83) ⟨rfl, rfl, rfl, rfl, trivial⟩ ?_ ?_
          · try dsimp only
            exact ⟨by omega, E, G, by rw [baseTo_succ, hgx, if_neg (by intro hc; rw [hc] at h76; cases h76)]; exact o10⟩
          · try dsimp only
            omega
        ·
          refine St.skip ?_
          refine St.in_n ?_
          refine St.then_n ?_
          refine St.go hK15 ?_
          clear hK15
          refine St.region ?_
          refine St.r (R.move rfl) rfl rfl ?_
          refine St.r (R.add rfl rfl (by omega) (by omega)) rfl rfl ?_
          refine St.r (R.assign rfl) rfl rfl ?_
          refine St.nil ?_
          refine St.weak [(0, _), (9, _), (10, _), (13, _)] ⟨rfl, rfl, rfl, rfl, trivial⟩ ?_
          refine St.then_n ?_
          refine St.round (i + 1, v10) ⟨rfl, rfl, rfl, rfl, trivial⟩ ?_ ?_
          · try dsimp only
            exact ⟨by omega, E, G, by rw [baseTo_succ, hgx, if_pos (by cases hc : below2 ls (both2 ls (a : Int) (b : Int)) i x (both2 ls (a : Int) (b : Int)).length <;> simp [hc] at h76 ⊢), List.append_nil]; exact o10⟩
          · try dsimp only
            omega
    ·
      obtain rfl : i = (both2 ls (a : Int) (b : Int)).length := by omega
      refine St.exit ?_
      refine St.then_x ?_
      refine St.then_x ?_
      refine St.in_x ?_
      refine St.then_n ?_
      refine St.go hK11 ?_
      clear hK11
      refine St.seq fun K24 hK24 => ?_
      refine St.region ?_
      refine St.r (R.move rfl) rfl rfl ?_
      refine St.r (R.assign rfl) rfl rfl ?_
      refine St.nil ?_
      refine St.weak [(6, _)] ⟨rfl, trivial⟩ ?_
      refine St.then_n ?_
      refine St.go hK24 ?_
      clear hK24
      refine St.ret ?_
      refine St.ret1 Tryd.results13 rfl ?_
      exact ⟨_, rfl, by rw [← baseTo_all hrd]; exact o10.reads encInt_len, E⟩

end Go.Proofs.YtjgcmpondbocfaaDoor

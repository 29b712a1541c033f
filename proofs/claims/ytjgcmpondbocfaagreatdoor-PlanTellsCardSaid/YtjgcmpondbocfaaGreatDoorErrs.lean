/- errors.As at an error that is none or an Errno; what plain.Told and stratasame.Error come to. Under: the variable errors.errorType holds the handle of the type error. -/
import Derived.Test.YtjgcmpondbocfaaGreatDoorProg
import Derived.Test.YtjgcmpondbocfaaGreatDoorDagW
import Derived.WalkKit
import Derived.LaidEql
import Derived.Stop.Asserts
import Derived.RowKitTokens
namespace Go.Proofs.YtjgcmpondbocfaaGreatDoor
open Go.RowKit Go.Extern.Stop Go.Stop Go.Extern
theorem ent66 : Ent Tryz.prog 66 := Ent.of Tryz.func66 (by kernel_rfl) rfl
theorem ent136 : Ent Tryz.prog 136 := Ent.of Tryz.func136 (by kernel_rfl) rfl

/-- The variable that errors.As reads. -/
def ErrType (W : World) : Prop := W.cell? ⟨0, 0, none⟩ = some (.iface 307 (.agg #[.pointer (some ⟨7, 32, none⟩)]))
theorem valueOfP (t : Addr) (w : World) : (ReflectliteValue.unpack (.iface 207 (.pointer (some t)))).run Tryz.prog w
    = .ok (.agg #[.pointer (some ⟨7, 207, none⟩), .pointer (some ⟨w.heap.size, 0, none⟩), .int .u64 150]) (w.alloc (.cells #[.pointer (some t)] 207)) := by kernel_rfl
theorem typeP (a : Addr) (w : World) : (ReflectliteValue.methodAny (ReflectliteValue.valueError "reflectlite.Value.Type" 0) (fun t _ _ _ => ReflectliteType.toType t) #[.agg #[.pointer (some ⟨7, 207, none⟩), .pointer (some a), .int .u64 150]]).run Tryz.prog w
    = .ok (.iface 307 (.agg #[.pointer (some ⟨7, 207, none⟩)])) w := by kernel_rfl
theorem methodKind (h : Value) (w : World) : (Go.method 510 307 (.agg #[h]) "Kind").run Tryz.prog w = .ok (318, h) w := by kernel_rfl
theorem kindP (w : World) : ((ReflectliteType.abiMethod fun t => (fun a : Nat => Value.int IntKind.u8 (a : Int)) <$> Rtype.kind t) #[.pointer (some ⟨7, 207, none⟩)]).run Tryz.prog w = .ok (.int .u8 22) w := by kernel_rfl
theorem kindE (w : World) : ((ReflectliteType.abiMethod fun t => (fun a : Nat => Value.int IntKind.u8 (a : Int)) <$> Rtype.kind t) #[.pointer (some ⟨7, 119, none⟩)]).run Tryz.prog w = .ok (.int .u8 2) w := by kernel_rfl
theorem rlm (z : Sem Value) (f : TypeId → Addr → Nat → Nat → Sem Value) (v : Value) :
    ReflectliteValue.method z f #[v] = (do match ← ReflectliteValue.parts v with | none => z | some (t, a, fl) => f t a fl (fl % 32)) := rfl
theorem partsP (a : Addr) (w : World) : (ReflectliteValue.parts (.agg #[.pointer (some ⟨7, 207, none⟩), .pointer (some a), .int .u64 150])).run Tryz.prog w = .ok (some (207, a, 150)) w := by kernel_rfl
theorem isNilP (a p : Addr) (W : World) (ha : W.cell? a = some (.pointer (some p))) :
    (ReflectliteValue.method (ReflectliteValue.valueError "reflectlite.Value.IsNil" 0) ReflectliteValue.isNil #[.agg #[.pointer (some ⟨7, 207, none⟩), .pointer (some a), .int .u64 150]]).run Tryz.prog W = .ok (.bool false) W := by
  rw [rlm]
  simp only [Sem.run_bind, partsP, Result.andThen]
  simp [ReflectliteValue.isNil, loadVar, isAgg, underlying, Tryz.underlying207, ha, Result.andThen]
theorem methodElem (h : Value) (w : World) : (Go.method 510 307 (.agg #[h]) "Elem").run Tryz.prog w = .ok (331, .agg #[h]) w := by kernel_rfl
theorem methodImplements (h : Value) (w : World) : (Go.method 510 307 (.agg #[h]) "Implements").run Tryz.prog w = .ok (332, .agg #[h]) w := by kernel_rfl
theorem methodAssignableTo (h : Value) (w : World) : (Go.method 510 307 (.agg #[h]) "AssignableTo").run Tryz.prog w = .ok (329, .agg #[h]) w := by kernel_rfl
theorem elemP (w : World) : (ReflectliteType.method ReflectliteType.elem #[.agg #[.pointer (some ⟨7, 207, none⟩)]]).run Tryz.prog w = .ok (.iface 307 (.agg #[.pointer (some ⟨7, 119, none⟩)])) w := by kernel_rfl
theorem implementsE (w : World) : (ReflectliteType.relation "Implements" ReflectliteType.implements_ #[.agg #[.pointer (some ⟨7, 119, none⟩)], .iface 307 (.agg #[.pointer (some ⟨7, 32, none⟩)])]).run Tryz.prog w = .ok (.bool true) w := by kernel_rfl
theorem typeOfE (v : Value) (w : World) : (ReflectliteType.typeOf #[.iface 119 v]).run Tryz.prog w = .ok (.iface 307 (.agg #[.pointer (some ⟨7, 119, none⟩)])) w := by kernel_rfl
theorem assignableE (w : World) : (ReflectliteType.relation "AssignableTo" ReflectliteType.assignableTo #[.agg #[.pointer (some ⟨7, 119, none⟩)], .iface 307 (.agg #[.pointer (some ⟨7, 119, none⟩)])]).run Tryz.prog w = .ok (.bool true) w := by kernel_rfl
theorem valueOfE (e : Int) (w : World) : (ReflectliteValue.unpack (.iface 119 (.int .i64 e))).run Tryz.prog w
    = .ok (.agg #[.pointer (some ⟨7, 119, none⟩), .pointer (some ⟨w.heap.size, 0, none⟩), .int .u64 130]) (w.alloc (.cells #[.int .i64 e] 119)) := by kernel_rfl
theorem elemOfP (w : World) : (Rtype.elem? 207).run Tryz.prog w = .ok (some 119) w := by kernel_rfl
theorem mkE (p : Addr) (w : World) : (ReflectliteValue.mk 119 p ReflectliteValue.flagAddr).run Tryz.prog w = .ok (.agg #[.pointer (some ⟨7, 119, none⟩), .pointer (some p), .int .u64 386]) w := by kernel_rfl
theorem elemVP (a p : Addr) (W : World) (ha : W.cell? a = some (.pointer (some p))) :
    (ReflectliteValue.method (ReflectliteValue.valueError "reflectlite.Value.Elem" 0) ReflectliteValue.elem #[.agg #[.pointer (some ⟨7, 207, none⟩), .pointer (some a), .int .u64 150]]).run Tryz.prog W
      = .ok (.agg #[.pointer (some ⟨7, 119, none⟩), .pointer (some p), .int .u64 386]) W := by
  rw [rlm]
  simp only [Sem.run_bind, partsP, Result.andThen]
  simp [ReflectliteValue.elem, loadVar, isAgg, underlying, Tryz.underlying207, ha, Result.andThen, elemOfP, mkE]
theorem rls (v x : Value) : ReflectliteValue.set #[v, x] = (do
    let (some (dst, a, fl), some (src, b, _)) := (← ReflectliteValue.parts v, ← ReflectliteValue.parts x)
      | unsupported (.noEntry "extern/(internal/reflectlite.Value).Set.zeroValue")
    if fl / ReflectliteValue.flagAddr % 2 == 0 then unsupported (.noEntry "extern/(internal/reflectlite.Value).Set.unaddressable")
    let val ← loadVar src b
    if ← Rtype.directlyAssignable dst src then storeVar dst a val
    else if ← Rtype.implements dst src then
      if (← Rtype.kind src) == 20 then
        match val with
        | .nilIface => unsupported (.noEntry "extern/reflectlite: a nil value of one interface type handed on as a value of another")
        | _ => storeVar dst a val
      else storeVar dst a (.iface src val)
    else panicString ("reflectlite.Set: value of type " ++ (← Rtype.spelt src) ++ " is not assignable to type " ++ (← Rtype.spelt dst))
    pure (.tuple #[])) := rfl
theorem partsEa (a : Addr) (w : World) : (ReflectliteValue.parts (.agg #[.pointer (some ⟨7, 119, none⟩), .pointer (some a), .int .u64 386])).run Tryz.prog w = .ok (some (119, a, 386)) w := by kernel_rfl
theorem partsE (a : Addr) (w : World) : (ReflectliteValue.parts (.agg #[.pointer (some ⟨7, 119, none⟩), .pointer (some a), .int .u64 130])).run Tryz.prog w = .ok (some (119, a, 130)) w := by kernel_rfl
theorem directE (w : World) : (Rtype.directlyAssignable 119 119).run Tryz.prog w = .ok true w := by kernel_rfl
theorem setE (ta b : Addr) (e : Int) (old : Value) (W : World) (hb : W.cell? b = some (.int .i64 e)) (ht : W.cell? ta = some old) (hf : W.frozen? ta = false) :
    (ReflectliteValue.set #[.agg #[.pointer (some ⟨7, 119, none⟩), .pointer (some ta), .int .u64 386], .agg #[.pointer (some ⟨7, 119, none⟩), .pointer (some b), .int .u64 130]]).run Tryz.prog W
      = .ok (.tuple #[]) (W.setCell ta (.int .i64 e)) := by
  rw [rls]
  simp only [Sem.run_bind, partsEa, partsE, Result.andThen]
  simp [ReflectliteValue.flagAddr, loadVar, isAgg, underlying, Tryz.underlying119, hb, Result.andThen, directE, storeVar, Value.cells, storeCells, Addr.add]
  rw [run_store Tryz.prog W ta _ _ (by rfl)]
  simp [ht, hf]

set_option maxHeartbeats 4000000 in
theorem As_hit (e : Int) (t : Addr) (old : Value) (w : World) (hg : ErrType w) (ht0 : w.cell? t = some old) (hf0 : w.frozen? t = false) :
    Calls Tryz.prog 136 #[.iface 119 (.int .i64 e), .iface 207 (.pointer (some t))] w fun ev w' => ev = .returned (.bool true) ∧ w' = ((((w.alloc (.cells #[.pointer (some t)] 207)).alloc (.cells #[.pointer (some ⟨7, 207, none⟩), .pointer (some ⟨w.heap.size, 0, none⟩), .int .u64 150] 263)).alloc (.cells #[.pointer (some ⟨7, 207, none⟩), .pointer (some ⟨w.heap.size, 0, none⟩), .int .u64 150] 263)).alloc (.cells #[.int .i64 e] 119)).setCell t (.int .i64 e) := by
  have h6 := @run_callFunc_extern Tryz.prog 181 _ (fun args => ReflectliteValue.unpack (args.getD 0 (.tuple #[]))) Tryz.func181 (by kernel_rfl) (by kernel_rfl) (by kernel_rfl) (by kernel_rfl)
  have h7 := @run_callFunc_extern Tryz.prog 182 _ (ReflectliteValue.methodAny (ReflectliteValue.valueError "reflectlite.Value.Type" 0) (fun t _ _ _ => ReflectliteType.toType t)) Tryz.func182 (by kernel_rfl) (by kernel_rfl) (by kernel_rfl) (by kernel_rfl)
  have h8 := @run_callFunc_extern Tryz.prog 183 _ (ReflectliteValue.method (ReflectliteValue.valueError "reflectlite.Value.IsNil" 0) ReflectliteValue.isNil) Tryz.func183 (by kernel_rfl) (by kernel_rfl) (by kernel_rfl) (by kernel_rfl)
  have h27 := @run_callFunc_extern Tryz.prog 318 _ (ReflectliteType.abiMethod fun t => do pure (.int .u8 (← Rtype.kind t))) Tryz.func318 (by kernel_rfl) (by kernel_rfl) (by kernel_rfl) (by kernel_rfl)
  have h37 := @run_callFunc_extern Tryz.prog 331 _ (ReflectliteType.method ReflectliteType.elem) Tryz.func331 (by kernel_rfl) (by kernel_rfl) (by kernel_rfl) (by kernel_rfl)
  have h38 := @run_callFunc_extern Tryz.prog 332 _ (ReflectliteType.relation "Implements" ReflectliteType.implements_) Tryz.func332 (by kernel_rfl) (by kernel_rfl) (by kernel_rfl) (by kernel_rfl)
  have h10 := @run_callFunc_extern Tryz.prog 230 _ ReflectliteType.typeOf Tryz.func230 (by kernel_rfl) (by kernel_rfl) (by kernel_rfl) (by kernel_rfl)
  have h35 := @run_callFunc_extern Tryz.prog 329 _ (ReflectliteType.relation "AssignableTo" ReflectliteType.assignableTo) Tryz.func329 (by kernel_rfl) (by kernel_rfl) (by kernel_rfl) (by kernel_rfl)
  have h11 := @run_callFunc_extern Tryz.prog 231 _ (ReflectliteValue.method (ReflectliteValue.valueError "reflectlite.Value.Elem" 0) ReflectliteValue.elem) Tryz.func231 (by kernel_rfl) (by kernel_rfl) (by kernel_rfl) (by kernel_rfl)
  have h12 := @run_callFunc_extern Tryz.prog 232 _ ReflectliteValue.set Tryz.func232 (by kernel_rfl) (by kernel_rfl) (by kernel_rfl) (by kernel_rfl)
  have tO := typeOfE
  have mA := methodAssignableTo
  have a25 := assignableE
  have v25 := valueOfE
  have f6 := valueOfP
  have f7 := typeP
  have mK := methodKind
  have mE := methodElem
  have mI := methodImplements
  have k27 := kindP
  have k25 := kindE
  have e27 := elemP
  have i25 := implementsE
  have n8 := isNilP ⟨w.heap.size, 0, none⟩ t ((w.alloc (.cells #[.pointer (some t)] 207)).alloc (.cells #[.pointer (some ⟨7, 207, none⟩), .pointer (some ⟨w.heap.size, 0, none⟩), .int .u64 150] 263)) (by simp)
  unfold ErrType at hg
  have hlt : 0 < w.heap.size := World.block_lt_of_cell? w _ hg
  have hg2 : ((w.alloc (.cells #[.pointer (some t)] 207)).alloc (.cells #[.pointer (some ⟨7, 207, none⟩), .pointer (some ⟨w.heap.size, 0, none⟩), .int .u64 150] 263)).cell? ⟨0, 0, none⟩ = some (.iface 307 (.agg #[.pointer (some ⟨7, 32, none⟩)])) := by
    rw [World.cell?_alloc_lt _ _ ⟨0, 0, none⟩ (by simp <;> omega), World.cell?_alloc_lt _ _ ⟨0, 0, none⟩ hlt]; exact hg
  have htl : t.block < w.heap.size := World.block_lt_of_cell? w _ ht0
  have el := elemVP ⟨w.heap.size, 0, none⟩ t (((w.alloc (.cells #[.pointer (some t)] 207)).alloc (.cells #[.pointer (some ⟨7, 207, none⟩), .pointer (some ⟨w.heap.size, 0, none⟩), .int .u64 150] 263)).alloc (.cells #[.pointer (some ⟨7, 207, none⟩), .pointer (some ⟨w.heap.size, 0, none⟩), .int .u64 150] 263)) (by rw [World.cell?_alloc_lt _ _ ⟨w.heap.size, 0, none⟩ (by simp; omega)]; simp)
  have st := setE t ⟨w.heap.size + 1 + 1 + 1, 0, none⟩ e old ((((w.alloc (.cells #[.pointer (some t)] 207)).alloc (.cells #[.pointer (some ⟨7, 207, none⟩), .pointer (some ⟨w.heap.size, 0, none⟩), .int .u64 150] 263)).alloc (.cells #[.pointer (some ⟨7, 207, none⟩), .pointer (some ⟨w.heap.size, 0, none⟩), .int .u64 150] 263)).alloc (.cells #[.int .i64 e] 119))
    (by rw [World.cell?_alloc_at _ _ _ _ (by simp)]; rfl)
    (by rw [World.cell?_alloc_lt _ _ t (by simp; omega), World.cell?_alloc_lt _ _ t (by simp; omega), World.cell?_alloc_lt _ _ t (by simp; omega), World.cell?_alloc_lt _ _ t htl]; exact ht0)
    (by rw [World.frozen?_alloc_old _ _ t (by simp; omega), World.frozen?_alloc_old _ _ t (by simp; omega), World.frozen?_alloc_old _ _ t (by simp; omega), World.frozen?_alloc_old _ _ t (Nat.ne_of_lt htl)]; exact hf0)
  go_enter Tryz.func136, Tryz.ntmps136
  go_wp2
  refine wp_loop_rounds 1 ?_
  rw [rounds_succ]
  go_wp2
  go_ret
  exact ⟨rfl, rfl⟩
theorem ErrType.ext {w w' : World} (e : Ext w w') (h : ErrType w) : ErrType w' := e.cell h
theorem As_ret {e n0 : Int} {b : Nat} {w0 : World} (hg : ErrType w0) (hb : Blk w0 b 119 [.int .i64 n0]) :
    Ret Tryz.prog 136 [.iface 119 (.int .i64 e), .iface 207 (.pointer (some ⟨b, 0, none⟩))] w0 fun r w' => r = .bool true ∧ Blk w' b 119 [.int .i64 e] ∧ Chg (fun k => k = b) w0 w' := by
  refine Calls.mono (As_hit e ⟨b, 0, none⟩ (.int .i64 n0) w0 hg (hb.cell 0 rfl) (hb.frozen 0)) fun ev w' ⟨h1, h2⟩ => ?_
  subst h1 h2
  have hE := (((Ext.alloc w0 (.cells #[.pointer (some ⟨b, 0, none⟩)] 207)).trans (Ext.alloc _ (.cells #[.pointer (some ⟨7, 207, none⟩), .pointer (some ⟨w0.heap.size, 0, none⟩), .int .u64 150] 263))).trans (Ext.alloc _ (.cells #[.pointer (some ⟨7, 207, none⟩), .pointer (some ⟨w0.heap.size, 0, none⟩), .int .u64 150] 263))).trans (Ext.alloc _ (.cells #[.int .i64 e] 119))
  exact ⟨_, rfl, rfl, (hb.ext hE).setCell 0 _, (Chg.mono hE fun _ _ h => h.elim).trans (Chg.setCell _ b 0 _)⟩

theorem Told_ret {o : Option Int} (w0 : World) (hg : ErrType w0) : Ret Tryz.prog 66 [errV 119 o] w0 fun r w' => r = .int .i64 (o.getD 0) ∧ Ext w0 w' := by
  have E : Ext w0 w0 := Ext.refl w0
  refine St.enter (N := 10) Tryz.func66 rfl Tryz.ntmps66 rfl ?_
  refine St.seq fun K0 hK0 => ?_
  refine St.region ?_
  refine St.r (R.assign rfl) rfl rfl ?_
  refine St.nil ?_
  refine St.weak [(0, _)] ⟨rfl, trivial⟩ ?_
  refine St.then_n ?_
  refine St.go hK0 ?_
  clear hK0
  refine St.seq fun K1 hK1 => ?_
  refine St.seq fun K2 hK2 => ?_
  refine St.region ?_
  refine St.r (R.move rfl) rfl rfl ?_
  refine St.r (R.isNil (et := 119) (e := _) Tryz.underlying32 rfl) rfl rfl ?_
  refine St.nil ?_
  refine St.weak [(0, _), (5, _)] ⟨rfl, rfl, trivial⟩ ?_
  refine St.then_n ?_
  refine St.go hK2 ?_
  clear hK2
  refine St.cond rfl (fun h5 => ?_) (fun h5 => ?_)
  ·
    obtain rfl : o = none := by cases o <;> simp at h5 ⊢
    refine St.seq fun K3 hK3 => ?_
    refine St.region ?_
    refine St.r (R.assign rfl) rfl rfl ?_
    refine St.nil ?_
    refine St.weak [(2, _)] ⟨rfl, trivial⟩ ?_
    refine St.then_n ?_
    refine St.go hK3 ?_
    clear hK3
    refine St.ret ?_
    refine St.then_r ?_
    refine St.ret1 Tryz.results66 rfl ?_
    exact ⟨_, rfl, rfl, E⟩
  ·
    obtain ⟨n, rfl⟩ : ∃ n, o = some n := by cases o <;> simp at h5 ⊢
    refine St.skip ?_
    refine St.then_n ?_
    refine St.go hK1 ?_
    clear hK1
    refine St.seq fun K4 hK4 => ?_
    refine St.region ?_
    refine St.alloc Tryz.zeroValue119 rfl ?_
    intro w3 b3 hb3 hs3 e3 k3
    have qE3 := E.size
    replace E := Ext.trans E e3
    refine St.nil ?_
    refine St.weak [(0, _), (3, _)] ⟨rfl, rfl, trivial⟩ ?_
    refine St.then_n ?_
    refine St.go hK4 ?_
    clear hK4
    refine St.seq fun K5 hK5 => ?_
    refine St.seq fun K6 hK6 => ?_
    refine St.region ?_
    refine St.r (R.move rfl) rfl rfl ?_
    refine St.r (R.iface Tryz.underlying207 rfl rfl) rfl rfl ?_
    refine St.call rfl rfl ent136 (As_ret (hg.ext E) k3) rfl ?_
    rintro r8 w8 ⟨rfl, k8, c8⟩
    replace E := Ext.then E c8 (by intro j hj hk; omega)
    refine St.nil ?_
    refine St.weak [(3, _), (8, _)] ⟨rfl, rfl, trivial⟩ ?_
    refine St.then_n ?_
    refine St.go hK6 ?_
    clear hK6
    refine St.condT rfl ?_
    refine St.seq fun K7 hK7 => ?_
    refine St.region ?_
    refine St.r (R.load1 Tryz.isAgg119 rfl (k8.cell 0 rfl)) rfl rfl ?_
    refine St.r (R.assign rfl) rfl rfl ?_
    refine St.nil ?_
    refine St.weak [(2, _)] ⟨rfl, trivial⟩ ?_
    refine St.then_n ?_
    refine St.go hK7 ?_
    clear hK7
    refine St.ret ?_
    refine St.then_r ?_
    refine St.ret1 Tryz.results66 rfl ?_
    exact ⟨_, rfl, rfl, E⟩

theorem Error_ret {o : Option Int} {e : Int} (w0 : World) (hg : ErrType w0) : Ret Tryz.prog 11 [errV 119 o, .int .i64 e] w0 fun r w' => r = .bool (decide (o.getD 0 = e)) ∧ Ext w0 w' := by
  have E : Ext w0 w0 := Ext.refl w0
  refine St.enter (N := 11) Tryz.func11 rfl Tryz.ntmps11 rfl ?_
  refine St.seq fun K0 hK0 => ?_
  refine St.region ?_
  refine St.r (R.assign rfl) rfl rfl ?_
  refine St.nil ?_
  refine St.weak [(0, _), (1, _)] ⟨rfl, rfl, trivial⟩ ?_
  refine St.then_n ?_
  refine St.go hK0 ?_
  clear hK0
  refine St.seq fun K1 hK1 => ?_
  refine St.region ?_
  refine St.r (R.move rfl) rfl rfl ?_
  refine St.call rfl rfl ent66 (Told_ret _ hg) rfl ?_
  rintro r7 w7 ⟨rfl, e7⟩
  replace E := Ext.trans E e7
  refine St.r (R.assign rfl) rfl rfl ?_
  refine St.nil ?_
  refine St.weak [(1, _), (5, _)] ⟨rfl, rfl, trivial⟩ ?_
  refine St.then_n ?_
  refine St.go hK1 ?_
  clear hK1
  refine St.seq fun K2 hK2 => ?_
  refine St.region ?_
  refine St.r (R.move rfl) rfl rfl ?_
  refine St.r (R.move rfl) rfl rfl ?_
  refine St.r (R.eql rfl rfl) rfl rfl ?_
  refine St.r (R.assign rfl) rfl rfl ?_
  refine St.nil ?_
  refine St.weak [(4, _)] ⟨rfl, trivial⟩ ?_
  refine St.then_n ?_
  refine St.go hK2 ?_
  clear hK2
  refine St.ret ?_
  refine St.ret1 Tryz.results11 rfl ?_
  exact ⟨_, rfl, rfl, E⟩

end Go.Proofs.YtjgcmpondbocfaaGreatDoor

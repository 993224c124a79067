/- Package errors' Is. -/
import Derived.Test.YtddpmpbngcbokaaGreatDoorParts
import Derived.Test.YtddpmpbngcbokaaGreatDoorOps3
namespace Go.Proofs.YtddpmpbngcbokaaGreatDoor
open Go Go.RowKit
set_option maxRecDepth 100000


theorem eTypeOfS (a : Addr) (w : World) : (callFunc 129 #[eS a]).run Tryz.prog w = .ok (.value (.iface 233 (.agg #[.pointer (some ⟨3, 248, none⟩)]))) w := by kernel_rfl
theorem eComparable (w : World) : (callMethod (.iface 233 (.agg #[.pointer (some ⟨3, 248, none⟩)])) "Comparable" #[]).run Tryz.prog w = .ok (.value (.bool true)) w := by kernel_rfl
theorem eTypeOfW (a : Addr) (w : World) : (callFunc 129 #[.iface 160 (.pointer (some a))]).run Tryz.prog w = .ok (.value (.iface 233 (.agg #[.pointer (some ⟨3, 160, none⟩)]))) w := by kernel_rfl
theorem eAssignable (w : World) : (callMethod (.iface 233 (.agg #[.pointer (some ⟨3, 160, none⟩)])) "AssignableTo" #[(.iface 233 (.agg #[.pointer (some ⟨3, 160, none⟩)]))]).run Tryz.prog w = .ok (.value (.bool true)) w := by kernel_rfl
theorem eValueOf2 (a : Addr) (w : World) : (callFunc 131 #[.iface 211 (.pointer (some a))]).run Tryz.prog w = .ok (.value (.agg #[.pointer (some ⟨3, 211, none⟩), .pointer (some ⟨w.heap.size, 0, none⟩), .int .u64 150])) (w.alloc (.cells #[.pointer (some a)] 211)) := by kernel_rfl
theorem eValueOf1 (a : Addr) (w : World) : (callFunc 131 #[.iface 160 (.pointer (some a))]).run Tryz.prog w = .ok (.value (.agg #[.pointer (some ⟨3, 160, none⟩), .pointer (some ⟨w.heap.size, 0, none⟩), .int .u64 150])) (w.alloc (.cells #[.pointer (some a)] 160)) := by kernel_rfl
theorem eType2 (a : Addr) (w : World) : (callFunc 132 #[(.agg #[.pointer (some ⟨3, 211, none⟩), .pointer (some a), .int .u64 150])]).run Tryz.prog w = .ok (.value (.iface 233 (.agg #[.pointer (some ⟨3, 211, none⟩)]))) w := by kernel_rfl
theorem eKind2 (w : World) : (callMethod (.iface 233 (.agg #[.pointer (some ⟨3, 211, none⟩)])) "Kind" #[]).run Tryz.prog w = .ok (.value (.int .u8 22)) w := by kernel_rfl
theorem eKind1 (w : World) : (callMethod (.iface 233 (.agg #[.pointer (some ⟨3, 160, none⟩)])) "Kind" #[]).run Tryz.prog w = .ok (.value (.int .u8 22)) w := by kernel_rfl
theorem eElemT (w : World) : (callMethod (.iface 233 (.agg #[.pointer (some ⟨3, 211, none⟩)])) "Elem" #[]).run Tryz.prog w = .ok (.value (.iface 233 (.agg #[.pointer (some ⟨3, 160, none⟩)]))) w := by kernel_rfl
theorem eImplements (w : World) : (callMethod (.iface 233 (.agg #[.pointer (some ⟨3, 160, none⟩)])) "Implements" #[(.iface 233 (.agg #[.pointer (some ⟨3, 162, none⟩)]))]).run Tryz.prog w = .ok (.value (.bool true)) w := by kernel_rfl
theorem eParts2 (a : Addr) (w : World) : (Go.Extern.ReflectliteValue.parts (.agg #[.pointer (some ⟨3, 211, none⟩), .pointer (some a), .int .u64 150])).run Tryz.prog w = .ok (some (211, a, 150)) w := by kernel_rfl
theorem eParts1 (a : Addr) (w : World) : (Go.Extern.ReflectliteValue.parts (.agg #[.pointer (some ⟨3, 160, none⟩), .pointer (some a), .int .u64 150])).run Tryz.prog w = .ok (some (160, a, 150)) w := by kernel_rfl
theorem eParts1a (a : Addr) (w : World) : (Go.Extern.ReflectliteValue.parts (.agg #[.pointer (some ⟨3, 160, none⟩), .pointer (some a), .int .u64 406])).run Tryz.prog w = .ok (some (160, a, 406)) w := by kernel_rfl
theorem eElemOf (w : World) : (Go.Extern.Rtype.elem? 211).run Tryz.prog w = .ok (some 160) w := by kernel_rfl
theorem eMk1 (p : Addr) (w : World) : (Go.Extern.ReflectliteValue.mk 160 p Go.Extern.ReflectliteValue.flagAddr).run Tryz.prog w = .ok (.agg #[.pointer (some ⟨3, 160, none⟩), .pointer (some p), .int .u64 406]) w := by kernel_rfl
theorem eDirect (w : World) : (Go.Extern.Rtype.directlyAssignable 160 160).run Tryz.prog w = .ok true w := by kernel_rfl
theorem eMethod (z : Sem Value) (f : TypeId → Addr → Nat → Nat → Sem Value) (v : Value) :
    Go.Extern.ReflectliteValue.method z f #[v] = (do match ← Go.Extern.ReflectliteValue.parts v with | none => z | some (t, a, fl) => f t a fl (fl % 32)) := rfl
theorem eIsNil (a p : Addr) (w : World) (ha : w.cell? a = some (.pointer (some p))) : (callFunc 133 #[(.agg #[.pointer (some ⟨3, 211, none⟩), .pointer (some a), .int .u64 150])]).run Tryz.prog w = .ok (.value (.bool false)) w := by
  rw [@run_callFunc_extern Tryz.prog 133 _ (Go.Extern.ReflectliteValue.method (Go.Extern.ReflectliteValue.valueError "reflectlite.Value.IsNil" 0) Go.Extern.ReflectliteValue.isNil) Tryz.func133 (by kernel_rfl) (by kernel_rfl) (by kernel_rfl) (by kernel_rfl), eMethod]
  simp only [Sem.run_bind, eParts2, Result.andThen]
  simp [Go.Extern.ReflectliteValue.isNil, loadVar, isAgg, underlying, Tryz.underlying211, ha, Result.andThen]
theorem eElemV (a p : Addr) (w : World) (ha : w.cell? a = some (.pointer (some p))) : (callFunc 135 #[(.agg #[.pointer (some ⟨3, 211, none⟩), .pointer (some a), .int .u64 150])]).run Tryz.prog w = .ok (.value (.agg #[.pointer (some ⟨3, 160, none⟩), .pointer (some p), .int .u64 406])) w := by
  rw [@run_callFunc_extern Tryz.prog 135 _ (Go.Extern.ReflectliteValue.method (Go.Extern.ReflectliteValue.valueError "reflectlite.Value.Elem" 0) Go.Extern.ReflectliteValue.elem) Tryz.func135 (by kernel_rfl) (by kernel_rfl) (by kernel_rfl) (by kernel_rfl), eMethod]
  simp only [Sem.run_bind, eParts2, Result.andThen]
  simp [Go.Extern.ReflectliteValue.elem, loadVar, isAgg, underlying, Tryz.underlying211, ha, Result.andThen, eElemOf, eMk1]
theorem eSetIs (v x : Value) : Go.Extern.ReflectliteValue.set #[v, x] = (do
    let (some (dst, a, fl), some (src, b, _)) := (← Go.Extern.ReflectliteValue.parts v, ← Go.Extern.ReflectliteValue.parts x)
      | unsupported (.noEntry "extern/(internal/reflectlite.Value).Set.zeroValue")
    if fl / Go.Extern.ReflectliteValue.flagAddr % 2 == 0 then unsupported (.noEntry "extern/(internal/reflectlite.Value).Set.unaddressable")
    let val ← loadVar src b
    if ← Go.Extern.Rtype.directlyAssignable dst src then storeVar dst a val
    else if ← Go.Extern.Rtype.implements dst src then
      if (← Go.Extern.Rtype.kind src) == 20 then
        match val with
        | .nilIface => unsupported (.noEntry "extern/reflectlite: a nil value of one interface type handed on as a value of another")
        | _ => storeVar dst a val
      else storeVar dst a (.iface src val)
    else panicString ("reflectlite.Set: value of type " ++ (← Go.Extern.Rtype.spelt src) ++ " is not assignable to type " ++ (← Go.Extern.Rtype.spelt dst))
    pure (.tuple #[])) := rfl
theorem eSet (ta b e : Addr) (old : Value) (w : World) (hb : w.cell? b = some (.pointer (some e))) (ht : w.cell? ta = some old) (hf : w.frozen? ta = false) :
    (callFunc 136 #[(.agg #[.pointer (some ⟨3, 160, none⟩), .pointer (some ta), .int .u64 406]), (.agg #[.pointer (some ⟨3, 160, none⟩), .pointer (some b), .int .u64 150])]).run Tryz.prog w = .ok (.value (.tuple #[])) (w.setCell ta (.pointer (some e))) := by
  rw [@run_callFunc_extern Tryz.prog 136 _ Go.Extern.ReflectliteValue.set Tryz.func136 (by kernel_rfl) (by kernel_rfl) (by kernel_rfl) (by kernel_rfl), eSetIs]
  simp only [Sem.run_bind, eParts1, eParts1a, Result.andThen]
  simp [Go.Extern.ReflectliteValue.flagAddr, loadVar, isAgg, underlying, Tryz.underlying160, hb, Result.andThen, eDirect, storeVar, Value.cells, storeCells, Addr.add]
  rw [run_store Tryz.prog w ta _ _ (by rfl)]
  simp [ht, hf]
/-- What the package-level variables hold. -/
structure Globs (aF aB : Addr) (H : Heap) : Prop where
  gF : hcell H ⟨1, 0, none⟩ = some (eS aF)
  gB : hcell H ⟨0, 0, none⟩ = some (eS aB)
  gT : hcell H ⟨2, 0, none⟩ = some (.iface 233 (.agg #[.pointer (some ⟨3, 162, none⟩)]))
  ne : aF ≠ aB
  oF : ∃ c t, H aF.block = some (.cells c t (0, 0))
  oB : ∃ c t, H aB.block = some (.cells c t (0, 0))
theorem Globs.mono {aF aB : Addr} {H H' : Heap} (h : Globs aF aB H) (hl : Hle H H') : Globs aF aB H' :=
  ⟨hl.cell h.gF, hl.cell h.gB, hl.cell h.gT, h.ne, (by obtain ⟨c, t, e⟩ := h.oF; exact ⟨c, t, hl _ _ e⟩), (by obtain ⟨c, t, e⟩ := h.oB; exact ⟨c, t, hl _ _ e⟩)⟩
theorem eEq_same (a : Addr) (w : World) : (binOp .eql 162 (eS a) (eS a)).run Tryz.prog w = .ok (.bool true) w :=
  run_eql_iface_ptr_same w a Tryz.underlying162 Tryz.underlying248 rfl rfl rfl
theorem eEq_other {a b : Addr} {H : Heap} {w : World} (hA : Agr H w) (ne : a ≠ b) (ha : ∃ c t, H a.block = some (.cells c t (0, 0))) (hb : ∃ c t, H b.block = some (.cells c t (0, 0))) : (binOp .eql 162 (eS a) (eS b)).run Tryz.prog w = .ok (.bool false) w := by
  obtain ⟨c, t, e⟩ := ha
  obtain ⟨c', t', e'⟩ := hb
  exact run_eql_iface_ptr_other w Tryz.underlying162 Tryz.underlying248 rfl rfl rfl (by decide) ne (hA _ _ e) (hA _ _ e')
theorem eEq_type (p : Value) (a : Addr) (w : World) : (binOp .eql 162 (.iface 160 p) (eS a)).run Tryz.prog w = .ok (.bool false) w := by kernel_rfl
inductive ErrD (a : Addr) (N : Heap) : Nat → Value → Prop
  | leaf : ErrD a N 0 (eS a)
  | wrap {b d : Nat} {s : List UInt8} {e : Value} : N b = some (.cells #[strOf s, e] 164 (0, 0)) → ErrD a N d e → ErrD a N (d + 1) (.iface 160 (.pointer (some ⟨b, 0, none⟩)))
theorem ErrD.form {a : Addr} {N : Heap} {d : Nat} {e : Value} (h : ErrD a N d e) : ∃ t v, e = .iface t v := by cases h <;> exact ⟨_, _, rfl⟩
theorem ErrW.depth {a : Addr} {N : Heap} {e : Value} (h : ErrW a N e) : ∃ d, ErrD a N d e := by
  induction h with
  | base h => exact ⟨_, .wrap h .leaf⟩
  | wrap h _ ih => obtain ⟨d, hd⟩ := ih; exact ⟨_, .wrap h hd⟩

theorem Unwrap_calls {w : World} {b : Nat} {s : List UInt8} {e : Value} (hb : w.heap[b]? = some (.cells #[strOf s, e] 164 (0, 0))) : Calls Tryz.prog 155 #[.pointer (some ⟨b, 0, none⟩)] w (fun r w' => r = .returned e ∧ w' = w) := by
  refine calls_of_W (n := 7) Tryz.func155 rfl Tryz.ntmps155 (Nat.le_of_ble_eq_true rfl) ?_
  refine W.seq fun K1 hK1 => ?_
  refine W.region ?_
  refine SeqOps.put 2 rfl rfl rfl (O.assign (v := .nilIface) rfl rfl ?_)
  refine SeqOps.nil ?_
  refine hK1 _ _ ?_
  try clear hK1 K1
  refine W.seq fun K2 hK2 => ?_
  refine W.region ?_
  refine SeqOps.put 3 rfl rfl rfl (O.move (v := (.pointer (some ⟨b, 0, none⟩))) rfl rfl ?_)
  refine SeqOps.put 4 rfl rfl rfl (O.nilCheckPtr (a := ⟨b, 0, none⟩) rfl rfl ?_)
  refine SeqOps.put 5 rfl rfl rfl (O.fieldAddr (a := ⟨b, 0, none⟩) (v := (.pointer (some ⟨b, 1, none⟩))) rfl rfl Tryz.underlying164 rfl (by kernel_rfl) rfl ?_)
  refine SeqOps.put 6 rfl rfl rfl (O.loadBlk1 (b := b) (off := 1) (v := e) rfl rfl hb Tryz.underlying162 rfl rfl ?_)
  refine SeqOps.put 2 rfl rfl rfl (O.assign (v := e) rfl rfl ?_)
  refine SeqOps.nil ?_
  refine hK2 _ _ ?_
  try clear hK2 K2
  refine W.ret ?_
  exact retQ_one rfl rfl ⟨rfl, rfl⟩

theorem is_hit {aF aB : Addr} {H N : Heap} {w : World} {d : Nat} {e : Value} (hG : Globs aF aB H) (hH : Agr H w) (hN : Agr N w) (he : ErrD aB N d e) :
    Calls Tryz.prog 130 #[e, eS aB, .bool true] w (fun r w' => r = .returned (.bool true) ∧ w' = w) := by
  refine calls_of_W (n := 54) Tryz.func130 rfl Tryz.ntmps130 (Nat.le_of_ble_eq_true rfl) ?_
  refine W.seq fun K1 hK1 => ?_
  refine W.region ?_
  refine SeqOps.put 6 rfl rfl rfl (O.assign (v := (.bool (false))) rfl rfl ?_)
  refine SeqOps.nil ?_
  refine hK1 _ _ ?_
  try clear hK1 K1
  refine W.block ?_
  refine W.loopG (G := Nat) [0, 1, 2] (fun d vals w1 => w1 = w ∧ ∃ v, vals = [v, eS aB, .bool true] ∧ ErrD aB N d v) id d ⟨rfl, _, rfl, he⟩ ?_
  rintro d g _ _ ⟨rfl, v, rfl, hv⟩
  cases hv with
  | leaf =>
    refine W.block ?_
    refine W.seq fun K2 hK2 => ?_
    refine W.seq fun K3 hK3 => ?_
    refine W.region ?_
    refine SeqOps.put 14 rfl rfl rfl (O.move (v := (.bool (true))) rfl rfl ?_)
    refine SeqOps.put 15 rfl rfl rfl (O.move (v := (.bool (true))) rfl rfl ?_)
    refine SeqOps.put_on 16 rfl rfl rfl rfl (O.move (v := (eS aB)) rfl rfl ?_)
    refine SeqOps.put_on 17 rfl rfl rfl rfl (O.move (v := (eS aB)) rfl rfl ?_)
    refine SeqOps.put_on 18 rfl rfl rfl rfl (O.ifaceEq rfl rfl rfl rfl (eEq_same _ _) ?_)
    refine SeqOps.put 19 rfl rfl rfl (O.pick (b := true) (v := (.bool (true))) rfl rfl rfl ?_)
    refine SeqOps.nil ?_
    refine hK3 _ _ ?_
    try clear hK3 K3
    refine W.cond_true rfl ?_
    refine W.seq fun K4 hK4 => ?_
    refine W.region ?_
    refine SeqOps.put 6 rfl rfl rfl (O.assign (v := (.bool (true))) rfl rfl ?_)
    refine SeqOps.nil ?_
    refine hK4 _ _ ?_
    try clear hK4 K4
    refine W.ret ?_
    simp only [thenF_ret, blockF_ret]
    exact retQ_one rfl rfl ⟨rfl, rfl⟩
  | wrap hb hd =>
    rename_i b d' s e'
    refine W.block ?_
    refine W.seq fun K5 hK5 => ?_
    refine W.seq fun K6 hK6 => ?_
    refine W.region ?_
    refine SeqOps.put 14 rfl rfl rfl (O.move (v := (.bool (true))) rfl rfl ?_)
    refine SeqOps.put 15 rfl rfl rfl (O.move (v := (.bool (true))) rfl rfl ?_)
    refine SeqOps.put_on 16 rfl rfl rfl rfl (O.move (v := (.iface 160 (.pointer (some ⟨b, 0, none⟩)))) rfl rfl ?_)
    refine SeqOps.put_on 17 rfl rfl rfl rfl (O.move (v := (eS aB)) rfl rfl ?_)
    refine SeqOps.put_on 18 rfl rfl rfl rfl (O.ifaceEq rfl rfl rfl rfl (eEq_type _ _ _) ?_)
    refine SeqOps.put 19 rfl rfl rfl (O.pick (b := true) (v := (.bool (false))) rfl rfl rfl ?_)
    refine SeqOps.nil ?_
    refine hK6 _ _ ?_
    try clear hK6 K6
    refine W.cond_false rfl ?_
    refine W.skip ?_
    refine hK5 _ _ ?_
    try clear hK5 K5
    refine W.seq fun K7 hK7 => ?_
    refine W.seq fun K8 hK8 => ?_
    refine W.region ?_
    refine SeqOps.put 21 rfl rfl rfl (O.move (v := (.iface 160 (.pointer (some ⟨b, 0, none⟩)))) rfl rfl ?_)
    refine SeqOps.put 22 rfl rfl rfl (O.typeAssert (r := (.tuple #[.nilIface, .bool false])) rfl rfl (run_typeAssert_lacksB Tryz.underlying235 (by kernel_rfl) (by kernel_rfl) _ _ _) ?_)
    refine SeqOps.put 20 rfl rfl rfl (O.move (v := (.tuple #[.nilIface, .bool false])) rfl rfl ?_)
    refine SeqOps.put 23 rfl rfl rfl (O.extract (v := .nilIface) rfl rfl rfl ?_)
    refine SeqOps.put 24 rfl rfl rfl (O.extract (v := (.bool (false))) rfl rfl rfl ?_)
    refine SeqOps.put 7 rfl rfl rfl (O.assign (v := .nilIface) rfl rfl ?_)
    refine SeqOps.put 8 rfl rfl rfl (O.assign (v := (.bool (false))) rfl rfl ?_)
    refine SeqOps.nil ?_
    refine hK8 _ _ ?_
    try clear hK8 K8
    refine W.seq fun K9 hK9 => ?_
    refine W.region ?_
    refine SeqOps.put 25 rfl rfl rfl (O.move (v := (.bool (false))) rfl rfl ?_)
    refine SeqOps.put 26 rfl rfl rfl (O.move (v := (.bool (false))) rfl rfl ?_)
    refine SeqOps.put_off 27 rfl rfl rfl rfl rfl ?_
    refine SeqOps.put_off 28 rfl rfl rfl rfl rfl ?_
    refine SeqOps.put_off 29 rfl rfl rfl rfl rfl ?_
    refine SeqOps.put 30 rfl rfl rfl (O.pick (b := false) (v := (.bool (false))) rfl rfl rfl ?_)
    refine SeqOps.nil ?_
    refine hK9 _ _ ?_
    try clear hK9 K9
    refine W.cond_false rfl ?_
    refine W.skip ?_
    refine hK7 _ _ ?_
    try clear hK7 K7
    refine W.seq fun K10 hK10 => ?_
    refine W.region ?_
    refine SeqOps.put 31 rfl rfl rfl (O.move (v := (.iface 160 (.pointer (some ⟨b, 0, none⟩)))) rfl rfl ?_)
    refine SeqOps.nil ?_
    refine hK10 _ _ ?_
    try clear hK10 K10
    refine W.block ?_
    refine W.seq fun K11 hK11 => ?_
    refine W.region ?_
    refine SeqOps.put 32 rfl rfl rfl (O.typeAssert (r := (.tuple #[(.iface 160 (.pointer (some ⟨b, 0, none⟩))), .bool true])) rfl rfl (run_typeAssert_hasB Tryz.underlying238 (by kernel_rfl) _ _ _) ?_)
    refine SeqOps.put 33 rfl rfl rfl (O.extract (v := (.bool (true))) rfl rfl rfl ?_)
    refine SeqOps.put 34 rfl rfl rfl (O.extract (v := (.iface 160 (.pointer (some ⟨b, 0, none⟩)))) rfl rfl rfl ?_)
    refine SeqOps.nil ?_
    refine hK11 _ _ ?_
    try clear hK11 K11
    refine W.cond_true rfl ?_
    refine W.seq fun K12 hK12 => ?_
    refine W.region ?_
    refine SeqOps.put 9 rfl rfl rfl (O.assign (v := (.iface 160 (.pointer (some ⟨b, 0, none⟩)))) rfl rfl ?_)
    refine SeqOps.nil ?_
    refine hK12 _ _ ?_
    try clear hK12 K12
    refine W.seq fun K13 hK13 => ?_
    refine W.region ?_
    refine SeqOps.put 35 rfl rfl rfl (O.move (v := (.iface 160 (.pointer (some ⟨b, 0, none⟩)))) rfl rfl ?_)
    refine SeqOps.put 36 rfl rfl rfl (O.invokeC (r := (.iface 160 (.pointer (some ⟨b, 0, none⟩)))) (args := []) (fid := 155) (cargs := #[.pointer (some ⟨b, 0, none⟩)]) rfl rfl rfl (by kernel_rfl) ?_)
    refine Calls.mono (Unwrap_calls (hN _ _ hb)) ?_
    rintro r _ ⟨rfl, rfl⟩
    refine ⟨_, rfl, ?_⟩
    obtain ⟨te, ve, rfl⟩ := hd.form
    refine SeqOps.put 0 rfl rfl rfl (O.assign (v := (.iface te ve)) rfl rfl ?_)
    refine SeqOps.nil ?_
    refine hK13 _ _ ?_
    try clear hK13 K13
    refine W.seq fun K14 hK14 => ?_
    refine W.region ?_
    refine SeqOps.put 37 rfl rfl rfl (O.move (v := (.iface te ve)) rfl rfl ?_)
    refine SeqOps.put 38 rfl rfl rfl (O.ifaceNil (v := (.iface te ve)) (r := false) rfl rfl (.inr ⟨_, _, rfl⟩) Tryz.underlying162 (.inl ⟨rfl, rfl⟩) ?_)
    refine SeqOps.nil ?_
    refine hK14 _ _ ?_
    try clear hK14 K14
    refine W.cond_false rfl ?_
    refine W.skip ?_
    exact ⟨_, ⟨rfl, _, rfl, hd⟩, Nat.lt_succ_self _⟩

theorem Iis_hit {aF aB : Addr} {H N : Heap} {w : World} {e : Value} (hG : Globs aF aB H) (hH : Agr H w) (hN : Agr N w) (he : ErrW aB N e) :
    Calls Tryz.prog 121 #[e, eS aB] w (fun r w' => r = .returned (.bool true) ∧ w' = w) := by
  obtain ⟨d, hd⟩ := he.depth
  obtain ⟨te, ve, rfl⟩ := hd.form
  refine calls_of_W (n := 22) Tryz.func121 rfl Tryz.ntmps121 (Nat.le_of_ble_eq_true rfl) ?_
  refine W.seq fun K1 hK1 => ?_
  refine W.region ?_
  refine SeqOps.put 4 rfl rfl rfl (O.assign (v := (.bool (false))) rfl rfl ?_)
  refine SeqOps.nil ?_
  refine hK1 _ _ ?_
  try clear hK1 K1
  refine W.seq fun K2 hK2 => ?_
  refine W.seq fun K3 hK3 => ?_
  refine W.region ?_
  refine SeqOps.put 6 rfl rfl rfl (O.move (v := (.iface te ve)) rfl rfl ?_)
  refine SeqOps.put 7 rfl rfl rfl (O.ifaceNil (v := (.iface te ve)) (r := false) rfl rfl (.inr ⟨_, _, rfl⟩) Tryz.underlying162 (.inl ⟨rfl, rfl⟩) ?_)
  refine SeqOps.put 8 rfl rfl rfl (O.move (v := (.bool (false))) rfl rfl ?_)
  refine SeqOps.put_on 9 rfl rfl rfl rfl (O.move (v := (eS aB)) rfl rfl ?_)
  refine SeqOps.put_on 10 rfl rfl rfl rfl (O.ifaceNil (v := (eS aB)) (r := false) rfl rfl (.inr ⟨_, _, rfl⟩) Tryz.underlying162 (.inl ⟨rfl, rfl⟩) ?_)
  refine SeqOps.put 11 rfl rfl rfl (O.pick (b := false) (v := (.bool (false))) rfl rfl rfl ?_)
  refine SeqOps.nil ?_
  refine hK3 _ _ ?_
  try clear hK3 K3
  refine W.cond_false rfl ?_
  refine W.skip ?_
  refine hK2 _ _ ?_
  try clear hK2 K2
  refine W.seq fun K4 hK4 => ?_
  refine W.region ?_
  refine SeqOps.put 15 rfl rfl rfl (O.move (v := (eS aB)) rfl rfl ?_)
  refine SeqOps.put 16 rfl rfl rfl (O.extern (fid := 129) (args := [eS aB]) (v := (.iface 233 (.agg #[.pointer (some ⟨3, 248, none⟩)]))) rfl rfl rfl (eTypeOfS _ _) ?_)
  refine SeqOps.put 17 rfl rfl rfl (O.invoke (r := (.iface 233 (.agg #[.pointer (some ⟨3, 248, none⟩)]))) (args := []) (v := .bool true) rfl rfl rfl (eComparable _) ?_)
  refine SeqOps.put 5 rfl rfl rfl (O.assign (v := (.bool (true))) rfl rfl ?_)
  refine SeqOps.nil ?_
  refine hK4 _ _ ?_
  try clear hK4 K4
  refine W.seq fun K5 hK5 => ?_
  refine W.region ?_
  refine SeqOps.put 18 rfl rfl rfl (O.move (v := (.iface te ve)) rfl rfl ?_)
  refine SeqOps.put 19 rfl rfl rfl (O.move (v := (eS aB)) rfl rfl ?_)
  refine SeqOps.put 20 rfl rfl rfl (O.move (v := (.bool (true))) rfl rfl ?_)
  refine SeqOps.put 21 rfl rfl rfl (O.call (fid := 130) (cap := #[]) (args := [(.iface te ve), (eS aB), (.bool (true))]) rfl rfl rfl Tryz.func130 rfl rfl ?_)
  refine Calls.mono (is_hit hG hH hN hd) ?_
  rintro r _ ⟨rfl, rfl⟩
  refine ⟨_, rfl, ?_⟩
  refine SeqOps.put 4 rfl rfl rfl (O.assign (v := (.bool (true))) rfl rfl ?_)
  refine SeqOps.nil ?_
  refine hK5 _ _ ?_
  try clear hK5 K5
  refine W.ret ?_
  exact retQ_one rfl rfl ⟨rfl, rfl⟩

theorem is_miss {aF aB : Addr} {H N : Heap} {w : World} {d : Nat} {e : Value} (hG : Globs aF aB H) (hH : Agr H w) (hN : Agr N w) (he : ErrD aF N d e) :
    Calls Tryz.prog 130 #[e, eS aB, .bool true] w (fun r w' => r = .returned (.bool false) ∧ w' = w) := by
  refine calls_of_W (n := 54) Tryz.func130 rfl Tryz.ntmps130 (Nat.le_of_ble_eq_true rfl) ?_
  refine W.seq fun K1 hK1 => ?_
  refine W.region ?_
  refine SeqOps.put 6 rfl rfl rfl (O.assign (v := (.bool (false))) rfl rfl ?_)
  refine SeqOps.nil ?_
  refine hK1 _ _ ?_
  try clear hK1 K1
  refine W.block ?_
  refine W.loopG (G := Nat) [0, 1, 2] (fun d vals w1 => w1 = w ∧ ∃ v, vals = [v, eS aB, .bool true] ∧ ErrD aF N d v) id d ⟨rfl, _, rfl, he⟩ ?_
  rintro d g _ _ ⟨rfl, v, rfl, hv⟩
  cases hv with
  | leaf =>
    refine W.block ?_
    refine W.seq fun K2 hK2 => ?_
    refine W.seq fun K3 hK3 => ?_
    refine W.region ?_
    refine SeqOps.put 14 rfl rfl rfl (O.move (v := (.bool (true))) rfl rfl ?_)
    refine SeqOps.put 15 rfl rfl rfl (O.move (v := (.bool (true))) rfl rfl ?_)
    refine SeqOps.put_on 16 rfl rfl rfl rfl (O.move (v := (eS aF)) rfl rfl ?_)
    refine SeqOps.put_on 17 rfl rfl rfl rfl (O.move (v := (eS aB)) rfl rfl ?_)
    refine SeqOps.put_on 18 rfl rfl rfl rfl (O.ifaceEq rfl rfl rfl rfl (eEq_other hH hG.ne hG.oF hG.oB) ?_)
    refine SeqOps.put 19 rfl rfl rfl (O.pick (b := true) (v := (.bool (false))) rfl rfl rfl ?_)
    refine SeqOps.nil ?_
    refine hK3 _ _ ?_
    try clear hK3 K3
    refine W.cond_false rfl ?_
    refine W.skip ?_
    refine hK2 _ _ ?_
    try clear hK2 K2
    refine W.seq fun K4 hK4 => ?_
    refine W.seq fun K5 hK5 => ?_
    refine W.region ?_
    refine SeqOps.put 21 rfl rfl rfl (O.move (v := (eS aF)) rfl rfl ?_)
    refine SeqOps.put 22 rfl rfl rfl (O.typeAssert (r := (.tuple #[.nilIface, .bool false])) rfl rfl (run_typeAssert_lacksB Tryz.underlying235 (by kernel_rfl) (by kernel_rfl) _ _ _) ?_)
    refine SeqOps.put 20 rfl rfl rfl (O.move (v := (.tuple #[.nilIface, .bool false])) rfl rfl ?_)
    refine SeqOps.put 23 rfl rfl rfl (O.extract (v := .nilIface) rfl rfl rfl ?_)
    refine SeqOps.put 24 rfl rfl rfl (O.extract (v := (.bool (false))) rfl rfl rfl ?_)
    refine SeqOps.put 7 rfl rfl rfl (O.assign (v := .nilIface) rfl rfl ?_)
    refine SeqOps.put 8 rfl rfl rfl (O.assign (v := (.bool (false))) rfl rfl ?_)
    refine SeqOps.nil ?_
    refine hK5 _ _ ?_
    try clear hK5 K5
    refine W.seq fun K6 hK6 => ?_
    refine W.region ?_
    refine SeqOps.put 25 rfl rfl rfl (O.move (v := (.bool (false))) rfl rfl ?_)
    refine SeqOps.put 26 rfl rfl rfl (O.move (v := (.bool (false))) rfl rfl ?_)
    refine SeqOps.put_off 27 rfl rfl rfl rfl rfl ?_
    refine SeqOps.put_off 28 rfl rfl rfl rfl rfl ?_
    refine SeqOps.put_off 29 rfl rfl rfl rfl rfl ?_
    refine SeqOps.put 30 rfl rfl rfl (O.pick (b := false) (v := (.bool (false))) rfl rfl rfl ?_)
    refine SeqOps.nil ?_
    refine hK6 _ _ ?_
    try clear hK6 K6
    refine W.cond_false rfl ?_
    refine W.skip ?_
    refine hK4 _ _ ?_
    try clear hK4 K4
    refine W.seq fun K7 hK7 => ?_
    refine W.region ?_
    refine SeqOps.put 31 rfl rfl rfl (O.move (v := (eS aF)) rfl rfl ?_)
    refine SeqOps.nil ?_
    refine hK7 _ _ ?_
    try clear hK7 K7
    refine W.block ?_
    refine W.seq fun K8 hK8 => ?_
    refine W.region ?_
    refine SeqOps.put 32 rfl rfl rfl (O.typeAssert (r := (.tuple #[.nilIface, .bool false])) rfl rfl (run_typeAssert_lacksB Tryz.underlying238 (by kernel_rfl) (by kernel_rfl) _ _ _) ?_)
    refine SeqOps.put 33 rfl rfl rfl (O.extract (v := (.bool (false))) rfl rfl rfl ?_)
    refine SeqOps.put 34 rfl rfl rfl (O.extract (v := .nilIface) rfl rfl rfl ?_)
    refine SeqOps.nil ?_
    refine hK8 _ _ ?_
    try clear hK8 K8
    refine W.cond_false rfl ?_
    refine W.seq fun K9 hK9 => ?_
    refine W.region ?_
    refine SeqOps.put 39 rfl rfl rfl (O.typeAssert (r := (.tuple #[.nilIface, .bool false])) rfl rfl (run_typeAssert_lacksB Tryz.underlying240 (by kernel_rfl) (by kernel_rfl) _ _ _) ?_)
    refine SeqOps.put 40 rfl rfl rfl (O.extract (v := (.bool (false))) rfl rfl rfl ?_)
    refine SeqOps.put 41 rfl rfl rfl (O.extract (v := .nilIface) rfl rfl rfl ?_)
    refine SeqOps.nil ?_
    refine hK9 _ _ ?_
    try clear hK9 K9
    refine W.cond_false rfl ?_
    refine W.seq fun K10 hK10 => ?_
    refine W.region ?_
    refine SeqOps.put 13 rfl rfl rfl (O.assign (v := (eS aF)) rfl rfl ?_)
    refine SeqOps.nil ?_
    refine hK10 _ _ ?_
    try clear hK10 K10
    refine W.seq fun K11 hK11 => ?_
    refine W.region ?_
    refine SeqOps.put 6 rfl rfl rfl (O.assign (v := (.bool (false))) rfl rfl ?_)
    refine SeqOps.nil ?_
    refine hK11 _ _ ?_
    try clear hK11 K11
    refine W.ret ?_
    simp only [thenF_ret, blockF_ret]
    exact retQ_one rfl rfl ⟨rfl, rfl⟩
  | wrap hb hd =>
    rename_i b d' s e'
    refine W.block ?_
    refine W.seq fun K12 hK12 => ?_
    refine W.seq fun K13 hK13 => ?_
    refine W.region ?_
    refine SeqOps.put 14 rfl rfl rfl (O.move (v := (.bool (true))) rfl rfl ?_)
    refine SeqOps.put 15 rfl rfl rfl (O.move (v := (.bool (true))) rfl rfl ?_)
    refine SeqOps.put_on 16 rfl rfl rfl rfl (O.move (v := (.iface 160 (.pointer (some ⟨b, 0, none⟩)))) rfl rfl ?_)
    refine SeqOps.put_on 17 rfl rfl rfl rfl (O.move (v := (eS aB)) rfl rfl ?_)
    refine SeqOps.put_on 18 rfl rfl rfl rfl (O.ifaceEq rfl rfl rfl rfl (eEq_type _ _ _) ?_)
    refine SeqOps.put 19 rfl rfl rfl (O.pick (b := true) (v := (.bool (false))) rfl rfl rfl ?_)
    refine SeqOps.nil ?_
    refine hK13 _ _ ?_
    try clear hK13 K13
    refine W.cond_false rfl ?_
    refine W.skip ?_
    refine hK12 _ _ ?_
    try clear hK12 K12
    refine W.seq fun K14 hK14 => ?_
    refine W.seq fun K15 hK15 => ?_
    refine W.region ?_
    refine SeqOps.put 21 rfl rfl rfl (O.move (v := (.iface 160 (.pointer (some ⟨b, 0, none⟩)))) rfl rfl ?_)
    refine SeqOps.put 22 rfl rfl rfl (O.typeAssert (r := (.tuple #[.nilIface, .bool false])) rfl rfl (run_typeAssert_lacksB Tryz.underlying235 (by kernel_rfl) (by kernel_rfl) _ _ _) ?_)
    refine SeqOps.put 20 rfl rfl rfl (O.move (v := (.tuple #[.nilIface, .bool false])) rfl rfl ?_)
    refine SeqOps.put 23 rfl rfl rfl (O.extract (v := .nilIface) rfl rfl rfl ?_)
    refine SeqOps.put 24 rfl rfl rfl (O.extract (v := (.bool (false))) rfl rfl rfl ?_)
    refine SeqOps.put 7 rfl rfl rfl (O.assign (v := .nilIface) rfl rfl ?_)
    refine SeqOps.put 8 rfl rfl rfl (O.assign (v := (.bool (false))) rfl rfl ?_)
    refine SeqOps.nil ?_
    refine hK15 _ _ ?_
    try clear hK15 K15
    refine W.seq fun K16 hK16 => ?_
    refine W.region ?_
    refine SeqOps.put 25 rfl rfl rfl (O.move (v := (.bool (false))) rfl rfl ?_)
    refine SeqOps.put 26 rfl rfl rfl (O.move (v := (.bool (false))) rfl rfl ?_)
    refine SeqOps.put_off 27 rfl rfl rfl rfl rfl ?_
    refine SeqOps.put_off 28 rfl rfl rfl rfl rfl ?_
    refine SeqOps.put_off 29 rfl rfl rfl rfl rfl ?_
    refine SeqOps.put 30 rfl rfl rfl (O.pick (b := false) (v := (.bool (false))) rfl rfl rfl ?_)
    refine SeqOps.nil ?_
    refine hK16 _ _ ?_
    try clear hK16 K16
    refine W.cond_false rfl ?_
    refine W.skip ?_
    refine hK14 _ _ ?_
    try clear hK14 K14
    refine W.seq fun K17 hK17 => ?_
    refine W.region ?_
    refine SeqOps.put 31 rfl rfl rfl (O.move (v := (.iface 160 (.pointer (some ⟨b, 0, none⟩)))) rfl rfl ?_)
    refine SeqOps.nil ?_
    refine hK17 _ _ ?_
    try clear hK17 K17
    refine W.block ?_
    refine W.seq fun K18 hK18 => ?_
    refine W.region ?_
    refine SeqOps.put 32 rfl rfl rfl (O.typeAssert (r := (.tuple #[(.iface 160 (.pointer (some ⟨b, 0, none⟩))), .bool true])) rfl rfl (run_typeAssert_hasB Tryz.underlying238 (by kernel_rfl) _ _ _) ?_)
    refine SeqOps.put 33 rfl rfl rfl (O.extract (v := (.bool (true))) rfl rfl rfl ?_)
    refine SeqOps.put 34 rfl rfl rfl (O.extract (v := (.iface 160 (.pointer (some ⟨b, 0, none⟩)))) rfl rfl rfl ?_)
    refine SeqOps.nil ?_
    refine hK18 _ _ ?_
    try clear hK18 K18
    refine W.cond_true rfl ?_
    refine W.seq fun K19 hK19 => ?_
    refine W.region ?_
    refine SeqOps.put 9 rfl rfl rfl (O.assign (v := (.iface 160 (.pointer (some ⟨b, 0, none⟩)))) rfl rfl ?_)
    refine SeqOps.nil ?_
    refine hK19 _ _ ?_
    try clear hK19 K19
    refine W.seq fun K20 hK20 => ?_
    refine W.region ?_
    refine SeqOps.put 35 rfl rfl rfl (O.move (v := (.iface 160 (.pointer (some ⟨b, 0, none⟩)))) rfl rfl ?_)
    refine SeqOps.put 36 rfl rfl rfl (O.invokeC (r := (.iface 160 (.pointer (some ⟨b, 0, none⟩)))) (args := []) (fid := 155) (cargs := #[.pointer (some ⟨b, 0, none⟩)]) rfl rfl rfl (by kernel_rfl) ?_)
    refine Calls.mono (Unwrap_calls (hN _ _ hb)) ?_
    rintro r _ ⟨rfl, rfl⟩
    refine ⟨_, rfl, ?_⟩
    obtain ⟨te, ve, rfl⟩ := hd.form
    refine SeqOps.put 0 rfl rfl rfl (O.assign (v := (.iface te ve)) rfl rfl ?_)
    refine SeqOps.nil ?_
    refine hK20 _ _ ?_
    try clear hK20 K20
    refine W.seq fun K21 hK21 => ?_
    refine W.region ?_
    refine SeqOps.put 37 rfl rfl rfl (O.move (v := (.iface te ve)) rfl rfl ?_)
    refine SeqOps.put 38 rfl rfl rfl (O.ifaceNil (v := (.iface te ve)) (r := false) rfl rfl (.inr ⟨_, _, rfl⟩) Tryz.underlying162 (.inl ⟨rfl, rfl⟩) ?_)
    refine SeqOps.nil ?_
    refine hK21 _ _ ?_
    try clear hK21 K21
    refine W.cond_false rfl ?_
    refine W.skip ?_
    exact ⟨_, ⟨rfl, _, rfl, hd⟩, Nat.lt_succ_self _⟩

theorem Iis_miss {aF aB : Addr} {H N : Heap} {w : World} {e : Value} (hG : Globs aF aB H) (hH : Agr H w) (hN : Agr N w) (he : ErrW aF N e) :
    Calls Tryz.prog 121 #[e, eS aB] w (fun r w' => r = .returned (.bool false) ∧ w' = w) := by
  obtain ⟨d, hd⟩ := he.depth
  obtain ⟨te, ve, rfl⟩ := hd.form
  refine calls_of_W (n := 22) Tryz.func121 rfl Tryz.ntmps121 (Nat.le_of_ble_eq_true rfl) ?_
  refine W.seq fun K1 hK1 => ?_
  refine W.region ?_
  refine SeqOps.put 4 rfl rfl rfl (O.assign (v := (.bool (false))) rfl rfl ?_)
  refine SeqOps.nil ?_
  refine hK1 _ _ ?_
  try clear hK1 K1
  refine W.seq fun K2 hK2 => ?_
  refine W.seq fun K3 hK3 => ?_
  refine W.region ?_
  refine SeqOps.put 6 rfl rfl rfl (O.move (v := (.iface te ve)) rfl rfl ?_)
  refine SeqOps.put 7 rfl rfl rfl (O.ifaceNil (v := (.iface te ve)) (r := false) rfl rfl (.inr ⟨_, _, rfl⟩) Tryz.underlying162 (.inl ⟨rfl, rfl⟩) ?_)
  refine SeqOps.put 8 rfl rfl rfl (O.move (v := (.bool (false))) rfl rfl ?_)
  refine SeqOps.put_on 9 rfl rfl rfl rfl (O.move (v := (eS aB)) rfl rfl ?_)
  refine SeqOps.put_on 10 rfl rfl rfl rfl (O.ifaceNil (v := (eS aB)) (r := false) rfl rfl (.inr ⟨_, _, rfl⟩) Tryz.underlying162 (.inl ⟨rfl, rfl⟩) ?_)
  refine SeqOps.put 11 rfl rfl rfl (O.pick (b := false) (v := (.bool (false))) rfl rfl rfl ?_)
  refine SeqOps.nil ?_
  refine hK3 _ _ ?_
  try clear hK3 K3
  refine W.cond_false rfl ?_
  refine W.skip ?_
  refine hK2 _ _ ?_
  try clear hK2 K2
  refine W.seq fun K4 hK4 => ?_
  refine W.region ?_
  refine SeqOps.put 15 rfl rfl rfl (O.move (v := (eS aB)) rfl rfl ?_)
  refine SeqOps.put 16 rfl rfl rfl (O.extern (fid := 129) (args := [eS aB]) (v := (.iface 233 (.agg #[.pointer (some ⟨3, 248, none⟩)]))) rfl rfl rfl (eTypeOfS _ _) ?_)
  refine SeqOps.put 17 rfl rfl rfl (O.invoke (r := (.iface 233 (.agg #[.pointer (some ⟨3, 248, none⟩)]))) (args := []) (v := .bool true) rfl rfl rfl (eComparable _) ?_)
  refine SeqOps.put 5 rfl rfl rfl (O.assign (v := (.bool (true))) rfl rfl ?_)
  refine SeqOps.nil ?_
  refine hK4 _ _ ?_
  try clear hK4 K4
  refine W.seq fun K5 hK5 => ?_
  refine W.region ?_
  refine SeqOps.put 18 rfl rfl rfl (O.move (v := (.iface te ve)) rfl rfl ?_)
  refine SeqOps.put 19 rfl rfl rfl (O.move (v := (eS aB)) rfl rfl ?_)
  refine SeqOps.put 20 rfl rfl rfl (O.move (v := (.bool (true))) rfl rfl ?_)
  refine SeqOps.put 21 rfl rfl rfl (O.call (fid := 130) (cap := #[]) (args := [(.iface te ve), (eS aB), (.bool (true))]) rfl rfl rfl Tryz.func130 rfl rfl ?_)
  refine Calls.mono (is_miss hG hH hN hd) ?_
  rintro r _ ⟨rfl, rfl⟩
  refine ⟨_, rfl, ?_⟩
  refine SeqOps.put 4 rfl rfl rfl (O.assign (v := (.bool (false))) rfl rfl ?_)
  refine SeqOps.nil ?_
  refine hK5 _ _ ?_
  try clear hK5 K5
  refine W.ret ?_
  exact retQ_one rfl rfl ⟨rfl, rfl⟩

end Go.Proofs.YtddpmpbngcbokaaGreatDoor

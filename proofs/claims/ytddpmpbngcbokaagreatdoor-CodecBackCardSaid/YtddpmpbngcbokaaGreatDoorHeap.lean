/- Snapshots of memory that stays, what changes, and the operations that touch memory. -/
import Derived.Test.YtddpmpbngcbokaaGreatDoorAnyOrd
namespace Go.Proofs.YtddpmpbngcbokaaGreatDoor
open Go Go.RowKit

abbrev Heap := Nat → Option Obj
def Hle (H H' : Heap) : Prop := ∀ k o, H k = some o → H' k = some o
def Agr (H : Heap) (w : World) : Prop := ∀ k o, H k = some o → w.heap[k]? = some o
def hfOf (w : World) : Heap := fun k => w.heap[k]?
def hcell (H : Heap) (a : Addr) : Option Value :=
  match H a.block with
  | some (.cells c _ _) => if a.spot.isSome then none else c[a.off]?
  | _ => none

theorem Hle.refl (H : Heap) : Hle H H := fun _ _ h => h
theorem Hle.trans {A B C : Heap} (h : Hle A B) (h' : Hle B C) : Hle A C := fun k o e => h' k o (h k o e)
theorem Agr.hf (w : World) : Agr (hfOf w) w := fun _ _ h => h
theorem Agr.le {H : Heap} {w : World} (h : Agr H w) : Hle H (hfOf w) := h
theorem Hle.cell {H H' : Heap} (h : Hle H H') {a : Addr} {v : Value} (hc : hcell H a = some v) : hcell H' a = some v := by
  unfold hcell at hc ⊢
  cases e : H a.block with
  | none => simp [e] at hc
  | some o => rw [h _ _ e]; rw [e] at hc; exact hc
theorem hcell_hf (w : World) (a : Addr) : hcell (hfOf w) a = w.cell? a := by
  unfold hcell World.cell? hfOf
  rfl
theorem Agr.cell {H : Heap} {w : World} (h : Agr H w) {a : Addr} {v : Value} (hc : hcell H a = some v) : w.cell? a = some v := by
  rw [← hcell_hf]; exact h.le.cell hc
theorem Agr.lt {H : Heap} {w : World} (h : Agr H w) {k : Nat} {o : Obj} (e : H k = some o) : k < w.heap.size :=
  (Array.getElem?_eq_some_iff.1 (h k o e)).1
theorem Agr.none {H : Heap} {w : World} (h : Agr H w) {k : Nat} (hk : w.heap.size ≤ k) : H k = none := by
  cases e : H k with
  | none => rfl
  | some o => have := h.lt e; omega

/-- Only blocks of X and new ones may differ. -/
structure Chg (X : Nat → Prop) (w w' : World) : Prop where
  os : w'.os = w.os
  tape : w'.tape = w.tape
  output : w'.output = w.output
  size : w.heap.size ≤ w'.heap.size
  block : ∀ k, k < w.heap.size → ¬ X k → w'.heap[k]? = w.heap[k]?
abbrev NoX : Nat → Prop := fun _ => False
abbrev Ext (w w' : World) : Prop := Chg NoX w w'

theorem Chg.refl (X : Nat → Prop) (w : World) : Chg X w w := ⟨rfl, rfl, rfl, Nat.le_refl _, fun _ _ _ => rfl⟩
theorem Chg.trans {X : Nat → Prop} {a b c : World} (h : Chg X a b) (k : Chg X b c) : Chg X a c :=
  ⟨k.os.trans h.os, k.tape.trans h.tape, k.output.trans h.output, Nat.le_trans h.size k.size, fun i hi hx => (k.block i (Nat.lt_of_lt_of_le hi h.size) hx).trans (h.block i hi hx)⟩
theorem Chg.mono {X Y : Nat → Prop} {a b : World} (h : Chg X a b) (hxy : ∀ k, X k → Y k) : Chg Y a b :=
  ⟨h.os, h.tape, h.output, h.size, fun k hk hy => h.block k hk fun hx => hy (hxy k hx)⟩
theorem Chg.ofExt {X : Nat → Prop} {a b : World} (h : Ext a b) : Chg X a b := h.mono fun _ hx => hx.elim
/-- A change at blocks that are new to a is no change of a. -/
theorem Chg.trans_new {X Y : Nat → Prop} {a b c : World} (h : Chg X a b) (k : Chg Y b c) (hY : ∀ i, Y i → a.heap.size ≤ i ∨ X i) : Chg X a c :=
  ⟨k.os.trans h.os, k.tape.trans h.tape, k.output.trans h.output, Nat.le_trans h.size k.size, fun i hi hx => (k.block i (Nat.lt_of_lt_of_le hi h.size) (fun hy => by
    rcases hY i hy with h1 | h1
    · omega
    · exact hx h1)).trans (h.block i hi hx)⟩
theorem Chg.drew {X : Nat → Prop} {a b : World} (h : Chg X a b) : Chg X a b.drew := ⟨h.os, h.tape, h.output, h.size, h.block⟩
theorem Ext.drew (w : World) : Ext w w.drew := (Chg.refl _ w).drew
theorem Chg.toBelow {a b : World} (h : Ext a b) : Below a.heap.size a b := ⟨h.os, h.tape, h.output, h.size, fun k hk => h.block k hk id⟩
theorem Chg.blk {X : Nat → Prop} {a b : World} (h : Chg X a b) {k : Nat} {o : Obj} (hb : a.heap[k]? = some o) (hx : ¬ X k) : b.heap[k]? = some o := by
  rw [h.block k (Array.getElem?_eq_some_iff.1 hb).1 hx]; exact hb
theorem Ext.blk {a b : World} (h : Ext a b) {k : Nat} {o : Obj} (hb : a.heap[k]? = some o) : b.heap[k]? = some o := Chg.blk h hb id
theorem Ext.agr {a b : World} (h : Ext a b) {H : Heap} (hA : Agr H a) : Agr H b := fun k o e => Ext.blk h (hA k o e)
theorem Chg.agr {X : Nat → Prop} {a b : World} (h : Chg X a b) {H : Heap} (hA : Agr H a) (hX : ∀ k, X k → H k = none) : Agr H b :=
  fun k o e => h.blk (hA k o e) fun hx => by rw [hX k hx] at e; cases e
theorem blk_lt {w : World} {k : Nat} {o : Obj} (hb : w.heap[k]? = some o) : k < w.heap.size := (Array.getElem?_eq_some_iff.1 hb).1
theorem Ext.of_alloc (w : World) (o : Obj) : Ext w (w.alloc o) := ⟨rfl, rfl, rfl, by simp, fun k hk _ => by rw [World.alloc, Array.getElem?_push, if_neg (Nat.ne_of_lt hk)]⟩
theorem Chg.of_grown {w w' : World} {row : Option Nat} (h : w.grownBy w' row) : Chg (fun k => row = some k) w w' :=
  ⟨h.os, h.tape, h.output, h.size, fun k hk hx => h.block k hk fun e => hx e.symm⟩

/-- Where a function stands: since its beginning only X and new blocks have changed; the snapshot has grown by new blocks alone. -/
structure St (H0 : Heap) (w0 : World) (X : Nat → Prop) (H : Heap) (w : World) : Prop where
  chg : Chg X w0 w
  le : Hle H0 H
  agr : Agr H w
  low : ∀ k, k < w0.heap.size → H k = H0 k

theorem St.start {H : Heap} {w : World} (X : Nat → Prop) (h : Agr H w) : St H w X H w := ⟨Chg.refl _ _, Hle.refl _, h, fun _ _ => rfl⟩
theorem St.trans {H0 H1 H2 : Heap} {w0 w1 w2 : World} {X : Nat → Prop} (h : St H0 w0 X H1 w1) (k : St H1 w1 X H2 w2) : St H0 w0 X H2 w2 :=
  ⟨h.chg.trans k.chg, h.le.trans k.le, k.agr, fun i hi => (k.low i (Nat.lt_of_lt_of_le hi h.chg.size)).trans (h.low i hi)⟩
theorem St.weaken {H0 H : Heap} {w0 w : World} {X Y : Nat → Prop} (h : St H0 w0 X H w) (hxy : ∀ k, X k → Y k) : St H0 w0 Y H w := ⟨h.chg.mono hxy, h.le, h.agr, h.low⟩
theorem St.noneOf {H0 H : Heap} {w0 w : World} {X : Nat → Prop} (h : St H0 w0 X H w) (hx : ∀ k, X k → H0 k = none) {k : Nat} (hk : X k) (hlt : k < w0.heap.size) : H k = none := by
  rw [h.low k hlt]; exact hx k hk
/-- A callee that changes Y, where Y is new or of X. -/
theorem St.call {H0 H1 H2 : Heap} {w0 w1 w2 : World} {X Y : Nat → Prop} (h : St H0 w0 X H1 w1) (k : St H1 w1 Y H2 w2) (hY : ∀ i, Y i → w0.heap.size ≤ i ∨ X i) : St H0 w0 X H2 w2 :=
  ⟨h.chg.trans_new k.chg hY, h.le.trans k.le, k.agr, fun i hi => (k.low i (Nat.lt_of_lt_of_le hi h.chg.size)).trans (h.low i hi)⟩
theorem St.ext {H0 H1 H2 : Heap} {w0 w1 w2 : World} {X : Nat → Prop} (h : St H0 w0 X H1 w1) (k : St H1 w1 NoX H2 w2) : St H0 w0 X H2 w2 := h.call k fun _ hy => hy.elim
/-- A change of blocks outside the snapshot. -/
theorem St.step {H0 H : Heap} {w0 w w' : World} {X Y : Nat → Prop} (h : St H0 w0 X H w) (c : Chg Y w w') (hY : ∀ i, Y i → (w0.heap.size ≤ i ∨ X i) ∧ H i = none) : St H0 w0 X H w' :=
  ⟨h.chg.trans_new c fun i hi => (hY i hi).1, h.le, c.agr h.agr fun k hk => (hY k hk).2, h.low⟩
theorem St.new {H0 H : Heap} {w0 w w' : World} {X : Nat → Prop} (h : St H0 w0 X H w) (c : Ext w w') : St H0 w0 X H w' := h.step c fun _ hy => hy.elim

def Hadd (H : Heap) (b : Nat) (o : Obj) : Heap := fun k => if k = b then some o else H k
theorem Hle.add {H : Heap} {b : Nat} (o : Obj) (hb : H b = none) : Hle H (Hadd H b o) := fun k o' e => by
  unfold Hadd
  by_cases hk : k = b
  · subst hk; rw [hb] at e; cases e
  · simp [hk, e]
theorem Hadd_same (H : Heap) (b : Nat) (o : Obj) : Hadd H b o b = some o := by simp [Hadd]
theorem Hadd_ne (H : Heap) {b k : Nat} (o : Obj) (h : k ≠ b) : Hadd H b o k = H k := by simp [Hadd, h]
/-- A block of the function's own joins what stays. -/
theorem St.freeze {H0 H : Heap} {w0 w : World} {X : Nat → Prop} (h : St H0 w0 X H w) {b : Nat} {o : Obj} (hb : w.heap[b]? = some o) (hn : H b = none) (hnew : w0.heap.size ≤ b) : St H0 w0 X (Hadd H b o) w :=
  ⟨h.chg, h.le.trans (Hle.add o hn), fun k o' e => by
    by_cases hk : k = b
    · subst hk; rw [Hadd_same] at e; cases e; exact hb
    · rw [Hadd_ne H o hk] at e; exact h.agr k o' e,
   fun k hk => by rw [Hadd_ne H o (by omega)]; exact h.low k hk⟩

/- addresses -/
theorem Addr.add_add (a : Addr) (m n : Nat) : (a.add m).add n = a.add (m + n) := by
  obtain ⟨b, o, s⟩ := a
  unfold Addr.add
  by_cases hm : m = 0
  · subst hm; simp
  · by_cases hn : n = 0
    · subst hn; simp [hm]
    · simp [hm, hn, Nat.add_assoc]
theorem Addr.add_block (a : Addr) (n : Nat) : (a.add n).block = a.block := by unfold Addr.add; split <;> rfl
theorem hcell_add {H : Heap} {b : Nat} {c : Array Value} {e : TypeId} {fr : Nat × Nat} (h : H b = some (.cells c e fr)) (o n : Nat) : hcell H ((⟨b, o, none⟩ : Addr).add n) = c[o + n]? := by
  rw [Addr.add_lit]; simp [hcell, h]

section ops
variable {P : Program} {g : Fr} {w : World} {K : Value → World → Prop} {o : Oper}

theorem O.move {x : Operand} {v : Value} (ho : o.op = .move x) (hv : evF g x = v) (k : K v w) : OpT P o g w K :=
  OpT.run (by simp [execOp, ho, hv]) k
theorem O.assign {x : Operand} {v : Value} (ho : o.op = .assign x) (hv : evF g x = v) (k : K v w) : OpT P o g w K :=
  OpT.run (by simp [execOp, ho, hv]) k
theorem O.pick {c x y : Operand} {b : Bool} {v : Value} (ho : o.op = .pick c x y) (hc : evF g c = .bool b) (hv : (if b then evF g x else evF g y) = v) (k : K v w) : OpT P o g w K :=
  OpT.run (v := v) (w' := w) (by subst hv; cases b <;> simp [execOp, ho, hc, asBool]) k
theorem O.not {T : TypeId} {x : Operand} {b : Bool} (ho : o.op = .unOp .not T x) (hx : evF g x = .bool b) (k : K (.bool (!b)) w) : OpT P o g w K :=
  OpT.run (by simp [execOp, ho, hx, Op.unary]) k

def cmpI (op : BinOp) (a b : Int) : Option Bool :=
  match op with
  | .eql => some (a == b)
  | .neq => some (a != b)
  | .lss => some (decide (a < b))
  | .leq => some (decide (a ≤ b))
  | .gtr => some (decide (a > b))
  | .geq => some (decide (a ≥ b))
  | _ => none
theorem O.cmp {op : BinOp} {T T' : TypeId} {x y : Operand} {kd : IntKind} {a b : Int} {r : Bool} (ho : o.op = .binOp op T x y T') (hx : evF g x = .int kd a) (hy : evF g y = .int kd b) (hr : cmpI op a b = some r)
    (k : K (.bool r) w) : OpT P o g w K := by
  refine OpT.run (v := .bool r) (w' := w) ?_ k
  cases op <;> simp [cmpI] at hr <;> subst hr <;> simp [execOp, ho, hx, hy, binOp, eqGuard, Op.intCmp]

def arI (op : BinOp) (a b : Int) : Option Int :=
  match op with
  | .add => some (a + b)
  | .sub => some (a - b)
  | .mul => some (a * b)
  | _ => none
theorem O.arith {op : BinOp} {T T' : TypeId} {x y : Operand} {kd : IntKind} {a b r c : Int} (ho : o.op = .binOp op T x y T') (hx : evF g x = .int kd a) (hy : evF g y = .int kd b) (hr : arI op a b = some r) (hw : kd.wrap r = c)
    (k : K (.int kd c) w) : OpT P o g w K := by
  refine OpT.run (v := .int kd c) (w' := w) ?_ k
  cases op <;> simp [arI] at hr <;> subst hr <;> simp [execOp, ho, hx, hy, binOp, eqGuard, Op.intArith, hw]
theorem wrap_in {kd : IntKind} {r : Int} (h : kd.min ≤ r) (h' : r ≤ kd.max) : kd.wrap r = r := by
  unfold IntKind.wrap
  cases kd <;> simp [IntKind.min, IntKind.max, IntKind.bits, IntKind.signed] at * <;> omega
theorem wrap_i64 {r : Int} (h : -9223372036854775808 ≤ r) (h' : r ≤ 9223372036854775807) : IntKind.i64.wrap r = r := wrap_in (by simpa [IntKind.min, IntKind.bits, IntKind.signed] using h) (by simp [IntKind.max, IntKind.bits, IntKind.signed]; omega)
theorem wrap_u64 {r : Int} (h : 0 ≤ r) (h' : r ≤ 18446744073709551615) : IntKind.u64.wrap r = r := wrap_in (by simpa [IntKind.min, IntKind.bits, IntKind.signed] using h) (by simp [IntKind.max, IntKind.bits, IntKind.signed]; omega)

theorem O.convInt {S D : TypeId} {x : Operand} {kd kd' : IntKind} {a c : Int} {ds : TypeDesc} (ho : o.op = .convert S D x) (hx : evF g x = .int kd a) (hs : P.underlying S = some ds) (hd : P.underlying D = some (.int kd')) (hw : kd'.wrap a = c)
    (k : K (.int kd' c) w) : OpT P o g w K := by
  refine OpT.run (v := .int kd' c) (w' := w) ?_ k
  subst hw
  simp only [execOp, ho, hx, convert, Sem.run_bind, run_underlying hs, run_underlying hd, Result.andThen_ok]
  cases ds <;> simp [Conv.intToInt]

theorem O.lenSlice {x : Operand} {T E : TypeId} {ad : Option Addr} {n c : Nat} (ho : o.op = .call { callee := .builtin .len, args := #[x], argTypes := #[T] }) (hx : evF g x = .slice ad n c) (hT : P.underlying T = some (.slice E))
    (k : K (.int .i64 n) w) : OpT P o g w K :=
  OpT.run (v := .int .i64 n) (w' := w) (by simp [execOp, ho, resolve, invoke, builtin, Builtin.len_, hx, run_underlying hT, goInt]) k
theorem O.lenString {x : Operand} {T : TypeId} {s : ByteArray} (ho : o.op = .call { callee := .builtin .len, args := #[x], argTypes := #[T] }) (hx : evF g x = .string s) (hT : P.underlying T = some .string)
    (k : K (.int .i64 s.size) w) : OpT P o g w K :=
  OpT.run (v := .int .i64 s.size) (w' := w) (by simp [execOp, ho, resolve, invoke, builtin, Builtin.len_, hx, run_underlying hT, goInt]) k

theorem O.extract {x : Operand} {i : Nat} {vs : Array Value} {v : Value} (ho : o.op = .extract x i) (hx : evF g x = .tuple vs) (hv : vs[i]? = some v) (k : K v w) : OpT P o g w K :=
  OpT.run (v := v) (w' := w) (by simp [execOp, ho, hx, Instr.extract, hv]) k
theorem O.nilCheckPtr {x : Operand} {a : Addr} (ho : o.op = .nilCheck x) (hx : evF g x = .pointer (some a)) (k : K (.pointer (some a)) w) : OpT P o g w K :=
  OpT.run (v := .pointer (some a)) (w' := w) (by simp [execOp, ho, hx]) k
theorem O.makeIface {T : TypeId} {x : Operand} {v : Value} {d : TypeDesc} (ho : o.op = .makeInterface T x) (hx : evF g x = v) (hT : P.underlying T = some d) (hd : (match d with | .interface _ => false | _ => true) = true)
    (k : K (.iface T v) w) : OpT P o g w K :=
  OpT.run (v := .iface T v) (w' := w) (by
    subst hx
    simp only [execOp, ho, Instr.makeInterface, Sem.run_bind, run_underlying hT, Result.andThen_ok]
    cases d <;> simp_all) k

theorem O.box {T : TypeId} {x : Operand} {v : Value} (ho : o.op = .box T x) (hx : evF g x = v)
    (k : ∀ b w', w.heap.size ≤ b → b < w'.heap.size → Ext w w' → w'.heap[b]? = some (.cells v.cells T (0, 0)) → K (.pointer (some ⟨b, 0, none⟩)) w') : OpT P o g w K :=
  OpT.run (v := .pointer (some ⟨w.heap.size, 0, none⟩)) (w' := w.alloc (.cells v.cells T)) (by subst hx; simp [execOp, ho, Instr.box, newVar, newRow, newObj, Sem.run])
    (k _ _ (Nat.le_refl _) (by simp) (Ext.of_alloc w _) (heap_alloc_new w _))
theorem O.alloc {T : TypeId} {z : Value} (ho : o.op = .alloc T) (hz : (P.info? T).bind (·.zero) = some z)
    (k : ∀ b w', w.heap.size ≤ b → b < w'.heap.size → Ext w w' → w'.heap[b]? = some (.cells z.cells T (0, 0)) → K (.pointer (some ⟨b, 0, none⟩)) w') : OpT P o g w K := by
  cases hi : P.info? T with
  | none => simp [hi] at hz
  | some i =>
    simp [hi] at hz
    exact OpT.run (v := .pointer (some ⟨w.heap.size, 0, none⟩)) (w' := w.alloc (.cells z.cells T)) (by simp [execOp, ho, Instr.alloc, zeroValue, typeInfo, hi, hz, newVar, newRow, newObj, Sem.run])
      (k _ _ (Nat.le_refl _) (by simp) (Ext.of_alloc w _) (heap_alloc_new w _))

def isAggD : TypeDesc → Bool | .struct _ | .array _ _ => true | _ => false
theorem run_isAgg {T : TypeId} {d : TypeDesc} (h : P.underlying T = some d) (w : World) : (isAgg T).run P w = .ok (isAggD d) w := by
  unfold isAgg
  rw [Sem.run_bind, run_underlying h w]
  cases d <;> simp [isAggD]

theorem O.loadAgg {T : TypeId} {x : Operand} {a : Addr} {d : TypeDesc} {cs : List Value} (ho : o.op = .load T x) (hx : evF g x = .pointer (some a)) (hT : P.underlying T = some d) (hd : isAggD d = true) (hs : (P.info? T).map (·.size) = some cs.length)
    (hc : ∀ j v, cs[j]? = some v → w.cell? (a.add j) = some v) (k : K (.agg cs.toArray) w) : OpT P o g w K := by
  cases hi : P.info? T with
  | none => simp [hi] at hs
  | some i =>
    simp [hi] at hs
    refine OpT.run (v := .agg cs.toArray) (w' := w) ?_ k
    have hl := run_loadCells_list (P := P) w a cs hc
    simp [execOp, ho, hx, Instr.loadAt, Instr.sureAddr, loadVar, run_isAgg hT, hd, sizeOf, typeInfo, hi, hs, hl]
theorem O.loadOne {T : TypeId} {x : Operand} {a : Addr} {d : TypeDesc} {v : Value} (ho : o.op = .load T x) (hx : evF g x = .pointer (some a)) (hT : P.underlying T = some d) (hd : isAggD d = false)
    (hc : w.cell? a = some v) (k : K v w) : OpT P o g w K :=
  OpT.run (v := v) (w' := w) (by simp [execOp, ho, hx, Instr.loadAt, Instr.sureAddr, loadVar, run_isAgg hT, hd, load, Sem.run, hc]) k

/-- Out of a block that is known. -/
theorem cells_of_blk {b off : Nat} {c : Array Value} {e : TypeId} {fr : Nat × Nat} (h : w.heap[b]? = some (.cells c e fr)) {cs : List Value} (hcs : (c.toList.drop off).take cs.length = cs) : ∀ j v, cs[j]? = some v → w.cell? ((⟨b, off, none⟩ : Addr).add j) = some v := by
  intro j v hv
  rw [Addr.add_lit, cell_of_row w b _ c e fr h]
  have hj : j < cs.length := (List.getElem?_eq_some_iff.1 hv).1
  rw [← hcs, List.getElem?_take] at hv
  simp only [hj, if_true, List.getElem?_drop] at hv
  simpa using hv
theorem O.loadBlk {T : TypeId} {x : Operand} {b off : Nat} {c : Array Value} {e : TypeId} {fr : Nat × Nat} {d : TypeDesc} {cs : List Value} (ho : o.op = .load T x) (hx : evF g x = .pointer (some ⟨b, off, none⟩)) (h : w.heap[b]? = some (.cells c e fr))
    (hT : P.underlying T = some d) (hd : isAggD d = true) (hs : (P.info? T).map (·.size) = some cs.length) (hcs : (c.toList.drop off).take cs.length = cs) (k : K (.agg cs.toArray) w) : OpT P o g w K :=
  O.loadAgg ho hx hT hd hs (cells_of_blk h hcs) k
theorem O.loadBlk1 {T : TypeId} {x : Operand} {b off : Nat} {c : Array Value} {e : TypeId} {fr : Nat × Nat} {d : TypeDesc} {v : Value} (ho : o.op = .load T x) (hx : evF g x = .pointer (some ⟨b, off, none⟩)) (h : w.heap[b]? = some (.cells c e fr))
    (hT : P.underlying T = some d) (hd : isAggD d = false) (hv : c[off]? = some v) (k : K v w) : OpT P o g w K :=
  O.loadOne ho hx hT hd (by rw [cell_of_row w b _ c e fr h]; exact hv) k

theorem setRow_Chg {b : Nat} {c c' : Array Value} {e : TypeId} {fr : Nat × Nat} (_h : w.heap[b]? = some (.cells c e fr)) : Chg (· = b) w (w.setRow b c') :=
  ⟨rfl, rfl, rfl, by simp, fun k _ hk => setRow_other w b k c' (fun e => hk e)⟩
/-- A store into a block that is known. -/
theorem O.store {T : TypeId} {x y : Operand} {b off : Nat} {c : Array Value} {e : TypeId} {v : Value} {n : Nat} {c' : Array Value} (ho : o.op = .store T x y) (hx : evF g x = .pointer (some ⟨b, off, none⟩)) (hy : evF g y = v) (h : w.heap[b]? = some (.cells c e (0, 0)))
    (hs : (P.info? T).map (·.size) = some n) (hn : v.cells.size = n) (hfit : off + n ≤ c.size) (h1 : ∀ u ∈ v.cells.toList, u.oneCell' = true) (hc' : (c.toList.take off ++ v.cells.toList ++ c.toList.drop (off + n)).toArray = c')
    (k : ∀ w', Chg (· = b) w w' → w'.heap[b]? = some (.cells c' e (0, 0)) → K undef w') : OpT P o g w K := by
  subst hc' hy
  cases hi : P.info? T with
  | none => simp [hi] at hs
  | some i =>
    simp [hi] at hs
    have hst := run_storeCells_at P b off e (evF g y).cells.toList 0 c w h (by simpa [hn] using hfit) h1
    simp only [Nat.add_zero, Array.length_toList, hn] at hst
    refine OpT.runSkip (w' := w.setRow b (c.toList.take off ++ (evF g y).cells.toList ++ c.toList.drop (off + n)).toArray) ?_ (k _ (setRow_Chg h) (setRow_heap w b c _ e _ h))
    simp [execOp, ho, hx, Instr.storeAt, Instr.sureAddr, storeVar, sizeOf, typeInfo, hi, hs, hn]
    rw [← hn] at hst ⊢
    simpa using congrArg (fun r => Result.andThen r (fun _ w => Result.ok Next.skip w)) hst

theorem O.fieldAddr {S : TypeId} {x : Operand} {i : Nat} {a : Addr} {fs : Array Field} {f : Field} {v : Value} (ho : o.op = .fieldAddr S x i) (hx : evF g x = .pointer (some a)) (hS : P.underlying S = some (.struct fs)) (hf : fs[i]? = some f)
    (hz : (match P.info? f.type with | some i => i.size != 0 | none => false) = true) (hv : Value.pointer (some (a.add f.offset)) = v) (k : K v w) : OpT P o g w K := by
  subst hv
  cases hi : P.info? f.type with
  | none => simp [hi] at hz
  | some j =>
    simp [hi] at hz
    refine OpT.run (w' := w) ?_ k
    simp [execOp, ho, hx, Instr.fieldAt, run_underlying hS, hf, Instr.sureAddr, fieldPlace, sizeOf, typeInfo, hi, hz]

theorem O.indexAddr {T E : TypeId} {x y : Operand} {a : Addr} {len cap : Nat} {kd : IntKind} {i : Int} {sz : Nat} {v : Value} (ho : o.op = .indexAddr T x y) (hx : evF g x = .slice (some a) len cap) (hy : evF g y = .int kd i)
    (hT : P.underlying T = some (.slice E)) (hs : (P.info? E).map (·.size) = some sz) (h0 : 0 ≤ i) (h1 : i < len) (hv : Value.pointer (some (a.add (i.toNat * sz))) = v) (k : K v w) : OpT P o g w K := by
  subst hv
  cases hi : P.info? E with
  | none => simp [hi] at hs
  | some j =>
    simp [hi] at hs
    refine OpT.run (w' := w) ?_ k
    simp [execOp, ho, hx, hy, Instr.indexAt, run_underlying hT, asIntOf, h0, h1, sizeOf, typeInfo, hi, hs]

theorem O.call {x : Operand} {as : List Operand} {ts : Array TypeId} {fid : FuncId} {cap : Array Value} {args : List Value} {fn : Func} (ho : o.op = .call { callee := .value x, args := as.toArray, argTypes := ts }) (hx : evF g x = .func (.func fid) #[] cap)
    (has : as.map (evF g) = args) (hf : P.funcs[fid]? = some fn) (hname : (fn.name == "runtime.NumGoroutine") = false) (hbody : fn.body.isNone = false)
    (k : Calls P fid (args.toArray ++ cap) w fun e w'' => ∃ v, e = .returned v ∧ K v w'') : OpT P o g w K := by
  subst has
  refine OpT.enter (w' := w) ?_ k
  have h1 : ¬ fn.name = "runtime.NumGoroutine" := by simpa using hname
  have h2 : ¬ fn.body = Option.none := fun e => by rw [e] at hbody; cases hbody
  simp [execOp, ho, resolve, hx, Deferred.ofValue, invoke, callFunc, hf, h1, h2, program, Sem.run]
end ops
end Go.Proofs.YtddpmpbngcbokaaGreatDoor

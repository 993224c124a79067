/- More operations: slicing, strings, interfaces, structs, results in memory. -/
import Derived.Test.YtddpmpbngcbokaaGreatDoorRep
namespace Go.Proofs.YtddpmpbngcbokaaGreatDoor
open Go Go.RowKit

def bc (b : UInt8) : Value := .int .u8 (b.toNat : Int)
def bcs (bs : List UInt8) : List Value := bs.map bc
def strOf (bs : List UInt8) : Value := .string ⟨bs.toArray⟩
/-- A slice of bytes. -/
def RB (H : Heap) (v : Value) (bs : List UInt8) : Prop := RS H v bs.length (bcs bs)
theorem RB.mono {H H' : Heap} {v : Value} {bs : List UInt8} (h : RB H v bs) (hl : Hle H H') : RB H' v bs := RS.mono h hl
theorem bcs_one (bs : List UInt8) : ∀ u ∈ bcs bs, u.oneCell' = true := by
  intro u hu
  obtain ⟨b, _, rfl⟩ := List.mem_map.1 hu
  rfl
theorem bcs_length (bs : List UInt8) : (bcs bs).length = bs.length := by simp [bcs]
theorem bcs_append (a b : List UInt8) : bcs (a ++ b) = bcs a ++ bcs b := by simp [bcs]

theorem Addr.add_zero (a : Addr) : a.add 0 = a := by simp [Addr.add]

theorem RS.slice {H : Heap} {ao : Option Addr} {n cap : Nat} {cells : List Value} {s lo hi : Nat} (h : RS H (.slice ao n cap) n cells) (_hl : cells.length = n * s) (h1 : lo ≤ hi) (h2 : hi ≤ n) :
    RS H (.slice (if cap = lo then ao else ao.map (·.add (lo * s))) (hi - lo) (cap - lo)) (hi - lo) ((cells.drop (lo * s)).take ((hi - lo) * s)) := by
  obtain ⟨ao', cap', hv, hnc, hcm, hnone, hone, hc⟩ := h
  cases hv
  refine ⟨_, _, rfl, by omega, by omega, ?_, fun u hu => hone u (List.mem_of_mem_drop (List.mem_of_mem_take hu)), ?_⟩
  · intro e
    by_cases hcl : cap = lo
    · omega
    · rw [if_neg hcl] at e
      cases ao with
      | none => have := hnone rfl; omega
      | some a => simp at e
  · intro j u hu
    rw [List.getElem?_take] at hu
    split at hu
    · rename_i hj
      rw [List.getElem?_drop] at hu
      obtain ⟨a, e, hcell⟩ := hc _ u hu
      subst e
      by_cases hcl : cap = lo
      · exfalso
        have : hi - lo = 0 := by omega
        rw [this, Nat.zero_mul] at hj
        omega
      · rw [if_neg hcl]
        exact ⟨_, rfl, by rw [Addr.add_add]; exact hcell⟩
    · cases hu

section ops
variable {P : Program} {g : Fr} {w : World} {K : Value → World → Prop} {o : Oper}

def boundOf (g : Fr) : Option Operand → Option Int → Prop
  | none, r => r = none
  | some x, some i => evF g x = .int .i64 i ∨ evF g x = .int .u64 i
  | some _, none => False

/-- 'x[lo:hi]' of a slice, within its length. -/
theorem O.slice {T E : TypeId} {x : Operand} {lo hi : Option Operand} {H : Heap} {ao : Option Addr} {n cap s : Nat} {cells : List Value} {l h : Nat}
    (ho : o.op = .slice T x lo hi none) (hx : evF g x = .slice ao n cap) (hT : P.underlying T = some (.slice E)) (hs : (P.info? E).map (·.size) = some s)
    (hlo : (match lo with | none => l = 0 | some y => ∃ kd, evF g y = .int kd (l : Int))) (hhi : (match hi with | none => h = n | some y => ∃ kd, evF g y = .int kd (h : Int)))
    (r : RS H (.slice ao n cap) n cells) (hl : cells.length = n * s) (h1 : l ≤ h) (h2 : h ≤ n)
    (k : ∀ v, RS H v (h - l) ((cells.drop (l * s)).take ((h - l) * s)) → (∃ ao' c', v = .slice ao' (h - l) c') → K v w) : OpT P o g w K := by
  cases hi' : P.info? E with
  | none => simp [hi'] at hs
  | some i =>
    simp [hi'] at hs
    subst hs
    have hrs := r.slice (lo := l) (hi := h) hl h1 h2
    obtain ⟨ao', cap', hv, hnc, _⟩ := r
    cases hv
    refine OpT.run (v := .slice (if cap = l then ao else ao.map (·.add (l * i.size))) (h - l) (cap - l)) (w' := w) ?_ (k _ hrs ⟨_, _, rfl⟩)
    have hhc : h ≤ cap := by omega
    have hlh : l ≤ h := h1
    cases lo with
    | none =>
      simp only at hlo
      subst hlo
      cases hi with
      | none =>
        simp only at hhi
        subst hhi
        simp [execOp, ho, hx, Instr.sliceAt, run_underlying hT, Instr.slice, Instr.sliceBounds, sizeOf, typeInfo, hi']
      | some y =>
        obtain ⟨kd, hy⟩ := hhi
        simp [execOp, ho, hx, hy, Instr.sliceAt, run_underlying hT, Instr.slice, Instr.sliceBounds, Instr.sliceBound, asIntOf, sizeOf, typeInfo, hi', hhc, Nat.not_lt.2 hhc]
    | some z =>
      obtain ⟨kz, hz⟩ := hlo
      cases hi with
      | none =>
        simp only at hhi
        subst hhi
        simp [execOp, ho, hx, hz, Instr.sliceAt, run_underlying hT, Instr.slice, Instr.sliceBounds, Instr.sliceBound, asIntOf, sizeOf, typeInfo, hi', hlh, Nat.not_lt.2 hlh]
      | some y =>
        obtain ⟨kd, hy⟩ := hhi
        simp [execOp, ho, hx, hy, hz, Instr.sliceAt, run_underlying hT, Instr.slice, Instr.sliceBounds, Instr.sliceBound, asIntOf, sizeOf, typeInfo, hi', hhc, hlh, Nat.not_lt.2 hhc, Nat.not_lt.2 hlh]

/-- 'a[:]' of an array variable. -/
theorem O.sliceArr {T E : TypeId} {x : Operand} {a : Addr} {n : Nat} (ho : o.op = .slice T x none none none) (hx : evF g x = .pointer (some a)) (hT : P.underlying T = some (.array n E)) (hE : ((P.info? E).map (·.size)).isSome = true) (hn : n ≠ 0)
    (k : K (.slice (some a) n n) w) : OpT P o g w K := by
  cases hi : P.info? E with
  | none => simp [hi] at hE
  | some i =>
    refine OpT.run (v := .slice (some a) n n) (w' := w) ?_ k
    simp [execOp, ho, hx, Instr.sliceAt, run_underlying hT, Instr.sureAddr, Instr.sliceBounds, sizeOf, typeInfo, hi, hn, Addr.add]

theorem O.arrPtr {T E : TypeId} {x : Operand} {a : Addr} {n len cap : Nat} (ho : o.op = .sliceToArrayPointer T x) (hx : evF g x = .slice (some a) len cap) (hT : P.underlying T = some (.array n E)) (hn : n ≤ len)
    (k : K (.pointer (some a)) w) : OpT P o g w K :=
  OpT.run (v := .pointer (some a)) (w' := w) (by simp [execOp, ho, hx, Instr.arrayAt, run_underlying hT, Nat.not_lt.2 hn]) k

theorem O.makeSlice {T E : TypeId} {x y : Operand} {z : Value} {s by_ n : Nat} {kx ky : IntKind} {H : Heap} (ho : o.op = .makeSlice T x y) (hx : evF g x = .int kx (n : Int)) (hy : evF g y = .int ky (n : Int))
    (hT : P.underlying T = some (.slice E)) (hi : (P.info? E).map (fun i => (i.zero, i.size, i.bytes)) = some (some z, s, by_)) (hby : by_ * n ≤ 281474976710656) (hn : n ≤ maxLen) (hA : Agr H w) (hone : ∀ u ∈ z.cells.toList, u.oneCell' = true) (hz0 : 0 < z.cells.size)
    (k : ∀ b w', w.heap.size ≤ b → Ext w w' → Own H w' w.heap.size E s (.slice (some ⟨b, 0, none⟩) n n) n (madeCells z.cells (n * s)).toList → K (.slice (some ⟨b, 0, none⟩) n n) w') : OpT P o g w K := by
  obtain ⟨i, hi1, hi2, hi3, hi4⟩ := elem_info hi
  subst hi3 hi4
  obtain ⟨w', hr, h1, h2⟩ := run_make_full (P := P) w w.heap.size T E i z i.size hT hi1 hi2 rfl kx ky n hby hn (Nat.le_refl _)
  refine OpT.run (v := .slice (some ⟨w.heap.size, 0, none⟩) n n) (w' := w') (by simp [execOp, ho, hx, hy, hr]) (k _ _ (Nat.le_refl _) ((Chg.of_grown h2).mono fun k hk => by cases hk) ⟨h1, fun j hj => ?_, fun u hu => ?_⟩)
  · simp [Value.ownBlock] at hj; subst hj; exact hA.none (Nat.le_refl _)
  · simp only [madeCells, Array.toList_map, Array.toList_range, List.mem_map, List.mem_range] at hu
    obtain ⟨j, _, rfl⟩ := hu
    have hlt : j % z.cells.size < z.cells.size := Nat.mod_lt _ hz0
    have : z.cells[j % z.cells.size]! = z.cells[j % z.cells.size] := by simp [hlt]
    rw [this]
    exact hone _ (by simp)

theorem bytes_foldl (bs : List UInt8) : ∀ (r : ByteArray), (bs.map fun b => (b.toNat : Int)).foldl (fun r n => r.push (UInt8.ofNat n.toNat)) r = ⟨r.data ++ bs.toArray⟩ := by
  induction bs with
  | nil => intro r; simp
  | cons b l ih =>
    intro r
    simp only [List.map_cons, List.foldl_cons]
    rw [ih]
    simp [ByteArray.push]

theorem run_bytes_string {H : Heap} {v : Value} {bs : List UInt8} (hA : Agr H w) (r : RB H v bs) : (Conv.bytesToString v).run P w = .ok (strOf bs) w := by
  obtain ⟨ao, cap, rfl, hnc, _, hnone, _, hc⟩ := r
  cases ao with
  | none =>
    have hb : bs = [] := List.eq_nil_of_length_eq_zero (by have := hnone rfl; omega)
    subst hb
    simp [Conv.bytesToString, strOf]
    rfl
  | some a =>
    have hl := run_loadCells_list (P := P) w a (bcs bs) (fun j u hu => by
      obtain ⟨a', e, hcell⟩ := hc j u hu
      cases e
      exact hA.cell hcell)
    have hmap : (bs.map fun b => (b.toNat : Int)).map (Value.int .u8) = bcs bs := by simp [bcs, bc]
    rw [bcs_length] at hl
    have := run_bytesToString (P := P) w a bs.length cap (bs.map fun b => (b.toNat : Int)) (by rw [hmap]; exact hl)
    rw [this, bytes_foldl]
    simp [strOf]

theorem O.toString {S D E : TypeId} {x : Operand} {H : Heap} {v : Value} {bs : List UInt8} (ho : o.op = .convert S D x) (hx : evF g x = v) (hS : P.underlying S = some (.slice E)) (hD : P.underlying D = some .string) (hE : P.underlying E = some (.int .u8))
    (hA : Agr H w) (r : RB H v bs) (k : K (strOf bs) w) : OpT P o g w K := by
  refine OpT.run (v := strOf bs) (w' := w) ?_ k
  have hr := run_bytes_string (P := P) hA r
  obtain ⟨ao, cap, rfl, _⟩ := r
  simp [execOp, ho, hx, convert, run_underlying hS, run_underlying hD, run_underlying hE, hr]

theorem O.strEql {op : BinOp} {T T' : TypeId} {x y : Operand} {a b : List UInt8} {r : Bool} (ho : o.op = .binOp op T x y T') (hx : evF g x = strOf a) (hy : evF g y = strOf b) (hr : (op = .eql ∧ r = (a == b)) ∨ (op = .neq ∧ r = (a != b))) (k : K (.bool r) w) : OpT P o g w K := by
  refine OpT.run (v := .bool r) (w' := w) ?_ k
  rcases hr with ⟨rfl, rfl⟩ | ⟨rfl, rfl⟩ <;> simp [execOp, ho, hx, hy, strOf, binOp, eqGuard, Op.stringOp, bne]

theorem run_equal_bool {T : TypeId} (a b : Bool) (hT : P.underlying T = some .bool) : (Op.equal T (.bool a) (.bool b)).run P w = .ok (a == b) w := by
  have h : ∀ d, (Op.equalIn (d + 1) T (.bool a) (.bool b)).run P w = .ok (a == b) w := fun d => by simp [Op.equalIn, run_underlying hT]
  exact h 9999
theorem O.boolEql {op : BinOp} {T T' : TypeId} {x y : Operand} {a b r : Bool} (ho : o.op = .binOp op T x y T') (hx : evF g x = .bool a) (hy : evF g y = .bool b) (hT : P.underlying T = some .bool) (hr : (op = .eql ∧ r = (a == b)) ∨ (op = .neq ∧ r = (a != b))) (k : K (.bool r) w) : OpT P o g w K := by
  refine OpT.run (v := .bool r) (w' := w) ?_ k
  have he := run_equal_bool (P := P) (w := w) a b hT
  rcases hr with ⟨rfl, rfl⟩ | ⟨rfl, rfl⟩
  · simp only [execOp, ho, hx, hy, binOp, eqGuard]
    simp [he]
  · simp only [execOp, ho, hx, hy, binOp, eqGuard]
    simp [he, bne]

/-- An interface value against the literal nil. -/
def isNilI : Value → Bool | .nilIface => true | _ => false
theorem run_equal_nil {T : TypeId} {v : Value} {ms : Array (String × TypeId)} (hv : v = .nilIface ∨ ∃ t u, v = .iface t u) (hT : P.underlying T = some (.interface ms)) : (Op.equal T v .nilIface).run P w = .ok (isNilI v) w := by
  have h : ∀ d, (Op.equalIn (d + 1) T v .nilIface).run P w = .ok (isNilI v) w := fun d => by
    rcases hv with rfl | ⟨t, u, rfl⟩ <;> simp [Op.equalIn, run_underlying hT, isNilI]
  exact h 9999
theorem O.ifaceNil {op : BinOp} {T T' : TypeId} {x : Operand} {v : Value} {ms : Array (String × TypeId)} {r : Bool} (ho : o.op = .binOp op T x (.const .nilIface) T') (hx : evF g x = v) (hv : v = .nilIface ∨ ∃ t u, v = .iface t u) (hT : P.underlying T = some (.interface ms))
    (hr : (op = .eql ∧ r = isNilI v) ∨ (op = .neq ∧ r = !isNilI v)) (k : K (.bool r) w) : OpT P o g w K := by
  refine OpT.run (v := .bool r) (w' := w) ?_ k
  have he := run_equal_nil (P := P) (w := w) hv hT
  have hy : evF g (.const .nilIface) = .nilIface := rfl
  rcases hv with rfl | ⟨t, u, rfl⟩ <;> rcases hr with ⟨rfl, rfl⟩ | ⟨rfl, rfl⟩ <;> simp only [execOp, ho, hx, hy, binOp, eqGuard] <;> simp [he]

/- structs -/
theorem O.build {T : TypeId} {ps : List (Nat × Operand)} {vps : List (Nat × Value)} {cells : List Value} (ho : o.op = .build T ps.toArray) (hps : ps.map (fun p => (p.1, evF g p.2)) = vps)
    (hr : (Instr.build T vps.toArray).run P w = .ok (.agg cells.toArray) w) (k : K (.agg cells.toArray) w) : OpT P o g w K := by
  subst hps
  refine OpT.run (v := .agg cells.toArray) (w' := w) ?_ k
  have he : (ps.toArray.map fun (x : Nat × Operand) => match x with | (i, x) => (i, evF g x)) = (ps.map fun p => (p.1, evF g p.2)).toArray := by simp
  simp only [execOp, ho, Sem.run_bind]
  rw [he, hr]
  rfl
theorem O.field {T : TypeId} {x : Operand} {i : Nat} {cs : List Value} {fs : Array Field} {f : Field} {d : TypeDesc} {v : Value} {n : Nat} (ho : o.op = .field T x i) (hx : evF g x = .agg cs.toArray) (hT : P.underlying T = some (.struct fs)) (hf : fs[i]? = some f) (hd : P.underlying f.type = some d)
    (hn : (P.info? f.type).map (·.size) = some n) (hv : (if isAggD d then some (Value.agg ((cs.drop f.offset).take n).toArray) else cs[f.offset]?) = some v) (k : K v w) : OpT P o g w K := by
  cases hi : P.info? f.type with
  | none => simp [hi] at hn
  | some j =>
    simp [hi] at hn
    refine OpT.run (v := v) (w' := w) ?_ k
    cases hb : isAggD d
    · simp [hb] at hv
      simp [execOp, ho, hx, Instr.field, run_underlying hT, hf, asAgg, part, run_isAgg hd, hb, hv]
    · simp [hb] at hv
      subst hv
      have : cs.toArray.extract f.offset (f.offset + n) = ((cs.drop f.offset).take n).toArray := by
        apply Array.ext'
        simp [List.extract_eq_take_drop]
      simp [execOp, ho, hx, Instr.field, run_underlying hT, hf, asAgg, part, run_isAgg hd, hb, sizeOf, typeInfo, hi, hn, this]
end ops

section results
variable {P : Program} {w : World}
theorem load_blk {b : Nat} {T e : TypeId} {cs : List Value} {fr : Nat × Nat} {d : TypeDesc} (h : w.heap[b]? = some (.cells cs.toArray e fr)) (hT : P.underlying T = some d) (hd : isAggD d = true) (hs : (P.info? T).map (·.size) = some cs.length) :
    (loadVar T ⟨b, 0, none⟩).run P w = .ok (.agg cs.toArray) w :=
  run_loadVar_row w b e T cs.toArray fr d h hT (by cases d <;> simp_all [isAggD]) (by simpa using hs)
theorem retQ_cell {fn : Func} {R : Ending → World → Prop} {f : Fr} {t : Tmp} {T e : TypeId} {b : Nat} {cs : List Value} {fr : Nat × Nat} {d : TypeDesc} (h : fn.results = #[.cell t T]) (ht : f t = .pointer (some ⟨b, 0, none⟩)) (hb : w.heap[b]? = some (.cells cs.toArray e fr))
    (hT : P.underlying T = some d) (hd : isAggD d = true) (hs : (P.info? T).map (·.size) = some cs.length) (hR : R (.returned (.agg cs.toArray)) w) : retQ P fn R .ret f w := by
  intro tmps htm
  refine ⟨_, ?_, hR⟩
  have hp : tmps[t]?.getD undef = .pointer (some ⟨b, 0, none⟩) := by have := htm t; rw [ht] at this; simpa using this
  simp [results, h, hp, asAddr, load_blk hb hT hd hs]
theorem retQ_cell2 {fn : Func} {R : Ending → World → Prop} {f : Fr} {t u : Tmp} {T e : TypeId} {b : Nat} {cs : List Value} {fr : Nat × Nat} {d : TypeDesc} {v : Value} (h : fn.results = #[.cell t T, .tmp u]) (ht : f t = .pointer (some ⟨b, 0, none⟩)) (hu : f u = v) (hb : w.heap[b]? = some (.cells cs.toArray e fr))
    (hT : P.underlying T = some d) (hd : isAggD d = true) (hs : (P.info? T).map (·.size) = some cs.length) (hR : R (.returned (.tuple #[.agg cs.toArray, v])) w) : retQ P fn R .ret f w := by
  intro tmps htm
  refine ⟨_, ?_, hR⟩
  have hp : tmps[t]?.getD undef = .pointer (some ⟨b, 0, none⟩) := by have := htm t; rw [ht] at this; simpa using this
  have hq : tmps[u]?.getD undef = v := by have := htm u; rw [hu] at this; simpa using this
  simp [results, h, hp, hq, asAddr, load_blk hb hT hd hs]
end results
end Go.Proofs.YtddpmpbngcbokaaGreatDoor

/- be.AppendUint64, codec.num, sha.Join and its like: what they append. -/
import Derived.Test.YtddpmpbngcbokaaGreatDoorLists
import Derived.Test.YtddpmpbngcbokaaGreatDoorTab
namespace Go.Proofs.YtddpmpbngcbokaaGreatDoor
open Go Go.RowKit
set_option maxRecDepth 100000


abbrev OwnB (H : Heap) (w : World) (B : Nat) (v : Value) (bs : List UInt8) : Prop := Own H w B 5 1 v bs.length (bcs bs)
theorem OwnB.rb {H : Heap} {w : World} {B : Nat} {v : Value} {bs : List UInt8} (h : OwnB H w B v bs) : RB (hfOf w) v bs := h.rsw
theorem OwnB.nil (H : Heap) (w : World) (B : Nat) : OwnB H w B (.slice none 0 0) [] := Own.nil H w B 5 1
/-- What a function that appends to its own row answers. -/
def RetApp (H : Heap) (w : World) (B : Nat) (v : Value) (bs : List UInt8) : Ending → World → Prop := fun e w' => ∃ v', e = .returned v' ∧ OwnB H w' B v' bs ∧ Chg (fun j => v.ownBlock = some j) w w'
/-- A function that answers new bytes. -/
def RetNew (H : Heap) (w : World) (bs : List UInt8) : Ending → World → Prop := fun e w' => ∃ v', e = .returned v' ∧ OwnB H w' w.heap.size v' bs ∧ Ext w w'

theorem byte_cell (n : Int) (h0 : 0 ≤ n) (h1 : n ≤ 18446744073709551615) (k : Nat) : Value.int .u8 (IntKind.u8.wrap (n.fdiv (2 ^ (8 * k)))) = bc (byteAt n k) := by
  unfold bc byteAt
  congr 1
  obtain ⟨m, rfl⟩ := Int.eq_ofNat_of_zero_le h0
  have e1 : ((m : Int) % 18446744073709551616).toNat = m := by omega
  rw [e1]
  have e2 : (m : Int).fdiv (2 ^ (8 * k)) = ((m / 2 ^ (8 * k) : Nat) : Int) := by
    rw [Int.fdiv_eq_ediv_of_nonneg _ (Int.le_of_lt (Int.pow_pos (by decide)))]
    have : ((2 : Int) ^ (8 * k)) = ((2 ^ (8 * k) : Nat) : Int) := by simp
    rw [this]
    rfl
  rw [e2]
  generalize m / 2 ^ (8 * k) = q
  simp [IntKind.wrap, IntKind.bits, IntKind.signed, UInt8.toNat_ofNat']
theorem O.shr {P : Program} {g : Fr} {w : World} {K : Value → World → Prop} {o : Oper} {T T' : TypeId} {x y : Operand} {kd ky : IntKind} {a c : Int} {b : Nat} (ho : o.op = .binOp .shr T x y T') (hx : evF g x = .int kd a) (hy : evF g y = .int ky b) (hb : b < kd.bits) (hc : a.fdiv (2 ^ b) = c)
    (k : K (.int kd c) w) : OpT P o g w K := by
  refine OpT.run (v := .int kd c) (w' := w) ?_ k
  subst hc
  have hm : min b kd.bits = b := Nat.min_eq_left (Nat.le_of_lt hb)
  have hneg : ¬ ((b : Int) < 0) := by omega
  simp [execOp, ho, hx, hy, binOp, eqGuard, Op.shift, hm, hneg]

theorem AppendUint64_calls {H : Heap} {w : World} {B : Nat} {v : Value} {xs : List UInt8} {n : Int} (own : OwnB H w B v xs) (hB : B ≤ w.heap.size) (hA : Agr H w) (h0 : 0 ≤ n) (h1 : n ≤ 18446744073709551615) (hlen : xs.length + 8 ≤ 35184372088832) :
    Calls Tryz.prog 99 #[v, .int .u64 n] w (RetApp H w B v (xs ++ be8 n)) := by
  refine calls_of_W (n := 31) Tryz.func99 rfl Tryz.ntmps99 (Nat.le_of_ble_eq_true rfl) ?_
  refine W.seq fun K1 hK1 => ?_
  refine W.region ?_
  refine SeqOps.put 4 rfl rfl rfl (O.assign (v := (.slice none 0 0)) rfl rfl ?_)
  refine SeqOps.nil ?_
  refine hK1 _ _ ?_
  try clear hK1 K1
  refine W.seq fun K2 hK2 => ?_
  refine W.region ?_
  refine SeqOps.put 5 rfl rfl rfl (O.move (v := v) rfl rfl ?_)
  refine SeqOps.put 6 rfl rfl rfl (O.move (v := (.int .u64 (n))) rfl rfl ?_)
  refine SeqOps.put 7 rfl rfl rfl (O.shr (a := n) (b := 56) (c := n.fdiv (2 ^ 56)) rfl rfl rfl (by decide) rfl ?_)
  refine SeqOps.put 8 rfl rfl rfl (O.convInt (a := n.fdiv (2 ^ 56)) (c := IntKind.u8.wrap (n.fdiv (2 ^ 56))) rfl rfl Tryz.underlying79 Tryz.underlying5 rfl ?_)
  refine SeqOps.put 9 rfl rfl rfl (O.move (v := (.int .u64 (n))) rfl rfl ?_)
  refine SeqOps.put 10 rfl rfl rfl (O.shr (a := n) (b := 48) (c := n.fdiv (2 ^ 48)) rfl rfl rfl (by decide) rfl ?_)
  refine SeqOps.put 11 rfl rfl rfl (O.convInt (a := n.fdiv (2 ^ 48)) (c := IntKind.u8.wrap (n.fdiv (2 ^ 48))) rfl rfl Tryz.underlying79 Tryz.underlying5 rfl ?_)
  refine SeqOps.put 12 rfl rfl rfl (O.move (v := (.int .u64 (n))) rfl rfl ?_)
  refine SeqOps.put 13 rfl rfl rfl (O.shr (a := n) (b := 40) (c := n.fdiv (2 ^ 40)) rfl rfl rfl (by decide) rfl ?_)
  refine SeqOps.put 14 rfl rfl rfl (O.convInt (a := n.fdiv (2 ^ 40)) (c := IntKind.u8.wrap (n.fdiv (2 ^ 40))) rfl rfl Tryz.underlying79 Tryz.underlying5 rfl ?_)
  refine SeqOps.put 15 rfl rfl rfl (O.move (v := (.int .u64 (n))) rfl rfl ?_)
  refine SeqOps.put 16 rfl rfl rfl (O.shr (a := n) (b := 32) (c := n.fdiv (2 ^ 32)) rfl rfl rfl (by decide) rfl ?_)
  refine SeqOps.put 17 rfl rfl rfl (O.convInt (a := n.fdiv (2 ^ 32)) (c := IntKind.u8.wrap (n.fdiv (2 ^ 32))) rfl rfl Tryz.underlying79 Tryz.underlying5 rfl ?_)
  refine SeqOps.put 18 rfl rfl rfl (O.move (v := (.int .u64 (n))) rfl rfl ?_)
  refine SeqOps.put 19 rfl rfl rfl (O.shr (a := n) (b := 24) (c := n.fdiv (2 ^ 24)) rfl rfl rfl (by decide) rfl ?_)
  refine SeqOps.put 20 rfl rfl rfl (O.convInt (a := n.fdiv (2 ^ 24)) (c := IntKind.u8.wrap (n.fdiv (2 ^ 24))) rfl rfl Tryz.underlying79 Tryz.underlying5 rfl ?_)
  refine SeqOps.put 21 rfl rfl rfl (O.move (v := (.int .u64 (n))) rfl rfl ?_)
  refine SeqOps.put 22 rfl rfl rfl (O.shr (a := n) (b := 16) (c := n.fdiv (2 ^ 16)) rfl rfl rfl (by decide) rfl ?_)
  refine SeqOps.put 23 rfl rfl rfl (O.convInt (a := n.fdiv (2 ^ 16)) (c := IntKind.u8.wrap (n.fdiv (2 ^ 16))) rfl rfl Tryz.underlying79 Tryz.underlying5 rfl ?_)
  refine SeqOps.put 24 rfl rfl rfl (O.move (v := (.int .u64 (n))) rfl rfl ?_)
  refine SeqOps.put 25 rfl rfl rfl (O.shr (a := n) (b := 8) (c := n.fdiv (2 ^ 8)) rfl rfl rfl (by decide) rfl ?_)
  refine SeqOps.put 26 rfl rfl rfl (O.convInt (a := n.fdiv (2 ^ 8)) (c := IntKind.u8.wrap (n.fdiv (2 ^ 8))) rfl rfl Tryz.underlying79 Tryz.underlying5 rfl ?_)
  refine SeqOps.put 27 rfl rfl rfl (O.move (v := (.int .u64 (n))) rfl rfl ?_)
  refine SeqOps.put 28 rfl rfl rfl (O.convInt (a := n) (c := IntKind.u8.wrap (n)) rfl rfl Tryz.underlying79 Tryz.underlying5 rfl ?_)
  refine SeqOps.put 29 rfl rfl rfl (O.buildSlice (vs := [(.int .u8 (IntKind.u8.wrap (n.fdiv (2 ^ 56)))), (.int .u8 (IntKind.u8.wrap (n.fdiv (2 ^ 48)))), (.int .u8 (IntKind.u8.wrap (n.fdiv (2 ^ 40)))), (.int .u8 (IntKind.u8.wrap (n.fdiv (2 ^ 32)))), (.int .u8 (IntKind.u8.wrap (n.fdiv (2 ^ 24)))), (.int .u8 (IntKind.u8.wrap (n.fdiv (2 ^ 16)))), (.int .u8 (IntKind.u8.wrap (n.fdiv (2 ^ 8)))), (.int .u8 (IntKind.u8.wrap (n)))]) rfl rfl rfl Tryz.underlying22 inf5 (by intro v hv; simp at hv; rcases hv with rfl | rfl | rfl | rfl | rfl | rfl | rfl | rfl <;> rfl) (by decide) ?_)
  intro b w1 hb hb1 hE hblk
  have hcat : catV [(.int .u8 (IntKind.u8.wrap (n.fdiv (2 ^ 56)))), (.int .u8 (IntKind.u8.wrap (n.fdiv (2 ^ 48)))), (.int .u8 (IntKind.u8.wrap (n.fdiv (2 ^ 40)))), (.int .u8 (IntKind.u8.wrap (n.fdiv (2 ^ 32)))), (.int .u8 (IntKind.u8.wrap (n.fdiv (2 ^ 24)))), (.int .u8 (IntKind.u8.wrap (n.fdiv (2 ^ 16)))), (.int .u8 (IntKind.u8.wrap (n.fdiv (2 ^ 8)))), (.int .u8 (IntKind.u8.wrap (n)))] = bcs (be8 n) := by
    have c7 := byte_cell n h0 h1 7; have c6 := byte_cell n h0 h1 6; have c5 := byte_cell n h0 h1 5; have c4 := byte_cell n h0 h1 4; have c3 := byte_cell n h0 h1 3; have c2 := byte_cell n h0 h1 2; have c1 := byte_cell n h0 h1 1; have c0 := byte_cell n h0 h1 0
    simp only [Nat.reduceMul, Nat.mul_zero, Int.pow_zero, Int.fdiv_one] at c7 c6 c5 c4 c3 c2 c1 c0
    simp only [catV, List.map_cons, List.map_nil, List.flatten_cons, List.flatten_nil, Value.cells, bcs, be8, c7, c6, c5, c4, c3, c2, c1, c0, bc]; rfl
  rw [hcat] at hblk
  have hA1 := Ext.agr hE hA
  have src : RS (hfOf w1) (.slice (some ⟨b, 0, none⟩) 8 8) 8 (bcs (be8 n)) := (Own.ofBlk (H := H) (B := w.heap.size) (s := 1) hblk hb (hA.none hb) rfl (by decide) (bcs_one _)).rsw
  refine SeqOps.put 30 rfl rfl rfl (O.append (H := H) (B := B) (v := v) (xs := bcs xs) (news := bcs (be8 n)) rfl rfl rfl Tryz.underlying22 inf5 rfl (own.ext hE) src rfl (by omega) (by omega) (Nat.le_trans hB hE.size) hA1 ?_)
  intro v2 w2 own2 hC2
  refine SeqOps.put 4 rfl rfl rfl (O.assign (v := v2) rfl rfl ?_)
  refine SeqOps.nil ?_
  refine hK2 _ _ ?_
  try clear hK2 K2
  refine W.ret ?_
  refine retQ_one rfl (v := v2) rfl ?_
  refine ⟨v2, rfl, ?_, (Chg.ofExt hE).trans hC2⟩
  have e : (xs ++ be8 n).length = xs.length + 8 := by simp [be8]
  unfold OwnB; rw [e, bcs_append]; exact own2
theorem num_int_calls {H : Heap} {w : World} {n : Int} (hA : Agr H w) (h0 : -9223372036854775808 ≤ n) (h1 : n ≤ 9223372036854775807) : Calls Tryz.prog 45 #[.int .i64 n] w (RetNew H w (be8 n)) := by
  refine calls_of_W (n := 6) Tryz.func45 rfl Tryz.ntmps45 (Nat.le_of_ble_eq_true rfl) ?_
  refine W.seq fun K1 hK1 => ?_
  refine W.region ?_
  refine SeqOps.put 2 rfl rfl rfl (O.assign (v := (.slice none 0 0)) rfl rfl ?_)
  refine SeqOps.nil ?_
  refine hK1 _ _ ?_
  try clear hK1 K1
  refine W.seq fun K2 hK2 => ?_
  refine W.region ?_
  refine SeqOps.put 3 rfl rfl rfl (O.move (v := (.int .i64 (n))) rfl rfl ?_)
  refine SeqOps.put 4 rfl rfl rfl (O.convInt (a := n) (c := n % 18446744073709551616) rfl rfl Tryz.underlying3 Tryz.underlying79 (by simp [IntKind.wrap, IntKind.bits, IntKind.signed]) ?_)
  refine SeqOps.put 5 rfl rfl rfl (O.call (fid := 99) (cap := #[]) (args := [(.slice none 0 0), (.int .u64 (n % 18446744073709551616))]) rfl rfl rfl Tryz.func99 rfl rfl ?_)
  refine Calls.mono (AppendUint64_calls (OwnB.nil H w w.heap.size) (Nat.le_refl _) hA (by omega) (by omega) (by simp)) ?_
  rintro e w1 ⟨v1, rfl, own1, hC1⟩
  refine ⟨_, rfl, ?_⟩
  refine SeqOps.put 2 rfl rfl rfl (O.assign (v := v1) rfl rfl ?_)
  refine SeqOps.nil ?_
  refine hK2 _ _ ?_
  try clear hK2 K2
  refine W.ret ?_
  refine retQ_one rfl (v := v1) rfl ?_
  refine ⟨v1, rfl, ?_, hC1.mono fun k hk => by cases hk⟩
  simpa [be8_mod] using own1
theorem num_int64_calls {H : Heap} {w : World} {n : Int} (hA : Agr H w) (h0 : -9223372036854775808 ≤ n) (h1 : n ≤ 9223372036854775807) : Calls Tryz.prog 46 #[.int .i64 n] w (RetNew H w (be8 n)) := by
  refine calls_of_W (n := 6) Tryz.func46 rfl Tryz.ntmps46 (Nat.le_of_ble_eq_true rfl) ?_
  refine W.seq fun K1 hK1 => ?_
  refine W.region ?_
  refine SeqOps.put 2 rfl rfl rfl (O.assign (v := (.slice none 0 0)) rfl rfl ?_)
  refine SeqOps.nil ?_
  refine hK1 _ _ ?_
  try clear hK1 K1
  refine W.seq fun K2 hK2 => ?_
  refine W.region ?_
  refine SeqOps.put 3 rfl rfl rfl (O.move (v := (.int .i64 (n))) rfl rfl ?_)
  refine SeqOps.put 4 rfl rfl rfl (O.convInt (a := n) (c := n % 18446744073709551616) rfl rfl Tryz.underlying2 Tryz.underlying79 (by simp [IntKind.wrap, IntKind.bits, IntKind.signed]) ?_)
  refine SeqOps.put 5 rfl rfl rfl (O.call (fid := 99) (cap := #[]) (args := [(.slice none 0 0), (.int .u64 (n % 18446744073709551616))]) rfl rfl rfl Tryz.func99 rfl rfl ?_)
  refine Calls.mono (AppendUint64_calls (OwnB.nil H w w.heap.size) (Nat.le_refl _) hA (by omega) (by omega) (by simp)) ?_
  rintro e w1 ⟨v1, rfl, own1, hC1⟩
  refine ⟨_, rfl, ?_⟩
  refine SeqOps.put 2 rfl rfl rfl (O.assign (v := v1) rfl rfl ?_)
  refine SeqOps.nil ?_
  refine hK2 _ _ ?_
  try clear hK2 K2
  refine W.ret ?_
  refine retQ_one rfl (v := v1) rfl ?_
  refine ⟨v1, rfl, ?_, hC1.mono fun k hk => by cases hk⟩
  simpa [be8_mod] using own1
theorem num_uint64_calls {H : Heap} {w : World} {n : Int} (hA : Agr H w) (h0 : 0 ≤ n) (h1 : n ≤ 18446744073709551615) : Calls Tryz.prog 104 #[.int .u64 n] w (RetNew H w (be8 n)) := by
  refine calls_of_W (n := 5) Tryz.func104 rfl Tryz.ntmps104 (Nat.le_of_ble_eq_true rfl) ?_
  refine W.seq fun K1 hK1 => ?_
  refine W.region ?_
  refine SeqOps.put 2 rfl rfl rfl (O.assign (v := (.slice none 0 0)) rfl rfl ?_)
  refine SeqOps.nil ?_
  refine hK1 _ _ ?_
  try clear hK1 K1
  refine W.seq fun K2 hK2 => ?_
  refine W.region ?_
  refine SeqOps.put 3 rfl rfl rfl (O.move (v := (.int .u64 (n))) rfl rfl ?_)
  refine SeqOps.put 4 rfl rfl rfl (O.call (fid := 99) (cap := #[]) (args := [(.slice none 0 0), (.int .u64 (n))]) rfl rfl rfl Tryz.func99 rfl rfl ?_)
  refine Calls.mono (AppendUint64_calls (OwnB.nil H w w.heap.size) (Nat.le_refl _) hA (by omega) (by omega) (by simp)) ?_
  rintro e w1 ⟨v1, rfl, own1, hC1⟩
  refine ⟨_, rfl, ?_⟩
  refine SeqOps.put 2 rfl rfl rfl (O.assign (v := v1) rfl rfl ?_)
  refine SeqOps.nil ?_
  refine hK2 _ _ ?_
  try clear hK2 K2
  refine W.ret ?_
  refine retQ_one rfl (v := v1) rfl ?_
  refine ⟨v1, rfl, ?_, hC1.mono fun k hk => by cases hk⟩
  simpa [be8_mod] using own1

theorem joinTail_take (ps : List (List UInt8)) {k : Nat} (hk : k < ps.length) : joinTail (ps.take (k + 1)) = joinTail (ps.take k) ++ (be8 (ps[k].length : Int) ++ ps[k]) := by
  rw [List.take_succ_eq_append_getElem hk, joinTail_append]; simp [joinTail]
theorem joinTail_take_le (ps : List (List UInt8)) (k : Nat) : (joinTail (ps.take k)).length ≤ (joinTail ps).length := by
  have := congrArg List.length (joinTail_append (ps.take k) (ps.drop k))
  rw [List.take_append_drop] at this
  simp at this; omega
theorem elem_le_joinTail : ∀ (ps : List (List UInt8)), ∀ p ∈ ps, p.length ≤ (joinTail ps).length
  | [], p, h => by cases h
  | q :: r, p, h => by
    simp only [joinTail, List.length_append]
    rcases List.mem_cons.1 h with rfl | h
    · omega
    · have := elem_le_joinTail r p h; omega
theorem join_length (ps : List (List UInt8)) : (join ps).length = 8 + (joinTail ps).length := by simp [join, be8]; omega
theorem joinTail_ge : ∀ (ps : List (List UInt8)), 8 * ps.length ≤ (joinTail ps).length
  | [] => by simp [joinTail]
  | q :: r => by have := joinTail_ge r; simp [joinTail, be8]; omega

theorem Join_calls {H : Heap} {w : World} {v : Value} {ps : List (List UInt8)} (hA : Agr H w) (r : RBB H v ps) (hlen : (join ps).length ≤ 35184372088832) : Calls Tryz.prog 44 #[v] w (RetNew H w (join ps)) := by
  obtain ⟨vs, h2, rs⟩ := r
  obtain ⟨ao, cap, rfl⟩ := rs.form
  have hjl := join_length ps
  have hge := joinTail_ge ps
  refine calls_of_W (n := 26) Tryz.func44 rfl Tryz.ntmps44 (Nat.le_of_ble_eq_true rfl) ?_
  refine W.seq fun K1 hK1 => ?_
  refine W.region ?_
  refine SeqOps.put 2 rfl rfl rfl (O.assign (v := (.slice none 0 0)) rfl rfl ?_)
  refine SeqOps.nil ?_
  refine hK1 _ _ ?_
  try clear hK1 K1
  refine W.seq fun K2 hK2 => ?_
  refine W.region ?_
  refine SeqOps.put 6 rfl rfl rfl (O.move (v := (.slice ao ps.length cap)) rfl rfl ?_)
  refine SeqOps.put 7 rfl rfl rfl (O.lenSlice (ad := ao) (n := ps.length) (c := cap) rfl rfl Tryz.underlying133 ?_)
  refine SeqOps.put 8 rfl rfl rfl (O.convInt (a := ((ps.length : Nat) : Int)) (c := (ps.length : Int)) rfl rfl Tryz.underlying3 Tryz.underlying79 (wrap_u64 (by omega) (by omega)) ?_)
  refine SeqOps.put 9 rfl rfl rfl (O.call (fid := 99) (cap := #[]) (args := [(.slice none 0 0), (.int .u64 ((ps.length : Int)))]) rfl rfl rfl Tryz.func99 rfl rfl ?_)
  refine Calls.mono (AppendUint64_calls (OwnB.nil H w w.heap.size) (Nat.le_refl _) hA (by omega) (by omega) (by simp)) ?_
  rintro e w1 ⟨o1, rfl, own1, hC1⟩
  have hE1 : Ext w w1 := hC1.mono fun k hk => by cases hk
  clear hC1
  rw [List.nil_append] at own1
  refine ⟨_, rfl, ?_⟩
  refine SeqOps.put 3 rfl rfl rfl (O.assign (v := o1) rfl rfl ?_)
  refine SeqOps.nil ?_
  refine hK2 _ _ ?_
  try clear hK2 K2
  refine W.seq fun K3 hK3 => ?_
  refine W.seq fun K4 hK4 => ?_
  refine W.region ?_
  refine SeqOps.put 10 rfl rfl rfl (O.move (v := (.slice ao ps.length cap)) rfl rfl ?_)
  refine SeqOps.put 11 rfl rfl rfl (O.lenSlice (ad := ao) (n := ps.length) (c := cap) rfl rfl Tryz.underlying133 ?_)
  refine SeqOps.put 12 rfl rfl rfl (O.move (v := (.int .i64 (0))) rfl rfl ?_)
  refine SeqOps.nil ?_
  refine hK4 _ _ ?_
  try clear hK4 K4
  refine W.block ?_
  refine W.loop [3, 10, 11, 12] (fun vals wk => ∃ out, ∃ k : Nat, vals = [out, .slice ao ps.length cap, .int .i64 (ps.length : Int), .int .i64 (k : Int)] ∧ k ≤ ps.length ∧ OwnB H wk w.heap.size out (be8 (ps.length : Int) ++ joinTail (ps.take k)) ∧ Ext w wk) (fun vals _ => ps.length - (intOf (vals.getD 3 undef)).toNat) ⟨o1, 0, rfl, Nat.zero_le _, by simpa [joinTail] using own1, hE1⟩ ?_
  rintro g _ wk ⟨out, k, rfl, hk, own, hE⟩
  have hAk := Ext.agr hE hA
  rcases Nat.lt_or_ge k ps.length with hlt | hge2
  · have hpl := elem_le_joinTail ps ps[k] (by simp)
    have htk := joinTail_take_le ps (k + 1)
    have htk1 := congrArg List.length (joinTail_take ps hlt)
    simp only [List.length_append, be8_length] at htk1
    obtain ⟨hvl, hel⟩ := h2.get hlt
    obtain ⟨ad, rfl, hcell⟩ := rs.elem (i := k) (u := vs[k]) (by simp)
    obtain ⟨ao2, cap2, hv2⟩ := hel.form
    rw [hv2] at hcell hel
    refine W.seq fun K5 hK5 => ?_
    refine W.region ?_
    refine SeqOps.put 13 rfl rfl rfl (O.cmp (a := (k : Int)) (b := (ps.length : Int)) (r := true) rfl rfl rfl (by simp [cmpI]; omega) ?_)
    refine SeqOps.nil ?_
    refine hK5 _ _ ?_
    try clear hK5 K5
    refine W.seq fun K6 hK6 => ?_
    refine W.cond_true rfl ?_
    refine W.skip ?_
    refine hK6 _ _ ?_
    try clear hK6 K6
    refine W.seq fun K7 hK7 => ?_
    refine W.block ?_
    refine W.seq fun K8 hK8 => ?_
    refine W.region ?_
    refine SeqOps.put 14 rfl rfl rfl (O.indexAddr (a := ad) (len := ps.length) (cap := cap) (i := (k : Int)) (sz := 1) (v := .pointer (some (ad.add k))) rfl rfl rfl Tryz.underlying133 sz22 (by omega) (by omega) (by simp) ?_)
    refine SeqOps.put 15 rfl rfl rfl (O.loadOne (a := ad.add k) (v := .slice ao2 ps[k].length cap2) rfl rfl Tryz.underlying22 rfl (hAk.cell hcell) ?_)
    refine SeqOps.put 5 rfl rfl rfl (O.assign (v := (.slice ao2 ps[k].length cap2)) rfl rfl ?_)
    refine SeqOps.nil ?_
    refine hK8 _ _ ?_
    try clear hK8 K8
    refine W.seq fun K9 hK9 => ?_
    refine W.region ?_
    refine SeqOps.put 16 rfl rfl rfl (O.move (v := out) rfl rfl ?_)
    refine SeqOps.put 17 rfl rfl rfl (O.move (v := (.slice ao2 ps[k].length cap2)) rfl rfl ?_)
    refine SeqOps.put 18 rfl rfl rfl (O.lenSlice (ad := ao2) (n := ps[k].length) (c := cap2) rfl rfl Tryz.underlying22 ?_)
    refine SeqOps.put 19 rfl rfl rfl (O.convInt (a := ((ps[k].length : Nat) : Int)) (c := ((ps[k].length : Nat) : Int)) rfl rfl Tryz.underlying3 Tryz.underlying79 (wrap_u64 (by omega) (by omega)) ?_)
    refine SeqOps.put 20 rfl rfl rfl (O.call (fid := 99) (cap := #[]) (args := [out, (.int .u64 (((ps[k].length : Nat) : Int)))]) rfl rfl rfl Tryz.func99 rfl rfl ?_)
    refine Calls.mono (AppendUint64_calls own hE.size hAk (by omega) (by omega) (by simp only [List.length_append, be8_length]; omega)) ?_
    rintro e w2 ⟨o2, rfl, own2, hC2⟩
    refine ⟨_, rfl, ?_⟩
    refine SeqOps.put 3 rfl rfl rfl (O.assign (v := o2) rfl rfl ?_)
    refine SeqOps.nil ?_
    refine hK9 _ _ ?_
    try clear hK9 K9
    refine W.region ?_
    refine SeqOps.put 21 rfl rfl rfl (O.move (v := o2) rfl rfl ?_)
    refine SeqOps.put 22 rfl rfl rfl (O.move (v := (.slice ao2 ps[k].length cap2)) rfl rfl ?_)
    have hE2 : Ext w w2 := hE.trans_new hC2 fun i hi => .inl (own.base hi).1
    have hA2 := Ext.agr hE2 hA
    refine SeqOps.put 23 rfl rfl rfl (O.append (H := H) (B := w.heap.size) (v := o2) (vx := .slice ao2 ps[k].length cap2) (m := ps[k].length) (news := bcs ps[k]) rfl rfl rfl Tryz.underlying22 inf5 rfl own2 (RS.mono hel hA2.le) (by simp [bcs]) (by simp only [List.length_append, be8_length]; omega) (by simp only [List.length_append, be8_length]; omega) hE2.size hA2 ?_)
    intro o3 w3 own3 hC3
    refine SeqOps.put 3 rfl rfl rfl (O.assign (v := o3) rfl rfl ?_)
    refine SeqOps.nil ?_
    refine hK7 _ _ ?_
    try clear hK7 K7
    refine W.region ?_
    refine SeqOps.put 24 rfl rfl rfl (O.arith (a := (k : Int)) (b := 1) (r := (k : Int) + 1) (c := (k : Int) + 1) rfl rfl rfl rfl (by exact wrap_i64 (by omega) (by omega)) ?_)
    refine SeqOps.put 12 rfl rfl rfl (O.move (v := (.int .i64 ((k : Int) + 1))) rfl rfl ?_)
    refine SeqOps.nil ?_
    refine ⟨⟨o3, k + 1, rfl, by omega, ?_, hE2.trans_new hC3 fun i hi => .inl (own2.base hi).1⟩, by show ps.length - ((k + 1 : Nat) : Int).toNat < ps.length - ((k : Nat) : Int).toNat; omega⟩
    have e : be8 (ps.length : Int) ++ joinTail (ps.take (k + 1)) = be8 (ps.length : Int) ++ joinTail (ps.take k) ++ be8 (ps[k].length : Int) ++ ps[k] := by rw [joinTail_take ps hlt]; simp [List.append_assoc]
    unfold OwnB; rw [e, bcs_append, List.length_append (bs := ps[k])]; exact own3
  have hkn : k = ps.length := by omega
  refine W.seq fun K10 hK10 => ?_
  refine W.region ?_
  refine SeqOps.put 13 rfl rfl rfl (O.cmp (a := (k : Int)) (b := (ps.length : Int)) (r := false) rfl rfl rfl (by simp [cmpI]; omega) ?_)
  refine SeqOps.nil ?_
  refine hK10 _ _ ?_
  try clear hK10 K10
  refine W.seq fun K11 hK11 => ?_
  refine W.cond_false rfl ?_
  refine W.exit ?_
  refine hK3 _ _ ?_
  try clear hK3 K3
  refine W.seq fun K12 hK12 => ?_
  refine W.region ?_
  refine SeqOps.put 25 rfl rfl rfl (O.move (v := out) rfl rfl ?_)
  refine SeqOps.put 2 rfl rfl rfl (O.assign (v := out) rfl rfl ?_)
  refine SeqOps.nil ?_
  refine hK12 _ _ ?_
  try clear hK12 K12
  refine W.ret ?_
  refine retQ_one rfl (v := out) rfl ?_
  refine ⟨out, rfl, ?_, hE⟩
  subst hkn; simpa [join] using own
end Go.Proofs.YtddpmpbngcbokaaGreatDoor

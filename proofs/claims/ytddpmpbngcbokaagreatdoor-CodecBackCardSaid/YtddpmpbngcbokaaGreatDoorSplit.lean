/- be.Uint64 and sha.Split. -/
import Derived.Test.YtddpmpbngcbokaaGreatDoorEnc
import Derived.Test.YtddpmpbngcbokaaGreatDoorDec
namespace Go.Proofs.YtddpmpbngcbokaaGreatDoor
open Go Go.RowKit
set_option maxRecDepth 100000


theorem O.shl {P : Program} {g : Fr} {w : World} {K : Value → World → Prop} {o : Oper} {T T' : TypeId} {x y : Operand} {kd ky : IntKind} {a c : Int} {b : Nat} (ho : o.op = .binOp .shl T x y T') (hx : evF g x = .int kd a) (hy : evF g y = .int ky b) (hb : b < kd.bits) (hc : kd.wrap (a * 2 ^ b) = c)
    (k : K (.int kd c) w) : OpT P o g w K := by
  refine OpT.run (v := .int kd c) (w' := w) ?_ k
  subst hc
  have hm : min b kd.bits = b := Nat.min_eq_left (Nat.le_of_lt hb)
  have hneg : ¬ ((b : Int) < 0) := by omega
  simp [execOp, ho, hx, hy, binOp, eqGuard, Op.shift, hm, hneg]
theorem O.orI {P : Program} {g : Fr} {w : World} {K : Value → World → Prop} {o : Oper} {T T' : TypeId} {x y : Operand} {kd : IntKind} {a b c : Int} (ho : o.op = .binOp .or T x y T') (hx : evF g x = .int kd a) (hy : evF g y = .int kd b)
    (hc : kd.wrap ((BitVec.ofInt kd.bits a ||| BitVec.ofInt kd.bits b).toNat : Int) = c) (k : K (.int kd c) w) : OpT P o g w K := by
  refine OpT.run (v := .int kd c) (w' := w) ?_ k
  subst hc
  simp [execOp, ho, hx, hy, binOp, eqGuard, Op.intBits]
theorem O.quo {P : Program} {g : Fr} {w : World} {K : Value → World → Prop} {o : Oper} {T T' : TypeId} {x y : Operand} {kd : IntKind} {a b c : Int} (ho : o.op = .binOp .quo T x y T') (hx : evF g x = .int kd a) (hy : evF g y = .int kd b) (hb : b ≠ 0)
    (hc : kd.wrap (a.tdiv b) = c) (k : K (.int kd c) w) : OpT P o g w K := by
  refine OpT.run (v := .int kd c) (w' := w) ?_ k
  subst hc
  simp [execOp, ho, hx, hy, binOp, eqGuard, Op.intDiv, hb]
theorem or_byte (n c : Nat) (hn : n < 72057594037927936) (hc : c < 256) : IntKind.u64.wrap ((BitVec.ofInt IntKind.u64.bits ((n : Int) * 256) ||| BitVec.ofInt IntKind.u64.bits (c : Int)).toNat : Int) = ((n * 256 + c : Nat) : Int) := by
  have h1 : (BitVec.ofInt IntKind.u64.bits ((n : Int) * 256)).toNat = n * 256 := by
    simp only [BitVec.toNat_ofInt, IntKind.bits]; omega
  have h2 : (BitVec.ofInt IntKind.u64.bits (c : Int)).toNat = c := by
    simp only [BitVec.toNat_ofInt, IntKind.bits]; omega
  rw [BitVec.toNat_or, h1, h2]
  have h3 : n * 256 ||| c = n * 256 + c := by
    have := Nat.shiftLeft_add_eq_or_of_lt (b := c) (i := 8) (by omega) n
    rw [Nat.shiftLeft_eq, show (2 : Nat) ^ 8 = 256 from rfl] at this
    omega
  rw [h3]
  exact wrap_u64 (by omega) (by omega)
theorem quo8 (m : Nat) (h : m ≤ 4611686018427387904) : IntKind.u64.wrap ((m : Int).tdiv 8) = ((m / 8 : Nat) : Int) := by
  have e : (m : Int).tdiv 8 = ((m / 8 : Nat) : Int) := rfl
  rw [e]
  exact wrap_u64 (by omega) (by omega)
theorem splitN_zero (b : List UInt8) : splitN 0 b = if b = [] then some [] else none := rfl
theorem splitN_succ (n : Nat) (b : List UInt8) : splitN (n + 1) b = if b.length < 8 then none else if b.length - 8 < dec8 (b.take 8) then none else (splitN n (b.drop (8 + dec8 (b.take 8)))).map fun r => (b.drop 8).take (dec8 (b.take 8)) :: r := rfl
theorem dec8_take (bs : List UInt8) {k : Nat} (hk : k < bs.length) : dec8 (bs.take (k + 1)) = dec8 (bs.take k) * 256 + bs[k].toNat := by
  unfold dec8
  rw [List.take_succ_eq_append_getElem hk, List.foldl_append]; rfl
theorem dec8_take_lt (bs : List UInt8) (k : Nat) : dec8 (bs.take k) < 256 ^ k := by
  have h := foldl_lt (bs.take k) 0 0 (by decide)
  rw [Nat.zero_add] at h
  exact Nat.lt_of_lt_of_le h (Nat.pow_le_pow_right (by decide) (List.length_take_le _ _))

theorem Uint64_calls {H : Heap} {w : World} {v : Value} {bs : List UInt8} (hA : Agr H w) (r : RB H v bs) (h8 : 8 ≤ bs.length) : Calls Tryz.prog 128 #[v] w (fun e w' => e = .returned (.int .u64 (dec8 (bs.take 8) : Int)) ∧ w = w') := by
  obtain ⟨ao, cap, rfl⟩ := RS.form r
  refine calls_of_W (n := 20) Tryz.func128 rfl Tryz.ntmps128 (Nat.le_of_ble_eq_true rfl) ?_
  refine W.seq fun K1 hK1 => ?_
  refine W.region ?_
  refine SeqOps.put 2 rfl rfl rfl (O.assign (v := (.int .u64 (0))) rfl rfl ?_)
  refine SeqOps.nil ?_
  refine hK1 _ _ ?_
  try clear hK1 K1
  refine W.seq fun K2 hK2 => ?_
  refine W.region ?_
  refine SeqOps.put 3 rfl rfl rfl (O.assign (v := (.int .u64 (0))) rfl rfl ?_)
  refine SeqOps.nil ?_
  refine hK2 _ _ ?_
  try clear hK2 K2
  refine W.seq fun K3 hK3 => ?_
  refine W.seq fun K4 hK4 => ?_
  refine W.region ?_
  refine SeqOps.put 6 rfl rfl rfl (O.move (v := (.slice ao bs.length cap)) rfl rfl ?_)
  refine SeqOps.put 7 rfl rfl rfl (O.slice (H := H) (ao := ao) (n := bs.length) (cap := cap) (s := 1) (cells := bcs bs) (l := 0) (h := 8) rfl rfl Tryz.underlying22 sz5 rfl ⟨.i64, rfl⟩ r (by simp [bcs]) (by omega) h8 ?_)
  rintro v7 r7 ⟨ao7, cap7, rfl⟩
  refine SeqOps.put 8 rfl rfl rfl (O.lenSlice (ad := ao7) (n := 8 - 0) (c := cap7) rfl rfl Tryz.underlying22 ?_)
  refine SeqOps.put 9 rfl rfl rfl (O.move (v := (.int .i64 (0))) rfl rfl ?_)
  refine SeqOps.nil ?_
  refine hK4 _ _ ?_
  try clear hK4 K4
  refine W.block ?_
  refine W.loop [3, 7, 8, 9] (fun vals wk => ∃ k : Nat, vals = [.int .u64 (dec8 (bs.take k) : Int), .slice ao7 (8 - 0) cap7, .int .i64 ((8 - 0 : Nat) : Int), .int .i64 (k : Int)] ∧ k ≤ 8 ∧ w = wk) (fun vals _ => 8 - (intOf (vals.getD 3 undef)).toNat) ⟨0, rfl, by omega, rfl⟩ ?_
  rintro g _ wk ⟨k, rfl, hk, rfl⟩
  rcases Nat.lt_or_ge k 8 with hlt | hge
  · have hel : ((bcs bs).drop (0 * 1)).take ((8 - 0) * 1) = bcs (bs.take 8) := by simp [bcs, List.map_take]
    rw [hel] at r7
    have hkb : k < bs.length := by omega
    obtain ⟨ad, rfl, hcell⟩ := RS.elem r7 (i := k) (u := bc bs[k]) (by simp [bcs, List.getElem?_take, hlt, hkb])
    have hd := dec8_take bs hkb
    have hdl := dec8_take_lt bs k
    have hp : 256 ^ k ≤ 256 ^ 7 := Nat.pow_le_pow_right (by decide) (by omega)
    have hdl2 : dec8 (bs.take k) < 72057594037927936 := Nat.lt_of_lt_of_le hdl hp
    have hbk := bs[k].toNat_lt
    clear hp hdl
    refine W.seq fun K5 hK5 => ?_
    refine W.region ?_
    refine SeqOps.put 10 rfl rfl rfl (O.cmp (a := (k : Int)) (b := ((8 - 0 : Nat) : Int)) (r := true) rfl rfl rfl (by simp [cmpI]; omega) ?_)
    refine SeqOps.nil ?_
    refine hK5 _ _ ?_
    try clear hK5 K5
    refine W.seq fun K6 hK6 => ?_
    refine W.cond_true rfl ?_
    refine W.skip ?_
    refine hK6 _ _ ?_
    try clear hK6 K6
    refine W.seq fun K7 hK7 => ?_
    refine W.block ?_
    refine W.seq fun K8 hK8 => ?_
    refine W.region ?_
    refine SeqOps.put 11 rfl rfl rfl (O.indexAddr (a := ad) (len := 8 - 0) (cap := cap7) (i := (k : Int)) (sz := 1) (v := .pointer (some (ad.add k))) rfl rfl rfl Tryz.underlying22 sz5 (by omega) (by omega) (by simp) ?_)
    refine SeqOps.put 12 rfl rfl rfl (O.loadOne (a := ad.add k) (v := bc bs[k]) rfl rfl Tryz.underlying5 rfl (hA.cell hcell) ?_)
    refine SeqOps.put 5 rfl rfl rfl (O.assign (v := (.int .u8 ((bs[k].toNat : Int)))) rfl rfl ?_)
    refine SeqOps.nil ?_
    refine hK8 _ _ ?_
    try clear hK8 K8
    refine W.region ?_
    refine SeqOps.put 13 rfl rfl rfl (O.move (v := (.int .u64 ((dec8 (bs.take k) : Int)))) rfl rfl ?_)
    refine SeqOps.put 14 rfl rfl rfl (O.shl (a := (dec8 (bs.take k) : Int)) (b := 8) (c := (dec8 (bs.take k) : Int) * 256) rfl rfl rfl (by decide) (wrap_u64 (by omega) (by omega)) ?_)
    refine SeqOps.put 15 rfl rfl rfl (O.move (v := (.int .u8 ((bs[k].toNat : Int)))) rfl rfl ?_)
    refine SeqOps.put 16 rfl rfl rfl (O.convInt (a := (bs[k].toNat : Int)) (c := (bs[k].toNat : Int)) rfl rfl Tryz.underlying5 Tryz.underlying79 (by first | rfl | exact wrap_u64 (by omega) (by omega) | exact wrap_i64 (by omega) (by omega)) ?_)
    refine SeqOps.put 17 rfl rfl rfl (O.orI (a := (dec8 (bs.take k) : Int) * 256) (b := (bs[k].toNat : Int)) (c := (dec8 (bs.take (k + 1)) : Int)) rfl rfl rfl (by rw [or_byte _ _ hdl2 hbk, hd]) ?_)
    refine SeqOps.put 3 rfl rfl rfl (O.assign (v := (.int .u64 ((dec8 (bs.take (k + 1)) : Int)))) rfl rfl ?_)
    refine SeqOps.nil ?_
    refine hK7 _ _ ?_
    try clear hK7 K7
    refine W.region ?_
    refine SeqOps.put 18 rfl rfl rfl (O.arith (a := (k : Int)) (b := 1) (r := (k : Int) + 1) (c := (k : Int) + 1) rfl rfl rfl rfl (by exact wrap_i64 (by omega) (by omega)) ?_)
    refine SeqOps.put 9 rfl rfl rfl (O.move (v := (.int .i64 ((k : Int) + 1))) rfl rfl ?_)
    refine SeqOps.nil ?_
    exact ⟨⟨k + 1, rfl, by omega, rfl⟩, by show 8 - ((k + 1 : Nat) : Int).toNat < 8 - ((k : Nat) : Int).toNat; omega⟩
  have hk8 : k = 8 := by omega
  refine W.seq fun K9 hK9 => ?_
  refine W.region ?_
  refine SeqOps.put 10 rfl rfl rfl (O.cmp (a := (k : Int)) (b := ((8 - 0 : Nat) : Int)) (r := false) rfl rfl rfl (by simp [cmpI]; omega) ?_)
  refine SeqOps.nil ?_
  refine hK9 _ _ ?_
  try clear hK9 K9
  refine W.seq fun K10 hK10 => ?_
  refine W.cond_false rfl ?_
  refine W.exit ?_
  refine hK3 _ _ ?_
  try clear hK3 K3
  refine W.seq fun K11 hK11 => ?_
  refine W.region ?_
  refine SeqOps.put 19 rfl rfl rfl (O.move (v := (.int .u64 ((dec8 (bs.take k) : Int)))) rfl rfl ?_)
  refine SeqOps.put 2 rfl rfl rfl (O.assign (v := (.int .u64 ((dec8 (bs.take k) : Int)))) rfl rfl ?_)
  refine SeqOps.nil ?_
  refine hK11 _ _ ?_
  try clear hK11 K11
  refine W.ret ?_
  subst hk8; exact retQ_one rfl rfl ⟨rfl, rfl⟩


abbrev NH : Heap := fun _ => none
theorem Agr.NH (w : World) : Agr NH w := fun _ _ e => by cases e
/-- Unfrozen rows of cells alone. -/
def Unf (N : Heap) : Prop := ∀ k o, N k = some o → ∃ c e, o = .cells c e (0, 0)
/-- New memory: X has changed, N lies in new blocks. -/
structure New (w : World) (X : Nat → Prop) (N : Heap) (w' : World) : Prop where
  st : St NH w X N w'
  unf : Unf N
theorem New.start (w : World) (X : Nat → Prop) : New w X NH w := ⟨St.start X (Agr.NH w), fun _ _ e => by cases e⟩
theorem New.low {w w' : World} {X : Nat → Prop} {N : Heap} (h : New w X N w') {k : Nat} {o : Obj} (e : N k = some o) : w.heap.size ≤ k := by
  rcases Nat.lt_or_ge k w.heap.size with hlt | hge
  · rw [h.st.low k hlt] at e; cases e
  · exact hge
theorem New.new {w w1 w2 : World} {X : Nat → Prop} {N : Heap} (h : New w X N w1) (c : Ext w1 w2) : New w X N w2 := ⟨h.st.new c, h.unf⟩
theorem New.step {w w1 w2 : World} {X Y : Nat → Prop} {N : Heap} (h : New w X N w1) (c : Chg Y w1 w2) (hY : ∀ i, Y i → (w.heap.size ≤ i ∨ X i) ∧ N i = none) : New w X N w2 := ⟨h.st.step c hY, h.unf⟩
theorem New.agr {w w1 : World} {N H : Heap} (h : New w NoX N w1) (hA : Agr H w) : Agr H w1 := Ext.agr h.st.chg hA
theorem New.add {w w1 : World} {X : Nat → Prop} {N : Heap} (h : New w X N w1) {b : Nat} {c : Array Value} {e : TypeId} (hb : w1.heap[b]? = some (.cells c e (0, 0))) (hn : N b = none) (hnew : w.heap.size ≤ b) : New w X (Hadd N b (.cells c e (0, 0))) w1 :=
  ⟨h.st.freeze hb hn hnew, fun k o ho => by
    by_cases hk : k = b
    · subst hk; rw [Hadd_same] at ho; cases ho; exact ⟨_, _, rfl⟩
    · rw [Hadd_ne N _ hk] at ho; exact h.unf k o ho⟩
theorem Own.join {N : Heap} {w0 w : World} {X : Nat → Prop} {B : Nat} {E : TypeId} {s : Nat} {v : Value} {n : Nat} {xs : List Value} (h : Own N w B E s v n xs) (st : New w0 X N w) (hB : w0.heap.size ≤ B) :
    ∃ N', Hle N N' ∧ New w0 X N' w ∧ (∀ k, v.ownBlock ≠ some k → N' k = N k) ∧ RS N' v n xs := by
  rcases h.row.2 with ⟨hv, hn⟩ | ⟨g, cap, cur, hv, hg, hh, _⟩
  · exact ⟨N, Hle.refl _, st, fun _ _ => rfl, h.rs fun k o hk => by rw [hv] at hk; simp [Value.ownBlock] at hk⟩
  · have hgn : N g = none := h.out g (by rw [hv]; rfl)
    refine ⟨Hadd N g _, Hle.add _ hgn, st.add hh hgn (by omega), fun k hk => Hadd_ne N _ fun e => hk (by rw [hv, e]; rfl), h.rs fun k o hk e => ?_⟩
    rw [hv] at hk
    simp [Value.ownBlock] at hk
    subst hk
    rw [hh] at e
    cases e
    exact Hadd_same _ _ _
/-- Two snapshots that fit together. -/
def Hm (H N : Heap) : Heap := fun k => match N k with | some o => some o | none => H k
theorem Hm.right (H N : Heap) : Hle N (Hm H N) := fun k o e => by simp [Hm, e]
theorem Hm.left {H N : Heap} {w w' : World} {X : Nat → Prop} (hA : Agr H w) (h : New w X N w') : Hle H (Hm H N) := fun k o e => by
  have hlt := hA.lt e
  have : N k = none := by rw [h.st.low k hlt]
  simp [Hm, this, e]
theorem Hm.agr {H N : Heap} {w : World} (hA : Agr H w) (hN : Agr N w) : Agr (Hm H N) w := fun k o e => by
  unfold Hm at e
  cases hn : N k with
  | some o' => rw [hn] at e; cases e; exact hN k o hn
  | none => rw [hn] at e; exact hA k o e
theorem Hm.none {H N : Heap} {k : Nat} (h : H k = none) (h' : N k = none) : Hm H N k = none := by simp [Hm, h, h']
/-- One piece of new memory behind another. -/
theorem New.trans {w w1 w2 : World} {X Y : Nat → Prop} {N M : Heap} (h : New w X N w1) (k : New w1 Y M w2) (hY : ∀ i, Y i → (w.heap.size ≤ i ∨ X i) ∧ N i = Option.none) : New w X (Hm N M) w2 := by
  have hst := h.st.step k.st.chg hY
  refine ⟨⟨hst.chg, (fun _ _ e => by cases e), Hm.agr hst.agr k.st.agr, fun i hi => Hm.none (hst.low i hi) ?_⟩, fun i o e => ?_⟩
  · rw [k.st.low i (Nat.lt_of_lt_of_le hi h.st.chg.size)]
  · unfold Hm at e
    cases hm : M i with
    | some o' => rw [hm] at e; cases e; exact k.unf i o hm
    | none => rw [hm] at e; exact h.unf i o e
theorem New.le1 {w w1 w2 : World} {X Y : Nat → Prop} {N M : Heap} (h : New w X N w1) (k : New w1 Y M w2) : Hle N (Hm N M) := Hm.left h.st.agr k


def RetSplit (w : World) (bs : List UInt8) : Ending → World → Prop := fun e w' => ∃ N v', New w NoX N w' ∧ ((∃ l, split bs = some l ∧ e = .returned (.tuple #[v', .bool true]) ∧ RBB N v' l) ∨ (split bs = none ∧ v' = .slice none 0 0 ∧ e = .returned (.tuple #[v', .bool false])))
theorem Split_calls {H : Heap} {w : World} {v : Value} {bs : List UInt8} (hA : Agr H w) (r : RB H v bs) (hlen : bs.length ≤ 1099511627776) : Calls Tryz.prog 123 #[v] w (RetSplit w bs) := by
  obtain ⟨ao, cap, rfl⟩ := RS.form r
  refine calls_of_W (n := 55) Tryz.func123 rfl Tryz.ntmps123 (Nat.le_of_ble_eq_true rfl) ?_
  rcases Nat.lt_or_ge bs.length 8 with hshort | h8
  · refine W.seq fun K1 hK1 => ?_
    refine W.region ?_
    refine SeqOps.put 2 rfl rfl rfl (O.assign (v := (.slice none 0 0)) rfl rfl ?_)
    refine SeqOps.put 3 rfl rfl rfl (O.assign (v := (.bool (false))) rfl rfl ?_)
    refine SeqOps.nil ?_
    refine hK1 _ _ ?_
    try clear hK1 K1
    refine W.seq fun K2 hK2 => ?_
    refine W.seq fun K3 hK3 => ?_
    refine W.region ?_
    refine SeqOps.put 7 rfl rfl rfl (O.move (v := (.slice ao bs.length cap)) rfl rfl ?_)
    refine SeqOps.put 8 rfl rfl rfl (O.lenSlice (ad := ao) (n := bs.length) (c := cap) rfl rfl Tryz.underlying22 ?_)
    refine SeqOps.put 9 rfl rfl rfl (O.cmp (a := ((bs.length : Nat) : Int)) (b := 8) (r := true) rfl rfl rfl (by simp [cmpI]; omega) ?_)
    refine SeqOps.nil ?_
    refine hK3 _ _ ?_
    try clear hK3 K3
    refine W.cond_true rfl ?_
    refine W.seq fun K4 hK4 => ?_
    refine W.region ?_
    refine SeqOps.put 2 rfl rfl rfl (O.assign (v := (.slice none 0 0)) rfl rfl ?_)
    refine SeqOps.put 3 rfl rfl rfl (O.assign (v := (.bool (false))) rfl rfl ?_)
    refine SeqOps.nil ?_
    refine hK4 _ _ ?_
    try clear hK4 K4
    refine W.ret ?_
    exact retQ_two rfl rfl rfl ⟨NH, _, New.start w NoX, .inr ⟨by unfold Go.Proofs.YtddpmpbngcbokaaGreatDoor.split; rw [if_pos hshort], rfl, rfl⟩⟩
  have hd8 := dec8_lt (l := bs.take 8) (by simp; omega)
  generalize hn : dec8 (bs.take 8) = n at hd8
  have hsp : split bs = splitN n (bs.drop 8) := by rw [← hn]; unfold Go.Proofs.YtddpmpbngcbokaaGreatDoor.split; rw [if_neg (by omega)]
  refine W.seq fun K5 hK5 => ?_
  refine W.region ?_
  refine SeqOps.put 2 rfl rfl rfl (O.assign (v := (.slice none 0 0)) rfl rfl ?_)
  refine SeqOps.put 3 rfl rfl rfl (O.assign (v := (.bool (false))) rfl rfl ?_)
  refine SeqOps.nil ?_
  refine hK5 _ _ ?_
  try clear hK5 K5
  refine W.seq fun K6 hK6 => ?_
  refine W.seq fun K7 hK7 => ?_
  refine W.region ?_
  refine SeqOps.put 7 rfl rfl rfl (O.move (v := (.slice ao bs.length cap)) rfl rfl ?_)
  refine SeqOps.put 8 rfl rfl rfl (O.lenSlice (ad := ao) (n := bs.length) (c := cap) rfl rfl Tryz.underlying22 ?_)
  refine SeqOps.put 9 rfl rfl rfl (O.cmp (a := ((bs.length : Nat) : Int)) (b := 8) (r := false) rfl rfl rfl (by simp [cmpI]; omega) ?_)
  refine SeqOps.nil ?_
  refine hK7 _ _ ?_
  try clear hK7 K7
  refine W.cond_false rfl ?_
  refine W.skip ?_
  refine hK6 _ _ ?_
  try clear hK6 K6
  refine W.seq fun K8 hK8 => ?_
  refine W.region ?_
  refine SeqOps.put 10 rfl rfl rfl (O.move (v := (.slice ao bs.length cap)) rfl rfl ?_)
  refine SeqOps.put 11 rfl rfl rfl (O.call (fid := 128) (cap := #[]) (args := [(.slice ao bs.length cap)]) rfl rfl rfl Tryz.func128 rfl rfl ?_)
  refine Calls.mono (Uint64_calls hA r h8) ?_
  rintro e w1 ⟨rfl, rfl⟩
  refine ⟨_, rfl, ?_⟩
  refine SeqOps.put 4 rfl rfl rfl (O.assign (v := (.int .u64 ((dec8 (bs.take 8) : Int)))) rfl rfl ?_)
  refine SeqOps.nil ?_
  refine hK8 _ _ ?_
  try clear hK8 K8
  refine W.seq fun K9 hK9 => ?_
  refine W.region ?_
  refine SeqOps.put 12 rfl rfl rfl (O.move (v := (.slice ao bs.length cap)) rfl rfl ?_)
  refine SeqOps.put 13 rfl rfl rfl (O.slice (H := H) (ao := ao) (n := bs.length) (cap := cap) (s := 1) (cells := bcs bs) (l := 8) (h := bs.length) rfl rfl Tryz.underlying22 sz5 ⟨.i64, rfl⟩ rfl r (by simp [bcs]) h8 (Nat.le_refl _) ?_)
  rintro v13 r13 ⟨ao13, cap13, rfl⟩
  have e13 : ((bcs bs).drop (8 * 1)).take ((bs.length - 8) * 1) = bcs (bs.drop 8) := by simp only [Nat.mul_one, bcs, List.map_drop]; exact List.take_of_length_le (by simp)
  rw [e13] at r13
  refine SeqOps.put 0 rfl rfl rfl (O.assign (v := (.slice ao13 (bs.length - 8) cap13)) rfl rfl ?_)
  refine SeqOps.nil ?_
  refine hK9 _ _ ?_
  try clear hK9 K9
  refine W.seq fun K10 hK10 => ?_
  refine W.seq fun K11 hK11 => ?_
  refine W.region ?_
  refine SeqOps.put 14 rfl rfl rfl (O.move (v := (.int .u64 ((dec8 (bs.take 8) : Int)))) rfl rfl ?_)
  refine SeqOps.put 15 rfl rfl rfl (O.move (v := (.slice ao13 (bs.length - 8) cap13)) rfl rfl ?_)
  refine SeqOps.put 16 rfl rfl rfl (O.lenSlice (ad := ao13) (n := (bs.length - 8)) (c := cap13) rfl rfl Tryz.underlying22 ?_)
  refine SeqOps.put 17 rfl rfl rfl (O.convInt (a := (((bs.length - 8) : Nat) : Int)) (c := ((bs.length - 8 : Nat) : Int)) rfl rfl Tryz.underlying3 Tryz.underlying79 (wrap_u64 (by omega) (by omega)) ?_)
  refine SeqOps.put 18 rfl rfl rfl (O.quo (a := ((bs.length - 8 : Nat) : Int)) (b := 8) (c := (((bs.length - 8) / 8 : Nat) : Int)) rfl rfl rfl (by decide) (quo8 (bs.length - 8) (by omega)) ?_)
  refine SeqOps.put 19 rfl rfl rfl (O.cmp (a := (dec8 (bs.take 8) : Int)) (b := (((bs.length - 8) / 8 : Nat) : Int)) (r := decide ((dec8 (bs.take 8) : Int) > (((bs.length - 8) / 8 : Nat) : Int))) rfl rfl rfl rfl ?_)
  refine SeqOps.nil ?_
  refine hK11 _ _ ?_
  try clear hK11 K11
  by_cases hmany : (bs.length - 8) / 8 < n
  · refine W.cond_true (show evF _ _ = .bool true from congrArg Value.bool (decide_eq_true (by omega))) ?_
    refine W.seq fun K12 hK12 => ?_
    refine W.region ?_
    refine SeqOps.put 2 rfl rfl rfl (O.assign (v := (.slice none 0 0)) rfl rfl ?_)
    refine SeqOps.put 3 rfl rfl rfl (O.assign (v := (.bool (false))) rfl rfl ?_)
    refine SeqOps.nil ?_
    refine hK12 _ _ ?_
    try clear hK12 K12
    refine W.ret ?_
    exact retQ_two rfl rfl rfl ⟨NH, _, New.start w NoX, .inr ⟨by rw [hsp]; exact splitN_few _ _ (by simp; omega), rfl, rfl⟩⟩
  refine W.cond_false (show evF _ _ = .bool false from congrArg Value.bool (decide_eq_false (by omega))) ?_
  refine W.skip ?_
  refine hK10 _ _ ?_
  try clear hK10 K10
  refine W.seq fun K13 hK13 => ?_
  refine W.region ?_
  refine SeqOps.put 5 rfl rfl rfl (O.assign (v := (.slice none 0 0)) rfl rfl ?_)
  refine SeqOps.nil ?_
  refine hK13 _ _ ?_
  try clear hK13 K13
  refine W.seq fun K14 hK14 => ?_
  refine W.seq fun K15 hK15 => ?_
  refine W.region ?_
  refine SeqOps.put 20 rfl rfl rfl (O.move (v := (.int .u64 ((dec8 (bs.take 8) : Int)))) rfl rfl ?_)
  refine SeqOps.put 21 rfl rfl rfl (O.move (v := (.int .u64 (0))) rfl rfl ?_)
  refine SeqOps.nil ?_
  refine hK15 _ _ ?_
  try clear hK15 K15
  refine W.block ?_
  refine W.loop [0, 5, 20, 21] (fun vals wk => ∃ N rv all vs rest ps, ∃ k : Nat, vals = [rv, all, .int .u64 (n : Int), .int .u64 (k : Int)] ∧ k ≤ n ∧ splitN n (bs.drop 8) = (splitN (n - k) rest).map (ps ++ ·) ∧ 8 * k + rest.length ≤ bs.length ∧ RB H rv rest ∧ ps.length = k ∧ New w NoX N wk ∧ Own N wk w.heap.size 22 1 all k vs ∧ All2 (RB N) vs ps) (fun vals _ => n - (intOf (vals.getD 3 undef)).toNat) ⟨NH, _, _, [], bs.drop 8, [], 0, by rw [← hn]; rfl, by omega, by simp, by simp, by unfold RB; rw [List.length_drop]; exact r13, rfl, New.start w NoX, Own.nil _ _ _ _ _, .nil⟩ ?_
  rintro g _ wk ⟨N, rv, all, vs, rest, ps, k, rfl, hk, hspl, hsz, rr, hps, st, own, h2⟩
  have hAk := st.agr hA
  obtain ⟨ao2, cap2, rfl⟩ := RS.form rr
  rcases Nat.lt_or_ge k n with hlt | hge
  · obtain ⟨j, hj⟩ : ∃ j, n - k = j + 1 := ⟨n - k - 1, by omega⟩
    rw [hj, splitN_succ] at hspl
    rcases Nat.lt_or_ge rest.length 8 with hr8 | hr8
    · rw [if_pos hr8] at hspl
      refine W.seq fun K16 hK16 => ?_
      refine W.region ?_
      refine SeqOps.put 22 rfl rfl rfl (O.cmp (a := (k : Int)) (b := (n : Int)) (r := true) rfl rfl rfl (by simp [cmpI]; omega) ?_)
      refine SeqOps.nil ?_
      refine hK16 _ _ ?_
      try clear hK16 K16
      refine W.seq fun K17 hK17 => ?_
      refine W.cond_true rfl ?_
      refine W.skip ?_
      refine hK17 _ _ ?_
      try clear hK17 K17
      refine W.seq fun K18 hK18 => ?_
      refine W.block ?_
      refine W.seq fun K19 hK19 => ?_
      refine W.seq fun K20 hK20 => ?_
      refine W.region ?_
      refine SeqOps.put 23 rfl rfl rfl (O.move (v := (.slice ao2 rest.length cap2)) rfl rfl ?_)
      refine SeqOps.put 24 rfl rfl rfl (O.lenSlice (ad := ao2) (n := rest.length) (c := cap2) rfl rfl Tryz.underlying22 ?_)
      refine SeqOps.put 25 rfl rfl rfl (O.cmp (a := ((rest.length : Nat) : Int)) (b := 8) (r := true) rfl rfl rfl (by simp [cmpI]; omega) ?_)
      refine SeqOps.put 26 rfl rfl rfl (O.move (v := (.bool (true))) rfl rfl ?_)
      refine SeqOps.put_off 27 rfl rfl rfl rfl rfl ?_
      refine SeqOps.put_off 28 rfl rfl rfl rfl rfl ?_
      refine SeqOps.put_off 29 rfl rfl rfl rfl rfl ?_
      refine SeqOps.put_off 30 rfl rfl rfl rfl rfl ?_
      refine SeqOps.put_off 31 rfl rfl rfl rfl rfl ?_
      refine SeqOps.put_off 32 rfl rfl rfl rfl rfl ?_
      refine SeqOps.put_off 33 rfl rfl rfl rfl rfl ?_
      refine SeqOps.put 34 rfl rfl rfl (O.pick (b := true) (v := (.bool (true))) rfl rfl rfl ?_)
      refine SeqOps.nil ?_
      refine hK20 _ _ ?_
      try clear hK20 K20
      refine W.cond_true rfl ?_
      refine W.seq fun K21 hK21 => ?_
      refine W.region ?_
      refine SeqOps.put 2 rfl rfl rfl (O.assign (v := (.slice none 0 0)) rfl rfl ?_)
      refine SeqOps.put 3 rfl rfl rfl (O.assign (v := (.bool (false))) rfl rfl ?_)
      refine SeqOps.nil ?_
      refine hK21 _ _ ?_
      try clear hK21 K21
      refine W.ret ?_
      exact retQ_two rfl rfl rfl ⟨N, _, st, .inr ⟨by rw [hsp, hspl]; rfl, rfl, rfl⟩⟩
    rw [if_neg (by omega)] at hspl
    have hm8 := dec8_lt (l := rest.take 8) (by simp; omega)
    generalize hm : dec8 (rest.take 8) = m at hm8 hspl
    by_cases hbig : rest.length - 8 < m
    · rw [if_pos hbig] at hspl
      refine W.seq fun K22 hK22 => ?_
      refine W.region ?_
      refine SeqOps.put 22 rfl rfl rfl (O.cmp (a := (k : Int)) (b := (n : Int)) (r := true) rfl rfl rfl (by simp [cmpI]; omega) ?_)
      refine SeqOps.nil ?_
      refine hK22 _ _ ?_
      try clear hK22 K22
      refine W.seq fun K23 hK23 => ?_
      refine W.cond_true rfl ?_
      refine W.skip ?_
      refine hK23 _ _ ?_
      try clear hK23 K23
      refine W.seq fun K24 hK24 => ?_
      refine W.block ?_
      refine W.seq fun K25 hK25 => ?_
      refine W.seq fun K26 hK26 => ?_
      refine W.region ?_
      refine SeqOps.put 23 rfl rfl rfl (O.move (v := (.slice ao2 rest.length cap2)) rfl rfl ?_)
      refine SeqOps.put 24 rfl rfl rfl (O.lenSlice (ad := ao2) (n := rest.length) (c := cap2) rfl rfl Tryz.underlying22 ?_)
      refine SeqOps.put 25 rfl rfl rfl (O.cmp (a := ((rest.length : Nat) : Int)) (b := 8) (r := false) rfl rfl rfl (by simp [cmpI]; omega) ?_)
      refine SeqOps.put 26 rfl rfl rfl (O.move (v := (.bool (false))) rfl rfl ?_)
      refine SeqOps.put_on 27 rfl rfl rfl rfl (O.move (v := (.slice ao2 rest.length cap2)) rfl rfl ?_)
      refine SeqOps.put_on 28 rfl rfl rfl rfl (O.call (fid := 128) (cap := #[]) (args := [(.slice ao2 rest.length cap2)]) rfl rfl rfl Tryz.func128 rfl rfl ?_)
      refine Calls.mono (Uint64_calls hAk rr hr8) ?_
      rintro e w1 ⟨rfl, rfl⟩
      rw [hm]
      refine ⟨_, rfl, ?_⟩
      refine SeqOps.put_on 29 rfl rfl rfl rfl (O.move (v := (.slice ao2 rest.length cap2)) rfl rfl ?_)
      refine SeqOps.put_on 30 rfl rfl rfl rfl (O.lenSlice (ad := ao2) (n := rest.length) (c := cap2) rfl rfl Tryz.underlying22 ?_)
      refine SeqOps.put_on 31 rfl rfl rfl rfl (O.arith (a := ((rest.length : Nat) : Int)) (b := 8) (r := ((rest.length : Nat) : Int) - 8) (c := ((rest.length - 8 : Nat) : Int)) rfl rfl rfl rfl (by rw [wrap_i64 (by omega) (by omega)]; omega) ?_)
      refine SeqOps.put_on 32 rfl rfl rfl rfl (O.convInt (a := ((rest.length - 8 : Nat) : Int)) (c := ((rest.length - 8 : Nat) : Int)) rfl rfl Tryz.underlying3 Tryz.underlying79 (wrap_u64 (by omega) (by omega)) ?_)
      refine SeqOps.put_on 33 rfl rfl rfl rfl (O.cmp (a := (m : Int)) (b := ((rest.length - 8 : Nat) : Int)) (r := true) rfl rfl rfl (by simp [cmpI]; omega) ?_)
      refine SeqOps.put 34 rfl rfl rfl (O.pick (b := false) (v := (.bool (true))) rfl rfl rfl ?_)
      refine SeqOps.nil ?_
      refine hK26 _ _ ?_
      try clear hK26 K26
      refine W.cond_true rfl ?_
      refine W.seq fun K27 hK27 => ?_
      refine W.region ?_
      refine SeqOps.put 2 rfl rfl rfl (O.assign (v := (.slice none 0 0)) rfl rfl ?_)
      refine SeqOps.put 3 rfl rfl rfl (O.assign (v := (.bool (false))) rfl rfl ?_)
      refine SeqOps.nil ?_
      refine hK27 _ _ ?_
      try clear hK27 K27
      refine W.ret ?_
      exact retQ_two rfl rfl rfl ⟨N, _, st, .inr ⟨by rw [hsp, hspl]; rfl, rfl, rfl⟩⟩
    rw [if_neg hbig] at hspl
    refine W.seq fun K28 hK28 => ?_
    refine W.region ?_
    refine SeqOps.put 22 rfl rfl rfl (O.cmp (a := (k : Int)) (b := (n : Int)) (r := true) rfl rfl rfl (by simp [cmpI]; omega) ?_)
    refine SeqOps.nil ?_
    refine hK28 _ _ ?_
    try clear hK28 K28
    refine W.seq fun K29 hK29 => ?_
    refine W.cond_true rfl ?_
    refine W.skip ?_
    refine hK29 _ _ ?_
    try clear hK29 K29
    refine W.seq fun K30 hK30 => ?_
    refine W.block ?_
    refine W.seq fun K31 hK31 => ?_
    refine W.seq fun K32 hK32 => ?_
    refine W.region ?_
    refine SeqOps.put 23 rfl rfl rfl (O.move (v := (.slice ao2 rest.length cap2)) rfl rfl ?_)
    refine SeqOps.put 24 rfl rfl rfl (O.lenSlice (ad := ao2) (n := rest.length) (c := cap2) rfl rfl Tryz.underlying22 ?_)
    refine SeqOps.put 25 rfl rfl rfl (O.cmp (a := ((rest.length : Nat) : Int)) (b := 8) (r := false) rfl rfl rfl (by simp [cmpI]; omega) ?_)
    refine SeqOps.put 26 rfl rfl rfl (O.move (v := (.bool (false))) rfl rfl ?_)
    refine SeqOps.put_on 27 rfl rfl rfl rfl (O.move (v := (.slice ao2 rest.length cap2)) rfl rfl ?_)
    refine SeqOps.put_on 28 rfl rfl rfl rfl (O.call (fid := 128) (cap := #[]) (args := [(.slice ao2 rest.length cap2)]) rfl rfl rfl Tryz.func128 rfl rfl ?_)
    refine Calls.mono (Uint64_calls hAk rr hr8) ?_
    rintro e w1 ⟨rfl, rfl⟩
    rw [hm]
    refine ⟨_, rfl, ?_⟩
    refine SeqOps.put_on 29 rfl rfl rfl rfl (O.move (v := (.slice ao2 rest.length cap2)) rfl rfl ?_)
    refine SeqOps.put_on 30 rfl rfl rfl rfl (O.lenSlice (ad := ao2) (n := rest.length) (c := cap2) rfl rfl Tryz.underlying22 ?_)
    refine SeqOps.put_on 31 rfl rfl rfl rfl (O.arith (a := ((rest.length : Nat) : Int)) (b := 8) (r := ((rest.length : Nat) : Int) - 8) (c := ((rest.length - 8 : Nat) : Int)) rfl rfl rfl rfl (by rw [wrap_i64 (by omega) (by omega)]; omega) ?_)
    refine SeqOps.put_on 32 rfl rfl rfl rfl (O.convInt (a := ((rest.length - 8 : Nat) : Int)) (c := ((rest.length - 8 : Nat) : Int)) rfl rfl Tryz.underlying3 Tryz.underlying79 (wrap_u64 (by omega) (by omega)) ?_)
    refine SeqOps.put_on 33 rfl rfl rfl rfl (O.cmp (a := (m : Int)) (b := ((rest.length - 8 : Nat) : Int)) (r := false) rfl rfl rfl (by simp [cmpI]; omega) ?_)
    refine SeqOps.put 34 rfl rfl rfl (O.pick (b := false) (v := (.bool (false))) rfl rfl rfl ?_)
    refine SeqOps.nil ?_
    refine hK32 _ _ ?_
    try clear hK32 K32
    refine W.cond_false rfl ?_
    refine W.skip ?_
    refine hK31 _ _ ?_
    try clear hK31 K31
    refine W.seq fun K33 hK33 => ?_
    refine W.region ?_
    refine SeqOps.put 35 rfl rfl rfl (O.move (v := (.slice ao2 rest.length cap2)) rfl rfl ?_)
    refine SeqOps.put 36 rfl rfl rfl (O.call (fid := 128) (cap := #[]) (args := [(.slice ao2 rest.length cap2)]) rfl rfl rfl Tryz.func128 rfl rfl ?_)
    refine Calls.mono (Uint64_calls hAk rr hr8) ?_
    rintro e w1 ⟨rfl, rfl⟩
    rw [hm]
    refine ⟨_, rfl, ?_⟩
    refine SeqOps.put 37 rfl rfl rfl (O.convInt (a := (m : Int)) (c := (m : Int)) rfl rfl Tryz.underlying79 Tryz.underlying3 (wrap_i64 (by omega) (by omega)) ?_)
    refine SeqOps.put 6 rfl rfl rfl (O.assign (v := (.int .i64 ((m : Int)))) rfl rfl ?_)
    refine SeqOps.nil ?_
    refine hK33 _ _ ?_
    try clear hK33 K33
    refine W.seq fun K34 hK34 => ?_
    refine W.region ?_
    refine SeqOps.put 38 rfl rfl rfl (O.move (v := all) rfl rfl ?_)
    refine SeqOps.put 39 rfl rfl rfl (O.move (v := (.slice ao2 rest.length cap2)) rfl rfl ?_)
    refine SeqOps.put 40 rfl rfl rfl (O.move (v := (.int .i64 ((m : Int)))) rfl rfl ?_)
    refine SeqOps.put 41 rfl rfl rfl (O.arith (a := 8) (b := (m : Int)) (r := 8 + (m : Int)) (c := ((8 + m : Nat) : Int)) rfl rfl rfl rfl (by rw [wrap_i64 (by omega) (by omega)]; omega) ?_)
    refine SeqOps.put 42 rfl rfl rfl (O.slice (H := H) (ao := ao2) (n := rest.length) (cap := cap2) (s := 1) (cells := bcs rest) (l := 8) (h := 8 + m) rfl rfl Tryz.underlying22 sz5 ⟨.i64, rfl⟩ ⟨.i64, rfl⟩ rr (by simp [bcs]) (by omega) (by omega) ?_)
    rintro v42 r42 ⟨ao42, cap42, rfl⟩
    have e42 : ((bcs rest).drop (8 * 1)).take ((8 + m - 8) * 1) = bcs ((rest.drop 8).take m) := by simp only [Nat.mul_one, bcs, List.map_drop, List.map_take, Nat.add_sub_cancel_left]
    rw [e42] at r42
    refine SeqOps.put 43 rfl rfl rfl (O.append (H := N) (B := wk.heap.size) (v := .slice none 0 0) (vx := .slice ao42 (8 + m - 8) cap42) (m := 8 + m - 8) (xs := []) (news := bcs ((rest.drop 8).take m)) rfl rfl rfl Tryz.underlying22 inf5 rfl (Own.nil _ _ _ _ _) (r42.mono hAk.le) (by simp [bcs]; omega) (by omega) (by omega) (Nat.le_refl _) st.st.agr ?_)
    intro o43 w43 own43 hC43
    have hE43 : Ext wk w43 := hC43.mono fun k hk => by cases hk
    have st43 := st.new hE43
    rw [List.nil_append] at own43
    obtain ⟨N2, hle2, st2, hsame, rb43⟩ := own43.join st43 st.st.chg.size
    have rb : RB N2 o43 ((rest.drop 8).take m) := by unfold RB; rw [show ((rest.drop 8).take m).length = 0 + (8 + m - 8) by simp; omega]; exact rb43
    have own2 : Own N2 w43 w.heap.size 22 1 all k vs := (own.ext hE43).heap fun j hj => by rw [hsame j fun e => by have h1 := (own.base hj).2; have h2 := (own43.base e).1; omega]; exact own.out j hj
    obtain ⟨aoe, cape, rfl⟩ := RS.form rb
    refine SeqOps.put 44 rfl rfl rfl (O.buildSlice (vs := [(.slice aoe ((rest.drop 8).take m).length cape)]) rfl rfl rfl Tryz.underlying133 inf22 (by intro v hv; simp at hv; subst hv; rfl) (by decide) ?_)
    intro b3 w3 hb3 hb31 hE3 hblk3
    have st3 := st2.new hE3
    refine SeqOps.put 45 rfl rfl rfl (O.append (H := N2) (B := w.heap.size) (v := all) (vx := .slice (some ⟨b3, 0, none⟩) 1 1) (m := 1) (xs := vs) (news := [(.slice aoe ((rest.drop 8).take m).length cape)]) rfl rfl rfl Tryz.underlying133 inf22 rfl (own2.ext hE3) (Own.ofBlk (H := fun _ => none) (B := 0) (s := 1) (xs := [(.slice aoe ((rest.drop 8).take m).length cape)]) hblk3 (Nat.zero_le _) rfl rfl (by decide) (by intro u hu; simp at hu; subst hu; rfl)).rsw rfl (by omega) (by omega) st3.st.chg.size st3.st.agr ?_)
    intro o4 w4 own4 hC4
    have st4 := st3.step hC4 fun i hi => ⟨.inl ((own2.ext hE3).base hi).1, own2.out i hi⟩
    refine SeqOps.put 5 rfl rfl rfl (O.assign (v := o4) rfl rfl ?_)
    refine SeqOps.nil ?_
    refine hK34 _ _ ?_
    try clear hK34 K34
    refine W.region ?_
    refine SeqOps.put 46 rfl rfl rfl (O.move (v := (.slice ao2 rest.length cap2)) rfl rfl ?_)
    refine SeqOps.put 47 rfl rfl rfl (O.move (v := (.int .i64 ((m : Int)))) rfl rfl ?_)
    refine SeqOps.put 48 rfl rfl rfl (O.arith (a := 8) (b := (m : Int)) (r := 8 + (m : Int)) (c := ((8 + m : Nat) : Int)) rfl rfl rfl rfl (by rw [wrap_i64 (by omega) (by omega)]; omega) ?_)
    refine SeqOps.put 49 rfl rfl rfl (O.slice (H := H) (ao := ao2) (n := rest.length) (cap := cap2) (s := 1) (cells := bcs rest) (l := 8 + m) (h := rest.length) rfl rfl Tryz.underlying22 sz5 ⟨.i64, rfl⟩ rfl rr (by simp [bcs]) (by omega) (Nat.le_refl _) ?_)
    rintro v49 r49 ⟨ao49, cap49, rfl⟩
    have e49 : ((bcs rest).drop ((8 + m) * 1)).take ((rest.length - (8 + m)) * 1) = bcs (rest.drop (8 + m)) := by simp only [Nat.mul_one, bcs, List.map_drop]; exact List.take_of_length_le (by simp)
    rw [e49] at r49
    refine SeqOps.put 0 rfl rfl rfl (O.assign (v := (.slice ao49 (rest.length - (8 + m)) cap49)) rfl rfl ?_)
    refine SeqOps.nil ?_
    refine hK30 _ _ ?_
    try clear hK30 K30
    refine W.region ?_
    refine SeqOps.put 50 rfl rfl rfl (O.arith (a := (k : Int)) (b := 1) (r := (k : Int) + 1) (c := ((k + 1 : Nat) : Int)) rfl rfl rfl rfl (by rw [wrap_u64 (by omega) (by omega)]; rfl) ?_)
    refine SeqOps.put 21 rfl rfl rfl (O.move (v := (.int .u64 (((k + 1 : Nat) : Int)))) rfl rfl ?_)
    refine SeqOps.nil ?_
    refine ⟨⟨N2, _, o4, _, rest.drop (8 + m), ps ++ [(rest.drop 8).take m], k + 1, rfl, by omega, ?_, by simp; omega, by unfold RB; rw [List.length_drop]; exact r49, by simp [hps], st4, own4, (h2.imp fun _ _ h => h.mono hle2).snoc rb⟩, by show n - ((k + 1 : Nat) : Int).toNat < n - ((k : Nat) : Int).toNat; omega⟩
    rw [hspl, show n - (k + 1) = j by omega]
    cases splitN j (rest.drop (8 + m)) <;> simp
  have hkn : n - k = 0 := by omega
  rw [hkn, splitN_zero] at hspl
  refine W.seq fun K35 hK35 => ?_
  refine W.region ?_
  refine SeqOps.put 22 rfl rfl rfl (O.cmp (a := (k : Int)) (b := (n : Int)) (r := false) rfl rfl rfl (by simp [cmpI]; omega) ?_)
  refine SeqOps.nil ?_
  refine hK35 _ _ ?_
  try clear hK35 K35
  refine W.seq fun K36 hK36 => ?_
  refine W.cond_false rfl ?_
  refine W.exit ?_
  refine hK14 _ _ ?_
  try clear hK14 K14
  refine W.seq fun K37 hK37 => ?_
  refine W.seq fun K38 hK38 => ?_
  refine W.region ?_
  refine SeqOps.put 51 rfl rfl rfl (O.move (v := (.slice ao2 rest.length cap2)) rfl rfl ?_)
  refine SeqOps.put 52 rfl rfl rfl (O.lenSlice (ad := ao2) (n := rest.length) (c := cap2) rfl rfl Tryz.underlying22 ?_)
  refine SeqOps.put 53 rfl rfl rfl (O.cmp (a := ((rest.length : Nat) : Int)) (b := 0) (r := decide (((rest.length : Nat) : Int) > 0)) rfl rfl rfl rfl ?_)
  refine SeqOps.nil ?_
  refine hK38 _ _ ?_
  try clear hK38 K38
  by_cases hre : 0 < rest.length
  · rw [if_neg (by intro e; rw [e] at hre; simp at hre)] at hspl
    refine W.cond_true (show evF _ _ = .bool true from congrArg Value.bool (decide_eq_true (by omega))) ?_
    refine W.seq fun K39 hK39 => ?_
    refine W.region ?_
    refine SeqOps.put 2 rfl rfl rfl (O.assign (v := (.slice none 0 0)) rfl rfl ?_)
    refine SeqOps.put 3 rfl rfl rfl (O.assign (v := (.bool (false))) rfl rfl ?_)
    refine SeqOps.nil ?_
    refine hK39 _ _ ?_
    try clear hK39 K39
    refine W.ret ?_
    exact retQ_two rfl rfl rfl ⟨N, _, st, .inr ⟨by rw [hsp, hspl]; rfl, rfl, rfl⟩⟩
  rw [if_pos (List.eq_nil_of_length_eq_zero (by omega))] at hspl
  refine W.cond_false (show evF _ _ = .bool false from congrArg Value.bool (decide_eq_false (by omega))) ?_
  refine W.skip ?_
  refine hK37 _ _ ?_
  try clear hK37 K37
  refine W.seq fun K40 hK40 => ?_
  refine W.region ?_
  refine SeqOps.put 54 rfl rfl rfl (O.move (v := all) rfl rfl ?_)
  refine SeqOps.put 2 rfl rfl rfl (O.assign (v := all) rfl rfl ?_)
  refine SeqOps.put 3 rfl rfl rfl (O.assign (v := (.bool (true))) rfl rfl ?_)
  refine SeqOps.nil ?_
  refine hK40 _ _ ?_
  try clear hK40 K40
  refine W.ret ?_
  obtain ⟨N3, hle3, st3, _, rs3⟩ := own.join st (Nat.le_refl _)
  refine retQ_two rfl rfl rfl ⟨N3, _, st3, .inl ⟨ps, by rw [hsp, hspl]; simp, rfl, vs, h2.imp fun _ _ h => h.mono hle3, by rw [hps]; exact rs3⟩⟩

end Go.Proofs.YtddpmpbngcbokaaGreatDoor

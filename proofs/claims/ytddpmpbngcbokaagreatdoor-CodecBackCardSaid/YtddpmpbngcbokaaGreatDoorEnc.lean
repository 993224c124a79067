/- The functions of codec that tell bytes. -/
import Derived.Test.YtddpmpbngcbokaaGreatDoorBytes
import Derived.Test.YtddpmpbngcbokaaGreatDoorTypes
namespace Go.Proofs.YtddpmpbngcbokaaGreatDoor
open Go Go.RowKit
set_option maxRecDepth 100000


theorem Ext.hle {a b : World} (h : Ext a b) : Hle (hfOf a) (hfOf b) := fun _ _ e => Ext.blk h e
theorem StepT.plain {P : Program} {ops : Array Oper} {o : Oper} {g : Fr} {w : World} {K : Value → World → Prop} (hg : o.guard = none) (h : OpT P o g w K) : StepT P ops o g w K := by unfold StepT; rw [hg]; exact h
theorem cells_one {v : Value} (h : v.oneCell' = true) : v.cells = #[v] := by cases v <;> simp_all [Value.cells, Value.oneCell']
theorem cells_size_one {v : Value} (h : v.oneCell' = true) : v.cells.size = 1 := by rw [cells_one h]; rfl
theorem catV_one : ∀ {vs : List Value}, (∀ v ∈ vs, v.oneCell' = true) → catV vs = vs
  | [], _ => rfl
  | v :: r, h => by
    have := catV_one (vs := r) fun u hu => h u (by simp [hu])
    simp only [catV, List.map_cons, List.flatten_cons] at this ⊢
    rw [this, cells_one (h v (by simp))]; rfl
theorem All2.one {H : Heap} {vs : List Value} {ps : List (List UInt8)} (h : All2 (RB H) vs ps) : ∀ v ∈ vs, v.oneCell' = true := by
  induction h with
  | nil => intro v hv; cases hv
  | cons r _ ih =>
    intro v hv
    rcases List.mem_cons.1 hv with rfl | hv
    · exact RS.one r
    · exact ih v hv
/-- A new row of slices of bytes. -/
theorem rbb_of_blk {w : World} {b E n : Nat} {vs : List Value} {ps : List (List UInt8)} (h : w.heap[b]? = some (.cells (catV vs).toArray E (0, 0))) (h2 : All2 (RB (hfOf w)) vs ps) (hn : ps.length = n) (hm : n ≤ maxLen) : RBB (hfOf w) (.slice (some ⟨b, 0, none⟩) n n) ps := by
  subst hn
  rw [catV_one h2.one] at h
  refine ⟨vs, h2, ?_⟩
  refine ⟨_, _, rfl, Nat.le_refl _, hm, by simp, h2.one, fun j u hu => ⟨_, rfl, ?_⟩⟩
  rw [hcell_add (show hfOf w b = _ from h), Nat.zero_add]
  simpa using hu
/-- A function that answers bytes. -/
def RetB (w : World) (bs : List UInt8) : Ending → World → Prop := fun e w' => ∃ v', e = .returned v' ∧ RB (hfOf w') v' bs ∧ Ext w w'
theorem RetNew.b {H : Heap} {w w' : World} {bs : List UInt8} {e : Ending} (h : RetNew H w bs e w') : RetB w bs e w' := by
  obtain ⟨v, h1, own, hE⟩ := h; exact ⟨v, h1, own.rb, hE⟩

theorem digest_calls {w : World} (d : Dig) : Calls Tryz.prog 47 #[.agg (List.toArray (digC d))] w (RetB w (digB d)) := by
  refine calls_of_W (n := 4) Tryz.func47 rfl Tryz.ntmps47 (Nat.le_of_ble_eq_true rfl) ?_
  refine W.seq fun K1 hK1 => ?_
  refine W.region ?_
  refine SeqOps.put 1 rfl rfl rfl (O.box (v := (.agg (List.toArray (digC d)))) rfl rfl ?_)
  intro b w1 hb hb1 hE hblk
  refine SeqOps.put 2 rfl rfl rfl (O.assign (v := (.slice none 0 0)) rfl rfl ?_)
  refine SeqOps.nil ?_
  refine hK1 _ _ ?_
  try clear hK1 K1
  refine W.seq fun K2 hK2 => ?_
  refine W.region ?_
  refine SeqOps.put 3 rfl rfl rfl (O.sliceArr (a := ⟨b, 0, none⟩) (n := 32) rfl rfl Tryz.underlying29 (by kernel_rfl) (by decide) ?_)
  refine SeqOps.put 2 rfl rfl rfl (O.assign (v := (.slice (some ⟨b, 0, none⟩) 32 32)) rfl rfl ?_)
  refine SeqOps.nil ?_
  refine hK2 _ _ ?_
  try clear hK2 K2
  refine W.ret ?_
  refine retQ_one rfl rfl ⟨_, rfl, ?_, hE⟩
  refine ⟨_, _, rfl, Nat.le_of_eq (digB_length d), by decide, by simp, bcs_one _, fun j u hu => ⟨_, rfl, ?_⟩⟩
  rw [hcell_add (show hfOf w1 b = _ from hblk), Nat.zero_add]
  show (List.toArray (digC d))[j]? = some u
  rw [digC_eq]; simpa using hu
theorem truth_calls {H : Heap} {w : World} (hA : Agr H w) (t : Bool) : Calls Tryz.prog 58 #[.bool t] w (RetNew H w (eBool t)) := by
  cases t
  · refine calls_of_W (n := 6) Tryz.func58 rfl Tryz.ntmps58 (Nat.le_of_ble_eq_true rfl) ?_
    refine W.seq fun K1 hK1 => ?_
    refine W.region ?_
    refine SeqOps.put 2 rfl rfl rfl (O.assign (v := (.slice none 0 0)) rfl rfl ?_)
    refine SeqOps.nil ?_
    refine hK1 _ _ ?_
    try clear hK1 K1
    refine W.seq fun K2 hK2 => ?_
    refine W.seq fun K3 hK3 => ?_
    refine W.region ?_
    refine SeqOps.put 3 rfl rfl rfl (O.move (v := (.bool (false))) rfl rfl ?_)
    refine SeqOps.nil ?_
    refine hK3 _ _ ?_
    try clear hK3 K3
    refine W.cond_false rfl ?_
    refine W.skip ?_
    refine hK2 _ _ ?_
    try clear hK2 K2
    refine W.seq fun K4 hK4 => ?_
    refine W.region ?_
    refine SeqOps.put 5 rfl rfl rfl (O.buildSlice (vs := [bc 0]) rfl rfl rfl Tryz.underlying22 inf5 (by intro v hv; simp at hv; subst hv; rfl) (by decide) ?_)
    intro b w1 hb hb1 hE hblk
    refine SeqOps.put 2 rfl rfl rfl (O.assign (v := (.slice (some ⟨b, 0, none⟩) 1 1)) rfl rfl ?_)
    refine SeqOps.nil ?_
    refine hK4 _ _ ?_
    try clear hK4 K4
    refine W.ret ?_
    refine retQ_one rfl rfl ⟨_, rfl, ?_, hE⟩
    exact Own.ofBlk (xs := bcs (eBool false)) hblk hb (hA.none hb) rfl (by decide) (bcs_one _)
  · refine calls_of_W (n := 6) Tryz.func58 rfl Tryz.ntmps58 (Nat.le_of_ble_eq_true rfl) ?_
    refine W.seq fun K5 hK5 => ?_
    refine W.region ?_
    refine SeqOps.put 2 rfl rfl rfl (O.assign (v := (.slice none 0 0)) rfl rfl ?_)
    refine SeqOps.nil ?_
    refine hK5 _ _ ?_
    try clear hK5 K5
    refine W.seq fun K6 hK6 => ?_
    refine W.seq fun K7 hK7 => ?_
    refine W.region ?_
    refine SeqOps.put 3 rfl rfl rfl (O.move (v := (.bool (true))) rfl rfl ?_)
    refine SeqOps.nil ?_
    refine hK7 _ _ ?_
    try clear hK7 K7
    refine W.cond_true rfl ?_
    refine W.seq fun K8 hK8 => ?_
    refine W.region ?_
    refine SeqOps.put 4 rfl rfl rfl (O.buildSlice (vs := [bc 1]) rfl rfl rfl Tryz.underlying22 inf5 (by intro v hv; simp at hv; subst hv; rfl) (by decide) ?_)
    intro b w1 hb hb1 hE hblk
    refine SeqOps.put 2 rfl rfl rfl (O.assign (v := (.slice (some ⟨b, 0, none⟩) 1 1)) rfl rfl ?_)
    refine SeqOps.nil ?_
    refine hK8 _ _ ?_
    try clear hK8 K8
    refine W.ret ?_
    refine retQ_one rfl rfl ⟨_, rfl, ?_, hE⟩
    exact Own.ofBlk (xs := bcs (eBool true)) hblk hb (hA.none hb) rfl (by decide) (bcs_one _)
theorem list_int_calls {H : Heap} {w : World} {v : Value} {xs : List Int} (hA : Agr H w) (r : RL 1 cInt H v xs) (hlen : (join (xs.map be8)).length ≤ 35184372088832) : Calls Tryz.prog 106 #[v, .func (.func 45) #[] #[]] w (RetNew H w (join (xs.map be8))) := by
  obtain ⟨ao, cap, rfl⟩ := r.form
  have hjl := join_length (xs.map be8)
  have hge := joinTail_ge (xs.map be8)
  rw [List.length_map] at hge
  refine calls_of_W (n := 23) Tryz.func106 rfl Tryz.ntmps106 (Nat.le_of_ble_eq_true rfl) ?_
  refine W.seq fun K1 hK1 => ?_
  refine W.region ?_
  refine SeqOps.put 4 rfl rfl rfl (O.assign (v := (.slice none 0 0)) rfl rfl ?_)
  refine SeqOps.nil ?_
  refine hK1 _ _ ?_
  try clear hK1 K1
  refine W.seq fun K2 hK2 => ?_
  refine W.region ?_
  refine SeqOps.put 5 rfl rfl rfl (O.assign (v := (.slice none 0 0)) rfl rfl ?_)
  refine SeqOps.nil ?_
  refine hK2 _ _ ?_
  try clear hK2 K2
  refine W.seq fun K3 hK3 => ?_
  refine W.seq fun K4 hK4 => ?_
  refine W.region ?_
  refine SeqOps.put 8 rfl rfl rfl (O.move (v := (.slice ao xs.length cap)) rfl rfl ?_)
  refine SeqOps.put 9 rfl rfl rfl (O.lenSlice (ad := ao) (n := xs.length) (c := cap) rfl rfl Tryz.underlying40 ?_)
  refine SeqOps.put 10 rfl rfl rfl (O.move (v := (.int .i64 (0))) rfl rfl ?_)
  refine SeqOps.nil ?_
  refine hK4 _ _ ?_
  try clear hK4 K4
  refine W.block ?_
  refine W.loop [1, 5, 8, 9, 10] (fun vals wk => ∃ H' all vs, ∃ k : Nat, vals = [.func (.func 45) #[] #[], all, .slice ao xs.length cap, .int .i64 (xs.length : Int), .int .i64 (k : Int)] ∧ k ≤ xs.length ∧ St H w NoX H' wk ∧ Own H' wk w.heap.size 22 1 all k vs ∧ All2 (RB H') vs ((xs.take k).map be8)) (fun vals _ => xs.length - (intOf (vals.getD 4 undef)).toNat) ⟨H, _, [], 0, rfl, Nat.zero_le _, St.start _ hA, Own.nil _ _ _ _ _, .nil⟩ ?_
  rintro g _ wk ⟨H', all, vs, k, rfl, hk, st, own, h2⟩
  rcases Nat.lt_or_ge k xs.length with hlt | hge2
  · have hpl := elem_le_joinTail (xs.map be8) (be8 xs[k]) (List.mem_map.2 ⟨_, by simp, rfl⟩)
    have hr' := RInts.mono r st.le
    obtain ⟨ad, cs, rfl, hcl, hre, hone, hcell⟩ := RL.elem hr' hlt
    replace hcell := hcell (by decide)
    obtain ⟨rfl, hre⟩ := hre
    have hre : True ∧ I64 xs[k] := ⟨trivial, hre⟩
    have hEb : Ext wk wk := Chg.refl _ _
    refine W.seq fun K5 hK5 => ?_
    refine W.region ?_
    refine SeqOps.put 11 rfl rfl rfl (O.cmp (a := (k : Int)) (b := (xs.length : Int)) (r := true) rfl rfl rfl (by simp [cmpI]; omega) ?_)
    refine SeqOps.nil ?_
    refine hK5 _ _ ?_
    try clear hK5 K5
    refine W.seq fun K6 hK6 => ?_
    refine W.cond_true rfl ?_
    refine W.skip ?_
    refine hK6 _ _ ?_
    try clear hK6 K6
    refine W.seq fun K7 hK7 => ?_
    refine W.block ?_
    refine W.seq fun K8 hK8 => ?_
    refine W.region ?_
    refine SeqOps.put 12 rfl rfl rfl (O.indexAddr (a := ad) (len := xs.length) (cap := cap) (i := (k : Int)) (sz := 1) (v := .pointer (some (ad.add (k * 1)))) rfl rfl rfl Tryz.underlying40 sz3 (by omega) (by omega) (by simp) ?_)
    refine SeqOps.put 13 rfl rfl rfl (O.loadOne (a := ad.add (k * 1)) (v := (.int .i64 (xs[k]))) rfl rfl Tryz.underlying3 rfl (st.agr.cell (by have := hcell 0 _ rfl; rwa [Addr.add_zero] at this)) ?_)
    refine SeqOps.put 7 rfl rfl rfl (O.assign (v := (.int .i64 (xs[k]))) rfl rfl ?_)
    refine SeqOps.nil ?_
    refine hK8 _ _ ?_
    try clear hK8 K8
    refine W.region ?_
    refine SeqOps.put 14 rfl rfl rfl (O.move (v := all) rfl rfl ?_)
    refine SeqOps.put 15 rfl rfl rfl (O.move (v := (.func (.func 45) #[] #[])) rfl rfl ?_)
    refine SeqOps.put 16 rfl rfl rfl (O.move (v := (.int .i64 (xs[k]))) rfl rfl ?_)
    have st1 := st.new hEb
    refine SeqOps.put 17 rfl rfl rfl (O.call (fid := 45) (cap := #[]) (args := [(.int .i64 (xs[k]))]) rfl rfl rfl Tryz.func45 rfl rfl ?_)
    refine Calls.mono (num_int_calls st1.agr hre.2.1 hre.2.2) ?_
    rintro e w2 ⟨o2, rfl, own2, hE2⟩
    have st2 := st1.new hE2
    obtain ⟨H2, hle2, st3, hsame, rb2⟩ := own2.freeze st2 (st1.chg.size)
    have own3 : Own H2 w2 w.heap.size 22 1 all k vs := ((own.ext hEb).ext hE2).heap fun j hj => by rw [hsame j fun e => by have h1 := (own.base hj).2; have h2 := (own2.base e).1; have h3 := hEb.size; omega]; exact own.out j hj
    obtain ⟨aoe, cape, rfl⟩ := RS.form rb2
    refine ⟨_, rfl, ?_⟩
    refine SeqOps.put 18 rfl rfl rfl (O.buildSlice (vs := [(.slice aoe (be8 xs[k]).length cape)]) rfl rfl rfl Tryz.underlying133 inf22 (by intro v hv; simp at hv; subst hv; rfl) (by decide) ?_)
    intro b3 w3 hb3 hb31 hE3 hblk3
    have st4 := st3.new hE3
    refine SeqOps.put 19 rfl rfl rfl (O.append (H := H2) (B := w.heap.size) (v := all) (vx := .slice (some ⟨b3, 0, none⟩) 1 1) (m := 1) (xs := vs) (news := [(.slice aoe (be8 xs[k]).length cape)]) rfl rfl rfl Tryz.underlying133 inf22 rfl (own3.ext hE3) (Own.ofBlk (H := fun _ => none) (B := 0) (s := 1) (xs := [(.slice aoe (be8 xs[k]).length cape)]) hblk3 (Nat.zero_le _) rfl rfl (by decide) (by intro u hu; simp at hu; subst hu; rfl)).rsw rfl (by omega) (by omega) st4.chg.size st4.agr ?_)
    intro o4 w4 own4 hC4
    refine SeqOps.put 5 rfl rfl rfl (O.assign (v := o4) rfl rfl ?_)
    refine SeqOps.nil ?_
    refine hK7 _ _ ?_
    try clear hK7 K7
    refine W.region ?_
    refine SeqOps.put 20 rfl rfl rfl (O.arith (a := (k : Int)) (b := 1) (r := (k : Int) + 1) (c := (k : Int) + 1) rfl rfl rfl rfl (by exact wrap_i64 (by omega) (by omega)) ?_)
    refine SeqOps.put 10 rfl rfl rfl (O.move (v := (.int .i64 ((k : Int) + 1))) rfl rfl ?_)
    refine SeqOps.nil ?_
    refine ⟨⟨H2, o4, _, k + 1, rfl, by omega, st4.step hC4 fun i hi => ⟨.inl ((own3.ext hE3).base hi).1, own3.out i hi⟩, own4, ?_⟩, by show xs.length - ((k + 1 : Nat) : Int).toNat < xs.length - ((k : Nat) : Int).toNat; omega⟩
    rw [List.take_succ_eq_append_getElem hlt, List.map_append]
    exact (h2.imp fun _ _ h => h.mono hle2).snoc rb2
  have hkn : k = xs.length := by omega
  refine W.seq fun K9 hK9 => ?_
  refine W.region ?_
  refine SeqOps.put 11 rfl rfl rfl (O.cmp (a := (k : Int)) (b := (xs.length : Int)) (r := false) rfl rfl rfl (by simp [cmpI]; omega) ?_)
  refine SeqOps.nil ?_
  refine hK9 _ _ ?_
  try clear hK9 K9
  refine W.seq fun K10 hK10 => ?_
  refine W.cond_false rfl ?_
  refine W.exit ?_
  refine hK3 _ _ ?_
  try clear hK3 K3
  refine W.seq fun K11 hK11 => ?_
  refine W.region ?_
  refine SeqOps.put 21 rfl rfl rfl (O.move (v := all) rfl rfl ?_)
  subst hkn
  rw [List.take_length] at h2
  obtain ⟨H3, hle3, st3, _, rs3⟩ := own.freeze st (Nat.le_refl _)
  refine SeqOps.put 22 rfl rfl rfl (O.call (fid := 44) (cap := #[]) (args := [all]) rfl rfl rfl Tryz.func44 rfl rfl ?_)
  refine Calls.mono (Join_calls st3.agr ⟨vs, h2.imp fun _ _ h => h.mono hle3, by rw [List.length_map]; exact rs3⟩ hlen) ?_
  rintro e w5 ⟨o5, rfl, own5, hE5⟩
  refine ⟨_, rfl, ?_⟩
  refine SeqOps.put 4 rfl rfl rfl (O.assign (v := o5) rfl rfl ?_)
  refine SeqOps.nil ?_
  refine hK11 _ _ ?_
  try clear hK11 K11
  refine W.ret ?_
  refine retQ_one rfl rfl ⟨o5, rfl, (own5.heap fun j hj => hA.none (Nat.le_trans st.chg.size (own5.base hj).1)).lower st.chg.size, st.chg.trans hE5⟩

theorem nums_calls {H : Heap} {w : World} {v : Value} {xs : List Int} (hA : Agr H w) (r : RInts H v xs) (hlen : (eInts xs).length ≤ 35184372088832) : Calls Tryz.prog 59 #[v] w (RetNew H w (eInts xs)) := by
  refine calls_of_W (n := 5) Tryz.func59 rfl Tryz.ntmps59 (Nat.le_of_ble_eq_true rfl) ?_
  refine W.seq fun K1 hK1 => ?_
  refine W.region ?_
  refine SeqOps.put 2 rfl rfl rfl (O.assign (v := (.slice none 0 0)) rfl rfl ?_)
  refine SeqOps.nil ?_
  refine hK1 _ _ ?_
  try clear hK1 K1
  refine W.seq fun K2 hK2 => ?_
  refine W.region ?_
  refine SeqOps.put 3 rfl rfl rfl (O.move (v := v) rfl rfl ?_)
  refine SeqOps.put 4 rfl rfl rfl (O.call (fid := 106) (cap := #[]) (args := [v, (.func (.func 45) #[] #[])]) rfl rfl rfl Tryz.func106 rfl rfl ?_)
  refine Calls.mono (list_int_calls hA r hlen) ?_
  rintro e w1 ⟨o1, rfl, own1, hE1⟩
  refine ⟨_, rfl, ?_⟩
  refine SeqOps.put 2 rfl rfl rfl (O.assign (v := o1) rfl rfl ?_)
  refine SeqOps.nil ?_
  refine hK2 _ _ ?_
  try clear hK2 K2
  refine W.ret ?_
  exact retQ_one rfl rfl ⟨o1, rfl, own1, hE1⟩

theorem list_sint_calls {H : Heap} {w : World} {v : Value} {xs : List (List Int)} (hA : Agr H w) (r : RL 1 cInts H v xs) (hlen : (join (xs.map eInts)).length ≤ 35184372088832) : Calls Tryz.prog 60 #[v, .func (.func 59) #[] #[]] w (RetNew H w (join (xs.map eInts))) := by
  obtain ⟨ao, cap, rfl⟩ := r.form
  have hjl := join_length (xs.map eInts)
  have hge := joinTail_ge (xs.map eInts)
  rw [List.length_map] at hge
  refine calls_of_W (n := 23) Tryz.func60 rfl Tryz.ntmps60 (Nat.le_of_ble_eq_true rfl) ?_
  refine W.seq fun K1 hK1 => ?_
  refine W.region ?_
  refine SeqOps.put 4 rfl rfl rfl (O.assign (v := (.slice none 0 0)) rfl rfl ?_)
  refine SeqOps.nil ?_
  refine hK1 _ _ ?_
  try clear hK1 K1
  refine W.seq fun K2 hK2 => ?_
  refine W.region ?_
  refine SeqOps.put 5 rfl rfl rfl (O.assign (v := (.slice none 0 0)) rfl rfl ?_)
  refine SeqOps.nil ?_
  refine hK2 _ _ ?_
  try clear hK2 K2
  refine W.seq fun K3 hK3 => ?_
  refine W.seq fun K4 hK4 => ?_
  refine W.region ?_
  refine SeqOps.put 8 rfl rfl rfl (O.move (v := (.slice ao xs.length cap)) rfl rfl ?_)
  refine SeqOps.put 9 rfl rfl rfl (O.lenSlice (ad := ao) (n := xs.length) (c := cap) rfl rfl Tryz.underlying53 ?_)
  refine SeqOps.put 10 rfl rfl rfl (O.move (v := (.int .i64 (0))) rfl rfl ?_)
  refine SeqOps.nil ?_
  refine hK4 _ _ ?_
  try clear hK4 K4
  refine W.block ?_
  refine W.loop [1, 5, 8, 9, 10] (fun vals wk => ∃ H' all vs, ∃ k : Nat, vals = [.func (.func 59) #[] #[], all, .slice ao xs.length cap, .int .i64 (xs.length : Int), .int .i64 (k : Int)] ∧ k ≤ xs.length ∧ St H w NoX H' wk ∧ Own H' wk w.heap.size 22 1 all k vs ∧ All2 (RB H') vs ((xs.take k).map eInts)) (fun vals _ => xs.length - (intOf (vals.getD 4 undef)).toNat) ⟨H, _, [], 0, rfl, Nat.zero_le _, St.start _ hA, Own.nil _ _ _ _ _, .nil⟩ ?_
  rintro g _ wk ⟨H', all, vs, k, rfl, hk, st, own, h2⟩
  rcases Nat.lt_or_ge k xs.length with hlt | hge2
  · have hpl := elem_le_joinTail (xs.map eInts) (eInts xs[k]) (List.mem_map.2 ⟨_, by simp, rfl⟩)
    have hr' := RLL.mono r st.le
    obtain ⟨ad, cs, rfl, hcl, hre, hone, hcell⟩ := RL.elem hr' hlt
    replace hcell := hcell (by decide)
    obtain ⟨q, rfl, hre⟩ := hre
    have hEb : Ext wk wk := Chg.refl _ _
    refine W.seq fun K5 hK5 => ?_
    refine W.region ?_
    refine SeqOps.put 11 rfl rfl rfl (O.cmp (a := (k : Int)) (b := (xs.length : Int)) (r := true) rfl rfl rfl (by simp [cmpI]; omega) ?_)
    refine SeqOps.nil ?_
    refine hK5 _ _ ?_
    try clear hK5 K5
    refine W.seq fun K6 hK6 => ?_
    refine W.cond_true rfl ?_
    refine W.skip ?_
    refine hK6 _ _ ?_
    try clear hK6 K6
    refine W.seq fun K7 hK7 => ?_
    refine W.block ?_
    refine W.seq fun K8 hK8 => ?_
    refine W.region ?_
    refine SeqOps.put 12 rfl rfl rfl (O.indexAddr (a := ad) (len := xs.length) (cap := cap) (i := (k : Int)) (sz := 1) (v := .pointer (some (ad.add (k * 1)))) rfl rfl rfl Tryz.underlying53 sz40 (by omega) (by omega) (by simp) ?_)
    refine SeqOps.put 13 rfl rfl rfl (O.loadOne (a := ad.add (k * 1)) (v := q) rfl rfl Tryz.underlying40 rfl (st.agr.cell (by have := hcell 0 _ rfl; rwa [Addr.add_zero] at this)) ?_)
    refine SeqOps.put 7 rfl rfl rfl (O.assign (v := q) rfl rfl ?_)
    refine SeqOps.nil ?_
    refine hK8 _ _ ?_
    try clear hK8 K8
    refine W.region ?_
    refine SeqOps.put 14 rfl rfl rfl (O.move (v := all) rfl rfl ?_)
    refine SeqOps.put 15 rfl rfl rfl (O.move (v := (.func (.func 59) #[] #[])) rfl rfl ?_)
    refine SeqOps.put 16 rfl rfl rfl (O.move (v := q) rfl rfl ?_)
    have st1 := st.new hEb
    refine SeqOps.put 17 rfl rfl rfl (O.call (fid := 59) (cap := #[]) (args := [q]) rfl rfl rfl Tryz.func59 rfl rfl ?_)
    refine Calls.mono (nums_calls st1.agr hre (by omega)) ?_
    rintro e w2 ⟨o2, rfl, own2, hE2⟩
    have st2 := st1.new hE2
    obtain ⟨H2, hle2, st3, hsame, rb2⟩ := own2.freeze st2 (st1.chg.size)
    have own3 : Own H2 w2 w.heap.size 22 1 all k vs := ((own.ext hEb).ext hE2).heap fun j hj => by rw [hsame j fun e => by have h1 := (own.base hj).2; have h2 := (own2.base e).1; have h3 := hEb.size; omega]; exact own.out j hj
    obtain ⟨aoe, cape, rfl⟩ := RS.form rb2
    refine ⟨_, rfl, ?_⟩
    refine SeqOps.put 18 rfl rfl rfl (O.buildSlice (vs := [(.slice aoe (eInts xs[k]).length cape)]) rfl rfl rfl Tryz.underlying133 inf22 (by intro v hv; simp at hv; subst hv; rfl) (by decide) ?_)
    intro b3 w3 hb3 hb31 hE3 hblk3
    have st4 := st3.new hE3
    refine SeqOps.put 19 rfl rfl rfl (O.append (H := H2) (B := w.heap.size) (v := all) (vx := .slice (some ⟨b3, 0, none⟩) 1 1) (m := 1) (xs := vs) (news := [(.slice aoe (eInts xs[k]).length cape)]) rfl rfl rfl Tryz.underlying133 inf22 rfl (own3.ext hE3) (Own.ofBlk (H := fun _ => none) (B := 0) (s := 1) (xs := [(.slice aoe (eInts xs[k]).length cape)]) hblk3 (Nat.zero_le _) rfl rfl (by decide) (by intro u hu; simp at hu; subst hu; rfl)).rsw rfl (by omega) (by omega) st4.chg.size st4.agr ?_)
    intro o4 w4 own4 hC4
    refine SeqOps.put 5 rfl rfl rfl (O.assign (v := o4) rfl rfl ?_)
    refine SeqOps.nil ?_
    refine hK7 _ _ ?_
    try clear hK7 K7
    refine W.region ?_
    refine SeqOps.put 20 rfl rfl rfl (O.arith (a := (k : Int)) (b := 1) (r := (k : Int) + 1) (c := (k : Int) + 1) rfl rfl rfl rfl (by exact wrap_i64 (by omega) (by omega)) ?_)
    refine SeqOps.put 10 rfl rfl rfl (O.move (v := (.int .i64 ((k : Int) + 1))) rfl rfl ?_)
    refine SeqOps.nil ?_
    refine ⟨⟨H2, o4, _, k + 1, rfl, by omega, st4.step hC4 fun i hi => ⟨.inl ((own3.ext hE3).base hi).1, own3.out i hi⟩, own4, ?_⟩, by show xs.length - ((k + 1 : Nat) : Int).toNat < xs.length - ((k : Nat) : Int).toNat; omega⟩
    rw [List.take_succ_eq_append_getElem hlt, List.map_append]
    exact (h2.imp fun _ _ h => h.mono hle2).snoc rb2
  have hkn : k = xs.length := by omega
  refine W.seq fun K9 hK9 => ?_
  refine W.region ?_
  refine SeqOps.put 11 rfl rfl rfl (O.cmp (a := (k : Int)) (b := (xs.length : Int)) (r := false) rfl rfl rfl (by simp [cmpI]; omega) ?_)
  refine SeqOps.nil ?_
  refine hK9 _ _ ?_
  try clear hK9 K9
  refine W.seq fun K10 hK10 => ?_
  refine W.cond_false rfl ?_
  refine W.exit ?_
  refine hK3 _ _ ?_
  try clear hK3 K3
  refine W.seq fun K11 hK11 => ?_
  refine W.region ?_
  refine SeqOps.put 21 rfl rfl rfl (O.move (v := all) rfl rfl ?_)
  subst hkn
  rw [List.take_length] at h2
  obtain ⟨H3, hle3, st3, _, rs3⟩ := own.freeze st (Nat.le_refl _)
  refine SeqOps.put 22 rfl rfl rfl (O.call (fid := 44) (cap := #[]) (args := [all]) rfl rfl rfl Tryz.func44 rfl rfl ?_)
  refine Calls.mono (Join_calls st3.agr ⟨vs, h2.imp fun _ _ h => h.mono hle3, by rw [List.length_map]; exact rs3⟩ hlen) ?_
  rintro e w5 ⟨o5, rfl, own5, hE5⟩
  refine ⟨_, rfl, ?_⟩
  refine SeqOps.put 4 rfl rfl rfl (O.assign (v := o5) rfl rfl ?_)
  refine SeqOps.nil ?_
  refine hK11 _ _ ?_
  try clear hK11 K11
  refine W.ret ?_
  refine retQ_one rfl rfl ⟨o5, rfl, (own5.heap fun j hj => hA.none (Nat.le_trans st.chg.size (own5.base hj).1)).lower st.chg.size, st.chg.trans hE5⟩

theorem Sig_calls {H : Heap} {w : World} {v : VSig} {x : DSig} (hA : Agr H w) (r : RSig H v x) (hlen : (eSig x).length ≤ 35184372088832) : Calls Tryz.prog 102 #[.agg (List.toArray v.cells)] w (RetNew H w (eSig x)) := by
  refine calls_of_W (n := 11) Tryz.func102 rfl Tryz.ntmps102 (Nat.le_of_ble_eq_true rfl) ?_
  have hjl : (eSig x).length = _ := join_length _
  refine W.seq fun K1 hK1 => ?_
  refine W.region ?_
  refine SeqOps.put 1 rfl rfl rfl (O.box (v := (.agg (List.toArray (v.cells)))) rfl rfl ?_)
  intro b wb hb hb1 hEb hblk
  have hAb := Ext.agr hEb hA
  refine SeqOps.put 2 rfl rfl rfl (O.assign (v := (.slice none 0 0)) rfl rfl ?_)
  refine SeqOps.nil ?_
  refine hK1 _ _ ?_
  try clear hK1 K1
  refine W.seq fun K2 hK2 => ?_
  refine W.region_any (by kernel_rfl) (by kernel_rfl) [3, 4, 5, 6, 7, 8, 9, 10, 2] rfl (fun a b => Ext a b) (fun _ => Chg.refl _ _) (fun h k => Chg.trans h k) [
      (fun (u : Value) (_ : World) => u = Value.pointer (some ⟨b, 0, none⟩)),
      (fun (u : Value) (_ : World) => u = Value.int .i64 v.index),
      (fun (u : Value) (w : World) => RB (hfOf w) u (be8 x.index)),
      (fun (u : Value) (_ : World) => u = Value.pointer (some ⟨b, 1, none⟩)),
      (fun (u : Value) (_ : World) => u = Value.agg (List.toArray (digC v.tag))),
      (fun (u : Value) (w : World) => RB (hfOf w) u (digB x.tag)),
      (fun (u : Value) (w : World) => RBB (hfOf w) u [be8 x.index, digB x.tag]),
      (fun (u : Value) (w : World) => OwnB H w wb.heap.size u (join [be8 x.index, digB x.tag])),
      (fun (u : Value) (w : World) => OwnB H w wb.heap.size u (join [be8 x.index, digB x.tag]))
    ] ⟨fun _ _ _ _ h => h, fun _ _ _ _ h => h, fun _ _ _ hE h => RB.mono h (Ext.hle hE), fun _ _ _ _ h => h, fun _ _ _ _ h => h, fun _ _ _ hE h => RB.mono h (Ext.hle hE), fun _ _ _ hE h => RBB.mono h (Ext.hle hE), fun _ _ _ hE h => Own.ext h hE, fun _ _ _ hE h => Own.ext h hE, trivial⟩ ⟨?_, ?_, ?_, ?_, ?_, ?_, ?_, ?_, ?_, trivial⟩ ?_
  · intro g w1 hR hf hd
    have h1 : g 1 = .pointer (some ⟨b, 0, none⟩) := hf 1 (by decide)
    exact StepT.plain rfl (O.fieldAddr (a := ⟨b, 0, none⟩) (v := Value.pointer (some ⟨b, 0, none⟩)) rfl h1 Tryz.underlying89 rfl (by kernel_rfl) rfl ⟨Chg.refl _ _, rfl⟩)
  · intro g w1 hR hf hd
    have h1 : (fun (u : Value) (_ : World) => u = Value.pointer (some ⟨b, 0, none⟩)) (g 3) w1 := hd.1 rfl
    have hblk1 := Ext.blk hR (show wb.drew.heap[b]? = _ from hblk)
    exact StepT.plain rfl (O.loadBlk1 (b := b) (off := 0) (v := Value.int .i64 v.index) rfl h1 hblk1 Tryz.underlying2 rfl rfl ⟨Chg.refl _ _, rfl⟩)
  · intro g w1 hR hf hd
    have h1 : (fun (u : Value) (_ : World) => u = Value.int .i64 v.index) (g 4) w1 := hd.1 rfl
    have hA1 := Ext.agr hR (show Agr H wb.drew from hAb)
    refine StepT.plain rfl (O.call (fid := 46) (cap := #[]) (args := [Value.int .i64 v.index]) rfl rfl (by show [g 4] = _; rw [h1]) Tryz.func46 rfl rfl ?_)
    refine Calls.mono (num_int64_calls (n := v.index) hA1 (by rw [r.index.1]; exact r.index.2.1) (by rw [r.index.1]; exact r.index.2.2)) ?_
    rintro e w2 ⟨v2, rfl, own2, hE2⟩
    refine ⟨v2, rfl, hE2, ?_⟩
    show RB (hfOf w2) v2 (be8 x.index)
    rw [← r.index.1]; exact own2.rb
  · intro g w1 hR hf hd
    have h1 : g 1 = .pointer (some ⟨b, 0, none⟩) := hf 1 (by decide)
    exact StepT.plain rfl (O.fieldAddr (a := ⟨b, 0, none⟩) (v := Value.pointer (some ⟨b, 1, none⟩)) rfl h1 Tryz.underlying89 rfl (by kernel_rfl) rfl ⟨Chg.refl _ _, rfl⟩)
  · intro g w1 hR hf hd
    have h1 : (fun (u : Value) (_ : World) => u = Value.pointer (some ⟨b, 1, none⟩)) (g 6) w1 := hd.1 rfl
    have hblk1 := Ext.blk hR (show wb.drew.heap[b]? = _ from hblk)
    exact StepT.plain rfl (O.loadBlk (b := b) (off := 1) (cs := digC v.tag) rfl h1 hblk1 Tryz.underlying29 rfl sz29 rfl ⟨Chg.refl _ _, rfl⟩)
  · intro g w1 hR hf hd
    have h1 : (fun (u : Value) (_ : World) => u = Value.agg (List.toArray (digC v.tag))) (g 7) w1 := hd.1 rfl
    have hA1 := Ext.agr hR (show Agr H wb.drew from hAb)
    refine StepT.plain rfl (O.call (fid := 47) (cap := #[]) (args := [Value.agg (List.toArray (digC v.tag))]) rfl rfl (by show [g 7] = _; rw [h1]) Tryz.func47 rfl rfl ?_)
    refine Calls.mono (digest_calls v.tag) ?_
    rintro e w2 ⟨v2, rfl, rb2, hE2⟩
    refine ⟨v2, rfl, hE2, ?_⟩
    show RB (hfOf w2) v2 (digB x.tag)
    rw [← r.tag]; exact rb2
  · intro g w1 hR hf hd
    have hA1 := Ext.agr hR (show Agr H wb.drew from hAb)
    have p5 : (fun (u : Value) (w : World) => RB (hfOf w) u (be8 x.index)) (g 5) w1 := hd.1 rfl
    have p8 : (fun (u : Value) (w : World) => RB (hfOf w) u (digB x.tag)) (g 8) w1 := hd.2.1 rfl
    refine StepT.plain rfl (O.buildSlice (vs := [g 5, g 8]) rfl rfl rfl Tryz.underlying133 inf22 (fun u hu => cells_size_one ((All2.one (H := hfOf w1) (vs := [g 5, g 8]) (ps := [be8 x.index, digB x.tag]) (.cons p5 (.cons p8 (.nil)))) u hu)) (by decide) ?_)
    intro b2 w2 hb2 hb21 hE2 hblk2
    exact ⟨hE2, rbb_of_blk (ps := [be8 x.index, digB x.tag]) hblk2 (.cons (RB.mono p5 (Ext.hle hE2)) (.cons (RB.mono p8 (Ext.hle hE2)) (.nil))) rfl (by decide)⟩
  · intro g w1 hR hf hd
    have h1 : (fun (u : Value) (w : World) => RBB (hfOf w) u [be8 x.index, digB x.tag]) (g 9) w1 := hd.1 rfl
    have hA1 := Ext.agr hR (show Agr H wb.drew from hAb)
    refine StepT.plain rfl (O.call (fid := 44) (cap := #[]) (args := [g 9]) rfl rfl rfl Tryz.func44 rfl rfl ?_)
    refine Calls.mono (Join_calls (Agr.hf w1) h1 hlen) ?_
    rintro e w2 ⟨v2, rfl, own2, hE2⟩
    exact ⟨v2, rfl, hE2, (own2.heap fun k hk => hA1.none (own2.base hk).1).lower hR.size⟩
  · intro g w1 hR hf hd
    have h1 : (fun (u : Value) (w : World) => OwnB H w wb.heap.size u (join [be8 x.index, digB x.tag])) (g 10) w1 := hd.1 rfl
    exact StepT.plain rfl (O.assign (v := g 10) rfl rfl ⟨Chg.refl _ _, h1⟩)
  intro g w1 hR hf hall
  have own := hall.2.2.2.2.2.2.2.2.1
  refine hK2 _ _ ?_
  try clear hK2 K2
  refine W.ret ?_
  exact retQ_one rfl rfl ⟨_, rfl, own.lower hEb.size, hEb.trans (Chg.trans (Ext.drew wb) hR)⟩

theorem list_Sig_calls {H : Heap} {w : World} {v : Value} {xs : List DSig} (hA : Agr H w) (r : RL 33 cSig H v xs) (hlen : (join (xs.map eSig)).length ≤ 35184372088832) : Calls Tryz.prog 127 #[v, .func (.func 102) #[] #[]] w (RetNew H w (join (xs.map eSig))) := by
  obtain ⟨ao, cap, rfl⟩ := r.form
  have hjl := join_length (xs.map eSig)
  have hge := joinTail_ge (xs.map eSig)
  rw [List.length_map] at hge
  refine calls_of_W (n := 23) Tryz.func127 rfl Tryz.ntmps127 (Nat.le_of_ble_eq_true rfl) ?_
  refine W.seq fun K1 hK1 => ?_
  refine W.region ?_
  refine SeqOps.put 4 rfl rfl rfl (O.assign (v := (.slice none 0 0)) rfl rfl ?_)
  refine SeqOps.nil ?_
  refine hK1 _ _ ?_
  try clear hK1 K1
  refine W.seq fun K2 hK2 => ?_
  refine W.region ?_
  refine SeqOps.put 5 rfl rfl rfl (O.assign (v := (.slice none 0 0)) rfl rfl ?_)
  refine SeqOps.nil ?_
  refine hK2 _ _ ?_
  try clear hK2 K2
  refine W.seq fun K3 hK3 => ?_
  refine W.seq fun K4 hK4 => ?_
  refine W.region ?_
  refine SeqOps.put 8 rfl rfl rfl (O.move (v := (.slice ao xs.length cap)) rfl rfl ?_)
  refine SeqOps.put 9 rfl rfl rfl (O.lenSlice (ad := ao) (n := xs.length) (c := cap) rfl rfl Tryz.underlying41 ?_)
  refine SeqOps.put 10 rfl rfl rfl (O.move (v := (.int .i64 (0))) rfl rfl ?_)
  refine SeqOps.nil ?_
  refine hK4 _ _ ?_
  try clear hK4 K4
  refine W.block ?_
  refine W.loop [1, 5, 8, 9, 10] (fun vals wk => ∃ H' all vs, ∃ k : Nat, vals = [.func (.func 102) #[] #[], all, .slice ao xs.length cap, .int .i64 (xs.length : Int), .int .i64 (k : Int)] ∧ k ≤ xs.length ∧ St H w NoX H' wk ∧ Own H' wk w.heap.size 22 1 all k vs ∧ All2 (RB H') vs ((xs.take k).map eSig)) (fun vals _ => xs.length - (intOf (vals.getD 4 undef)).toNat) ⟨H, _, [], 0, rfl, Nat.zero_le _, St.start _ hA, Own.nil _ _ _ _ _, .nil⟩ ?_
  rintro g _ wk ⟨H', all, vs, k, rfl, hk, st, own, h2⟩
  rcases Nat.lt_or_ge k xs.length with hlt | hge2
  · have hpl := elem_le_joinTail (xs.map eSig) (eSig xs[k]) (List.mem_map.2 ⟨_, by simp, rfl⟩)
    have hr' := RL.mono (R := cSig) cSig.mono r st.le
    obtain ⟨ad, cs, rfl, hcl, hre, hone, hcell⟩ := RL.elem hr' hlt
    replace hcell := hcell (by decide)
    obtain ⟨q, rfl, hre⟩ := hre
    refine W.seq fun K5 hK5 => ?_
    refine W.region ?_
    refine SeqOps.put 11 rfl rfl rfl (O.cmp (a := (k : Int)) (b := (xs.length : Int)) (r := true) rfl rfl rfl (by simp [cmpI]; omega) ?_)
    refine SeqOps.nil ?_
    refine hK5 _ _ ?_
    try clear hK5 K5
    refine W.seq fun K6 hK6 => ?_
    refine W.cond_true rfl ?_
    refine W.skip ?_
    refine hK6 _ _ ?_
    try clear hK6 K6
    refine W.seq fun K7 hK7 => ?_
    refine W.block ?_
    refine W.seq fun K8 hK8 => ?_
    refine W.region ?_
    refine SeqOps.put 12 rfl rfl rfl (O.indexAddr (a := ad) (len := xs.length) (cap := cap) (i := (k : Int)) (sz := 33) (v := .pointer (some (ad.add (k * 33)))) rfl rfl rfl Tryz.underlying41 sz89 (by omega) (by omega) (by simp) ?_)
    refine SeqOps.put 13 rfl rfl rfl (O.loadAgg (a := ad.add (k * 33)) (cs := q.cells) rfl rfl Tryz.underlying89 rfl sz89 (fun j u hu => st.agr.cell (hcell j u hu)) ?_)
    refine SeqOps.put 7 rfl rfl rfl (O.alloc rfl zr89 ?_)
    intro bx wa hbx hbx1 hEa hblk0
    refine SeqOps.eff rfl rfl (O.store (b := bx) (off := 0) (v := .agg (List.toArray q.cells)) (n := 33) (c' := q.cells.toArray) rfl rfl rfl hblk0 sz89 rfl (by decide) (VSig.one hre.ok) rfl ?_)
    intro wb hCb hblk
    have hEb : Ext wk wb := hEa.trans_new hCb fun i hi => .inl (by omega)
    refine SeqOps.nil ?_
    refine hK8 _ _ ?_
    try clear hK8 K8
    refine W.region ?_
    refine SeqOps.put 14 rfl rfl rfl (O.move (v := all) rfl rfl ?_)
    refine SeqOps.put 15 rfl rfl rfl (O.move (v := (.func (.func 102) #[] #[])) rfl rfl ?_)
    refine SeqOps.put 16 rfl rfl rfl (O.loadBlk (b := bx) (off := 0) (cs := q.cells) rfl rfl hblk Tryz.underlying89 rfl sz89 rfl ?_)
    have st1 := st.new hEb
    refine SeqOps.put 17 rfl rfl rfl (O.call (fid := 102) (cap := #[]) (args := [(.agg (List.toArray (q.cells)))]) rfl rfl rfl Tryz.func102 rfl rfl ?_)
    refine Calls.mono (Sig_calls st1.agr hre (by omega)) ?_
    rintro e w2 ⟨o2, rfl, own2, hE2⟩
    have st2 := st1.new hE2
    obtain ⟨H2, hle2, st3, hsame, rb2⟩ := own2.freeze st2 (st1.chg.size)
    have own3 : Own H2 w2 w.heap.size 22 1 all k vs := ((own.ext hEb).ext hE2).heap fun j hj => by rw [hsame j fun e => by have h1 := (own.base hj).2; have h2 := (own2.base e).1; have h3 := hEb.size; omega]; exact own.out j hj
    obtain ⟨aoe, cape, rfl⟩ := RS.form rb2
    refine ⟨_, rfl, ?_⟩
    refine SeqOps.put 18 rfl rfl rfl (O.buildSlice (vs := [(.slice aoe (eSig xs[k]).length cape)]) rfl rfl rfl Tryz.underlying133 inf22 (by intro v hv; simp at hv; subst hv; rfl) (by decide) ?_)
    intro b3 w3 hb3 hb31 hE3 hblk3
    have st4 := st3.new hE3
    refine SeqOps.put 19 rfl rfl rfl (O.append (H := H2) (B := w.heap.size) (v := all) (vx := .slice (some ⟨b3, 0, none⟩) 1 1) (m := 1) (xs := vs) (news := [(.slice aoe (eSig xs[k]).length cape)]) rfl rfl rfl Tryz.underlying133 inf22 rfl (own3.ext hE3) (Own.ofBlk (H := fun _ => none) (B := 0) (s := 1) (xs := [(.slice aoe (eSig xs[k]).length cape)]) hblk3 (Nat.zero_le _) rfl rfl (by decide) (by intro u hu; simp at hu; subst hu; rfl)).rsw rfl (by omega) (by omega) st4.chg.size st4.agr ?_)
    intro o4 w4 own4 hC4
    refine SeqOps.put 5 rfl rfl rfl (O.assign (v := o4) rfl rfl ?_)
    refine SeqOps.nil ?_
    refine hK7 _ _ ?_
    try clear hK7 K7
    refine W.region ?_
    refine SeqOps.put 20 rfl rfl rfl (O.arith (a := (k : Int)) (b := 1) (r := (k : Int) + 1) (c := (k : Int) + 1) rfl rfl rfl rfl (by exact wrap_i64 (by omega) (by omega)) ?_)
    refine SeqOps.put 10 rfl rfl rfl (O.move (v := (.int .i64 ((k : Int) + 1))) rfl rfl ?_)
    refine SeqOps.nil ?_
    refine ⟨⟨H2, o4, _, k + 1, rfl, by omega, st4.step hC4 fun i hi => ⟨.inl ((own3.ext hE3).base hi).1, own3.out i hi⟩, own4, ?_⟩, by show xs.length - ((k + 1 : Nat) : Int).toNat < xs.length - ((k : Nat) : Int).toNat; omega⟩
    rw [List.take_succ_eq_append_getElem hlt, List.map_append]
    exact (h2.imp fun _ _ h => h.mono hle2).snoc rb2
  have hkn : k = xs.length := by omega
  refine W.seq fun K9 hK9 => ?_
  refine W.region ?_
  refine SeqOps.put 11 rfl rfl rfl (O.cmp (a := (k : Int)) (b := (xs.length : Int)) (r := false) rfl rfl rfl (by simp [cmpI]; omega) ?_)
  refine SeqOps.nil ?_
  refine hK9 _ _ ?_
  try clear hK9 K9
  refine W.seq fun K10 hK10 => ?_
  refine W.cond_false rfl ?_
  refine W.exit ?_
  refine hK3 _ _ ?_
  try clear hK3 K3
  refine W.seq fun K11 hK11 => ?_
  refine W.region ?_
  refine SeqOps.put 21 rfl rfl rfl (O.move (v := all) rfl rfl ?_)
  subst hkn
  rw [List.take_length] at h2
  obtain ⟨H3, hle3, st3, _, rs3⟩ := own.freeze st (Nat.le_refl _)
  refine SeqOps.put 22 rfl rfl rfl (O.call (fid := 44) (cap := #[]) (args := [all]) rfl rfl rfl Tryz.func44 rfl rfl ?_)
  refine Calls.mono (Join_calls st3.agr ⟨vs, h2.imp fun _ _ h => h.mono hle3, by rw [List.length_map]; exact rs3⟩ hlen) ?_
  rintro e w5 ⟨o5, rfl, own5, hE5⟩
  refine ⟨_, rfl, ?_⟩
  refine SeqOps.put 4 rfl rfl rfl (O.assign (v := o5) rfl rfl ?_)
  refine SeqOps.nil ?_
  refine hK11 _ _ ?_
  try clear hK11 K11
  refine W.ret ?_
  refine retQ_one rfl rfl ⟨o5, rfl, (own5.heap fun j hj => hA.none (Nat.le_trans st.chg.size (own5.base hj).1)).lower st.chg.size, st.chg.trans hE5⟩

theorem Header_calls {H : Heap} {w : World} {v : VHeader} {x : DHeader} (hA : Agr H w) (r : RHeader H v x) (hlen : (eHeader x).length ≤ 35184372088832) : Calls Tryz.prog 100 #[.agg (List.toArray v.cells)] w (RetNew H w (eHeader x)) := by
  refine calls_of_W (n := 29) Tryz.func100 rfl Tryz.ntmps100 (Nat.le_of_ble_eq_true rfl) ?_
  have hjl : (eHeader x).length = _ := join_length _
  refine W.seq fun K1 hK1 => ?_
  refine W.region ?_
  refine SeqOps.put 1 rfl rfl rfl (O.box (v := (.agg (List.toArray (v.cells)))) rfl rfl ?_)
  intro b wb hb hb1 hEb hblk
  have hAb := Ext.agr hEb hA
  refine SeqOps.put 2 rfl rfl rfl (O.assign (v := (.slice none 0 0)) rfl rfl ?_)
  refine SeqOps.nil ?_
  refine hK1 _ _ ?_
  try clear hK1 K1
  refine W.seq fun K2 hK2 => ?_
  refine W.region_any (by kernel_rfl) (by kernel_rfl) [3, 4, 5, 6, 7, 8, 9, 10, 11, 12, 13, 14, 15, 16, 17, 18, 19, 20, 21, 22, 23, 24, 25, 26, 27, 28, 2] rfl (fun a b => Ext a b) (fun _ => Chg.refl _ _) (fun h k => Chg.trans h k) [
      (fun (u : Value) (_ : World) => u = Value.pointer (some ⟨b, 0, none⟩)),
      (fun (u : Value) (_ : World) => u = Value.int .i64 v.chain),
      (fun (u : Value) (w : World) => RB (hfOf w) u (be8 x.chain)),
      (fun (u : Value) (_ : World) => u = Value.pointer (some ⟨b, 1, none⟩)),
      (fun (u : Value) (_ : World) => u = Value.int .i64 v.epoch),
      (fun (u : Value) (w : World) => RB (hfOf w) u (be8 x.epoch)),
      (fun (u : Value) (_ : World) => u = Value.pointer (some ⟨b, 2, none⟩)),
      (fun (u : Value) (_ : World) => u = Value.int .i64 v.height),
      (fun (u : Value) (w : World) => RB (hfOf w) u (be8 x.height)),
      (fun (u : Value) (_ : World) => u = Value.pointer (some ⟨b, 3, none⟩)),
      (fun (u : Value) (_ : World) => u = Value.int .i64 v.view),
      (fun (u : Value) (w : World) => RB (hfOf w) u (be8 x.view)),
      (fun (u : Value) (_ : World) => u = Value.pointer (some ⟨b, 4, none⟩)),
      (fun (u : Value) (_ : World) => u = Value.agg (List.toArray (digC v.parent))),
      (fun (u : Value) (w : World) => RB (hfOf w) u (digB x.parent)),
      (fun (u : Value) (_ : World) => u = Value.pointer (some ⟨b, 36, none⟩)),
      (fun (u : Value) (_ : World) => u = Value.agg (List.toArray (digC v.txs))),
      (fun (u : Value) (w : World) => RB (hfOf w) u (digB x.txs)),
      (fun (u : Value) (_ : World) => u = Value.pointer (some ⟨b, 68, none⟩)),
      (fun (u : Value) (_ : World) => u = Value.agg (List.toArray (digC v.root))),
      (fun (u : Value) (w : World) => RB (hfOf w) u (digB x.root)),
      (fun (u : Value) (_ : World) => u = Value.pointer (some ⟨b, 100, none⟩)),
      (fun (u : Value) (_ : World) => u = Value.int .i64 v.proposer),
      (fun (u : Value) (w : World) => RB (hfOf w) u (be8 x.proposer)),
      (fun (u : Value) (w : World) => RBB (hfOf w) u [be8 x.chain, be8 x.epoch, be8 x.height, be8 x.view, digB x.parent, digB x.txs, digB x.root, be8 x.proposer]),
      (fun (u : Value) (w : World) => OwnB H w wb.heap.size u (join [be8 x.chain, be8 x.epoch, be8 x.height, be8 x.view, digB x.parent, digB x.txs, digB x.root, be8 x.proposer])),
      (fun (u : Value) (w : World) => OwnB H w wb.heap.size u (join [be8 x.chain, be8 x.epoch, be8 x.height, be8 x.view, digB x.parent, digB x.txs, digB x.root, be8 x.proposer]))
    ] ⟨fun _ _ _ _ h => h, fun _ _ _ _ h => h, fun _ _ _ hE h => RB.mono h (Ext.hle hE), fun _ _ _ _ h => h, fun _ _ _ _ h => h, fun _ _ _ hE h => RB.mono h (Ext.hle hE), fun _ _ _ _ h => h, fun _ _ _ _ h => h, fun _ _ _ hE h => RB.mono h (Ext.hle hE), fun _ _ _ _ h => h, fun _ _ _ _ h => h, fun _ _ _ hE h => RB.mono h (Ext.hle hE), fun _ _ _ _ h => h, fun _ _ _ _ h => h, fun _ _ _ hE h => RB.mono h (Ext.hle hE), fun _ _ _ _ h => h, fun _ _ _ _ h => h, fun _ _ _ hE h => RB.mono h (Ext.hle hE), fun _ _ _ _ h => h, fun _ _ _ _ h => h, fun _ _ _ hE h => RB.mono h (Ext.hle hE), fun _ _ _ _ h => h, fun _ _ _ _ h => h, fun _ _ _ hE h => RB.mono h (Ext.hle hE), fun _ _ _ hE h => RBB.mono h (Ext.hle hE), fun _ _ _ hE h => Own.ext h hE, fun _ _ _ hE h => Own.ext h hE, trivial⟩ ⟨?_, ?_, ?_, ?_, ?_, ?_, ?_, ?_, ?_, ?_, ?_, ?_, ?_, ?_, ?_, ?_, ?_, ?_, ?_, ?_, ?_, ?_, ?_, ?_, ?_, ?_, ?_, trivial⟩ ?_
  · intro g w1 hR hf hd
    have h1 : g 1 = .pointer (some ⟨b, 0, none⟩) := hf 1 (by decide)
    exact StepT.plain rfl (O.fieldAddr (a := ⟨b, 0, none⟩) (v := Value.pointer (some ⟨b, 0, none⟩)) rfl h1 Tryz.underlying59 rfl (by kernel_rfl) rfl ⟨Chg.refl _ _, rfl⟩)
  · intro g w1 hR hf hd
    have h1 : (fun (u : Value) (_ : World) => u = Value.pointer (some ⟨b, 0, none⟩)) (g 3) w1 := hd.1 rfl
    have hblk1 := Ext.blk hR (show wb.drew.heap[b]? = _ from hblk)
    exact StepT.plain rfl (O.loadBlk1 (b := b) (off := 0) (v := Value.int .i64 v.chain) rfl h1 hblk1 Tryz.underlying3 rfl rfl ⟨Chg.refl _ _, rfl⟩)
  · intro g w1 hR hf hd
    have h1 : (fun (u : Value) (_ : World) => u = Value.int .i64 v.chain) (g 4) w1 := hd.1 rfl
    have hA1 := Ext.agr hR (show Agr H wb.drew from hAb)
    refine StepT.plain rfl (O.call (fid := 45) (cap := #[]) (args := [Value.int .i64 v.chain]) rfl rfl (by show [g 4] = _; rw [h1]) Tryz.func45 rfl rfl ?_)
    refine Calls.mono (num_int_calls (n := v.chain) hA1 (by rw [r.chain.1]; exact r.chain.2.1) (by rw [r.chain.1]; exact r.chain.2.2)) ?_
    rintro e w2 ⟨v2, rfl, own2, hE2⟩
    refine ⟨v2, rfl, hE2, ?_⟩
    show RB (hfOf w2) v2 (be8 x.chain)
    rw [← r.chain.1]; exact own2.rb
  · intro g w1 hR hf hd
    have h1 : g 1 = .pointer (some ⟨b, 0, none⟩) := hf 1 (by decide)
    exact StepT.plain rfl (O.fieldAddr (a := ⟨b, 0, none⟩) (v := Value.pointer (some ⟨b, 1, none⟩)) rfl h1 Tryz.underlying59 rfl (by kernel_rfl) rfl ⟨Chg.refl _ _, rfl⟩)
  · intro g w1 hR hf hd
    have h1 : (fun (u : Value) (_ : World) => u = Value.pointer (some ⟨b, 1, none⟩)) (g 6) w1 := hd.1 rfl
    have hblk1 := Ext.blk hR (show wb.drew.heap[b]? = _ from hblk)
    exact StepT.plain rfl (O.loadBlk1 (b := b) (off := 1) (v := Value.int .i64 v.epoch) rfl h1 hblk1 Tryz.underlying3 rfl rfl ⟨Chg.refl _ _, rfl⟩)
  · intro g w1 hR hf hd
    have h1 : (fun (u : Value) (_ : World) => u = Value.int .i64 v.epoch) (g 7) w1 := hd.1 rfl
    have hA1 := Ext.agr hR (show Agr H wb.drew from hAb)
    refine StepT.plain rfl (O.call (fid := 45) (cap := #[]) (args := [Value.int .i64 v.epoch]) rfl rfl (by show [g 7] = _; rw [h1]) Tryz.func45 rfl rfl ?_)
    refine Calls.mono (num_int_calls (n := v.epoch) hA1 (by rw [r.epoch.1]; exact r.epoch.2.1) (by rw [r.epoch.1]; exact r.epoch.2.2)) ?_
    rintro e w2 ⟨v2, rfl, own2, hE2⟩
    refine ⟨v2, rfl, hE2, ?_⟩
    show RB (hfOf w2) v2 (be8 x.epoch)
    rw [← r.epoch.1]; exact own2.rb
  · intro g w1 hR hf hd
    have h1 : g 1 = .pointer (some ⟨b, 0, none⟩) := hf 1 (by decide)
    exact StepT.plain rfl (O.fieldAddr (a := ⟨b, 0, none⟩) (v := Value.pointer (some ⟨b, 2, none⟩)) rfl h1 Tryz.underlying59 rfl (by kernel_rfl) rfl ⟨Chg.refl _ _, rfl⟩)
  · intro g w1 hR hf hd
    have h1 : (fun (u : Value) (_ : World) => u = Value.pointer (some ⟨b, 2, none⟩)) (g 9) w1 := hd.1 rfl
    have hblk1 := Ext.blk hR (show wb.drew.heap[b]? = _ from hblk)
    exact StepT.plain rfl (O.loadBlk1 (b := b) (off := 2) (v := Value.int .i64 v.height) rfl h1 hblk1 Tryz.underlying2 rfl rfl ⟨Chg.refl _ _, rfl⟩)
  · intro g w1 hR hf hd
    have h1 : (fun (u : Value) (_ : World) => u = Value.int .i64 v.height) (g 10) w1 := hd.1 rfl
    have hA1 := Ext.agr hR (show Agr H wb.drew from hAb)
    refine StepT.plain rfl (O.call (fid := 46) (cap := #[]) (args := [Value.int .i64 v.height]) rfl rfl (by show [g 10] = _; rw [h1]) Tryz.func46 rfl rfl ?_)
    refine Calls.mono (num_int64_calls (n := v.height) hA1 (by rw [r.height.1]; exact r.height.2.1) (by rw [r.height.1]; exact r.height.2.2)) ?_
    rintro e w2 ⟨v2, rfl, own2, hE2⟩
    refine ⟨v2, rfl, hE2, ?_⟩
    show RB (hfOf w2) v2 (be8 x.height)
    rw [← r.height.1]; exact own2.rb
  · intro g w1 hR hf hd
    have h1 : g 1 = .pointer (some ⟨b, 0, none⟩) := hf 1 (by decide)
    exact StepT.plain rfl (O.fieldAddr (a := ⟨b, 0, none⟩) (v := Value.pointer (some ⟨b, 3, none⟩)) rfl h1 Tryz.underlying59 rfl (by kernel_rfl) rfl ⟨Chg.refl _ _, rfl⟩)
  · intro g w1 hR hf hd
    have h1 : (fun (u : Value) (_ : World) => u = Value.pointer (some ⟨b, 3, none⟩)) (g 12) w1 := hd.1 rfl
    have hblk1 := Ext.blk hR (show wb.drew.heap[b]? = _ from hblk)
    exact StepT.plain rfl (O.loadBlk1 (b := b) (off := 3) (v := Value.int .i64 v.view) rfl h1 hblk1 Tryz.underlying2 rfl rfl ⟨Chg.refl _ _, rfl⟩)
  · intro g w1 hR hf hd
    have h1 : (fun (u : Value) (_ : World) => u = Value.int .i64 v.view) (g 13) w1 := hd.1 rfl
    have hA1 := Ext.agr hR (show Agr H wb.drew from hAb)
    refine StepT.plain rfl (O.call (fid := 46) (cap := #[]) (args := [Value.int .i64 v.view]) rfl rfl (by show [g 13] = _; rw [h1]) Tryz.func46 rfl rfl ?_)
    refine Calls.mono (num_int64_calls (n := v.view) hA1 (by rw [r.view.1]; exact r.view.2.1) (by rw [r.view.1]; exact r.view.2.2)) ?_
    rintro e w2 ⟨v2, rfl, own2, hE2⟩
    refine ⟨v2, rfl, hE2, ?_⟩
    show RB (hfOf w2) v2 (be8 x.view)
    rw [← r.view.1]; exact own2.rb
  · intro g w1 hR hf hd
    have h1 : g 1 = .pointer (some ⟨b, 0, none⟩) := hf 1 (by decide)
    exact StepT.plain rfl (O.fieldAddr (a := ⟨b, 0, none⟩) (v := Value.pointer (some ⟨b, 4, none⟩)) rfl h1 Tryz.underlying59 rfl (by kernel_rfl) rfl ⟨Chg.refl _ _, rfl⟩)
  · intro g w1 hR hf hd
    have h1 : (fun (u : Value) (_ : World) => u = Value.pointer (some ⟨b, 4, none⟩)) (g 15) w1 := hd.1 rfl
    have hblk1 := Ext.blk hR (show wb.drew.heap[b]? = _ from hblk)
    exact StepT.plain rfl (O.loadBlk (b := b) (off := 4) (cs := digC v.parent) rfl h1 hblk1 Tryz.underlying29 rfl sz29 rfl ⟨Chg.refl _ _, rfl⟩)
  · intro g w1 hR hf hd
    have h1 : (fun (u : Value) (_ : World) => u = Value.agg (List.toArray (digC v.parent))) (g 16) w1 := hd.1 rfl
    have hA1 := Ext.agr hR (show Agr H wb.drew from hAb)
    refine StepT.plain rfl (O.call (fid := 47) (cap := #[]) (args := [Value.agg (List.toArray (digC v.parent))]) rfl rfl (by show [g 16] = _; rw [h1]) Tryz.func47 rfl rfl ?_)
    refine Calls.mono (digest_calls v.parent) ?_
    rintro e w2 ⟨v2, rfl, rb2, hE2⟩
    refine ⟨v2, rfl, hE2, ?_⟩
    show RB (hfOf w2) v2 (digB x.parent)
    rw [← r.parent]; exact rb2
  · intro g w1 hR hf hd
    have h1 : g 1 = .pointer (some ⟨b, 0, none⟩) := hf 1 (by decide)
    exact StepT.plain rfl (O.fieldAddr (a := ⟨b, 0, none⟩) (v := Value.pointer (some ⟨b, 36, none⟩)) rfl h1 Tryz.underlying59 rfl (by kernel_rfl) rfl ⟨Chg.refl _ _, rfl⟩)
  · intro g w1 hR hf hd
    have h1 : (fun (u : Value) (_ : World) => u = Value.pointer (some ⟨b, 36, none⟩)) (g 18) w1 := hd.1 rfl
    have hblk1 := Ext.blk hR (show wb.drew.heap[b]? = _ from hblk)
    exact StepT.plain rfl (O.loadBlk (b := b) (off := 36) (cs := digC v.txs) rfl h1 hblk1 Tryz.underlying29 rfl sz29 rfl ⟨Chg.refl _ _, rfl⟩)
  · intro g w1 hR hf hd
    have h1 : (fun (u : Value) (_ : World) => u = Value.agg (List.toArray (digC v.txs))) (g 19) w1 := hd.1 rfl
    have hA1 := Ext.agr hR (show Agr H wb.drew from hAb)
    refine StepT.plain rfl (O.call (fid := 47) (cap := #[]) (args := [Value.agg (List.toArray (digC v.txs))]) rfl rfl (by show [g 19] = _; rw [h1]) Tryz.func47 rfl rfl ?_)
    refine Calls.mono (digest_calls v.txs) ?_
    rintro e w2 ⟨v2, rfl, rb2, hE2⟩
    refine ⟨v2, rfl, hE2, ?_⟩
    show RB (hfOf w2) v2 (digB x.txs)
    rw [← r.txs]; exact rb2
  · intro g w1 hR hf hd
    have h1 : g 1 = .pointer (some ⟨b, 0, none⟩) := hf 1 (by decide)
    exact StepT.plain rfl (O.fieldAddr (a := ⟨b, 0, none⟩) (v := Value.pointer (some ⟨b, 68, none⟩)) rfl h1 Tryz.underlying59 rfl (by kernel_rfl) rfl ⟨Chg.refl _ _, rfl⟩)
  · intro g w1 hR hf hd
    have h1 : (fun (u : Value) (_ : World) => u = Value.pointer (some ⟨b, 68, none⟩)) (g 21) w1 := hd.1 rfl
    have hblk1 := Ext.blk hR (show wb.drew.heap[b]? = _ from hblk)
    exact StepT.plain rfl (O.loadBlk (b := b) (off := 68) (cs := digC v.root) rfl h1 hblk1 Tryz.underlying29 rfl sz29 rfl ⟨Chg.refl _ _, rfl⟩)
  · intro g w1 hR hf hd
    have h1 : (fun (u : Value) (_ : World) => u = Value.agg (List.toArray (digC v.root))) (g 22) w1 := hd.1 rfl
    have hA1 := Ext.agr hR (show Agr H wb.drew from hAb)
    refine StepT.plain rfl (O.call (fid := 47) (cap := #[]) (args := [Value.agg (List.toArray (digC v.root))]) rfl rfl (by show [g 22] = _; rw [h1]) Tryz.func47 rfl rfl ?_)
    refine Calls.mono (digest_calls v.root) ?_
    rintro e w2 ⟨v2, rfl, rb2, hE2⟩
    refine ⟨v2, rfl, hE2, ?_⟩
    show RB (hfOf w2) v2 (digB x.root)
    rw [← r.root]; exact rb2
  · intro g w1 hR hf hd
    have h1 : g 1 = .pointer (some ⟨b, 0, none⟩) := hf 1 (by decide)
    exact StepT.plain rfl (O.fieldAddr (a := ⟨b, 0, none⟩) (v := Value.pointer (some ⟨b, 100, none⟩)) rfl h1 Tryz.underlying59 rfl (by kernel_rfl) rfl ⟨Chg.refl _ _, rfl⟩)
  · intro g w1 hR hf hd
    have h1 : (fun (u : Value) (_ : World) => u = Value.pointer (some ⟨b, 100, none⟩)) (g 24) w1 := hd.1 rfl
    have hblk1 := Ext.blk hR (show wb.drew.heap[b]? = _ from hblk)
    exact StepT.plain rfl (O.loadBlk1 (b := b) (off := 100) (v := Value.int .i64 v.proposer) rfl h1 hblk1 Tryz.underlying3 rfl rfl ⟨Chg.refl _ _, rfl⟩)
  · intro g w1 hR hf hd
    have h1 : (fun (u : Value) (_ : World) => u = Value.int .i64 v.proposer) (g 25) w1 := hd.1 rfl
    have hA1 := Ext.agr hR (show Agr H wb.drew from hAb)
    refine StepT.plain rfl (O.call (fid := 45) (cap := #[]) (args := [Value.int .i64 v.proposer]) rfl rfl (by show [g 25] = _; rw [h1]) Tryz.func45 rfl rfl ?_)
    refine Calls.mono (num_int_calls (n := v.proposer) hA1 (by rw [r.proposer.1]; exact r.proposer.2.1) (by rw [r.proposer.1]; exact r.proposer.2.2)) ?_
    rintro e w2 ⟨v2, rfl, own2, hE2⟩
    refine ⟨v2, rfl, hE2, ?_⟩
    show RB (hfOf w2) v2 (be8 x.proposer)
    rw [← r.proposer.1]; exact own2.rb
  · intro g w1 hR hf hd
    have hA1 := Ext.agr hR (show Agr H wb.drew from hAb)
    have p5 : (fun (u : Value) (w : World) => RB (hfOf w) u (be8 x.chain)) (g 5) w1 := hd.1 rfl
    have p8 : (fun (u : Value) (w : World) => RB (hfOf w) u (be8 x.epoch)) (g 8) w1 := hd.2.1 rfl
    have p11 : (fun (u : Value) (w : World) => RB (hfOf w) u (be8 x.height)) (g 11) w1 := hd.2.2.1 rfl
    have p14 : (fun (u : Value) (w : World) => RB (hfOf w) u (be8 x.view)) (g 14) w1 := hd.2.2.2.1 rfl
    have p17 : (fun (u : Value) (w : World) => RB (hfOf w) u (digB x.parent)) (g 17) w1 := hd.2.2.2.2.1 rfl
    have p20 : (fun (u : Value) (w : World) => RB (hfOf w) u (digB x.txs)) (g 20) w1 := hd.2.2.2.2.2.1 rfl
    have p23 : (fun (u : Value) (w : World) => RB (hfOf w) u (digB x.root)) (g 23) w1 := hd.2.2.2.2.2.2.1 rfl
    have p26 : (fun (u : Value) (w : World) => RB (hfOf w) u (be8 x.proposer)) (g 26) w1 := hd.2.2.2.2.2.2.2.1 rfl
    refine StepT.plain rfl (O.buildSlice (vs := [g 5, g 8, g 11, g 14, g 17, g 20, g 23, g 26]) rfl rfl rfl Tryz.underlying133 inf22 (fun u hu => cells_size_one ((All2.one (H := hfOf w1) (vs := [g 5, g 8, g 11, g 14, g 17, g 20, g 23, g 26]) (ps := [be8 x.chain, be8 x.epoch, be8 x.height, be8 x.view, digB x.parent, digB x.txs, digB x.root, be8 x.proposer]) (.cons p5 (.cons p8 (.cons p11 (.cons p14 (.cons p17 (.cons p20 (.cons p23 (.cons p26 (.nil)))))))))) u hu)) (by decide) ?_)
    intro b2 w2 hb2 hb21 hE2 hblk2
    exact ⟨hE2, rbb_of_blk (ps := [be8 x.chain, be8 x.epoch, be8 x.height, be8 x.view, digB x.parent, digB x.txs, digB x.root, be8 x.proposer]) hblk2 (.cons (RB.mono p5 (Ext.hle hE2)) (.cons (RB.mono p8 (Ext.hle hE2)) (.cons (RB.mono p11 (Ext.hle hE2)) (.cons (RB.mono p14 (Ext.hle hE2)) (.cons (RB.mono p17 (Ext.hle hE2)) (.cons (RB.mono p20 (Ext.hle hE2)) (.cons (RB.mono p23 (Ext.hle hE2)) (.cons (RB.mono p26 (Ext.hle hE2)) (.nil))))))))) rfl (by decide)⟩
  · intro g w1 hR hf hd
    have h1 : (fun (u : Value) (w : World) => RBB (hfOf w) u [be8 x.chain, be8 x.epoch, be8 x.height, be8 x.view, digB x.parent, digB x.txs, digB x.root, be8 x.proposer]) (g 27) w1 := hd.1 rfl
    have hA1 := Ext.agr hR (show Agr H wb.drew from hAb)
    refine StepT.plain rfl (O.call (fid := 44) (cap := #[]) (args := [g 27]) rfl rfl rfl Tryz.func44 rfl rfl ?_)
    refine Calls.mono (Join_calls (Agr.hf w1) h1 hlen) ?_
    rintro e w2 ⟨v2, rfl, own2, hE2⟩
    exact ⟨v2, rfl, hE2, (own2.heap fun k hk => hA1.none (own2.base hk).1).lower hR.size⟩
  · intro g w1 hR hf hd
    have h1 : (fun (u : Value) (w : World) => OwnB H w wb.heap.size u (join [be8 x.chain, be8 x.epoch, be8 x.height, be8 x.view, digB x.parent, digB x.txs, digB x.root, be8 x.proposer])) (g 28) w1 := hd.1 rfl
    exact StepT.plain rfl (O.assign (v := g 28) rfl rfl ⟨Chg.refl _ _, h1⟩)
  intro g w1 hR hf hall
  have own := hall.2.2.2.2.2.2.2.2.2.2.2.2.2.2.2.2.2.2.2.2.2.2.2.2.2.2.1
  refine hK2 _ _ ?_
  try clear hK2 K2
  refine W.ret ?_
  exact retQ_one rfl rfl ⟨_, rfl, own.lower hEb.size, hEb.trans (Chg.trans (Ext.drew wb) hR)⟩

theorem list_Header_calls {H : Heap} {w : World} {v : Value} {xs : List DHeader} (hA : Agr H w) (r : RL 101 cHeader H v xs) (hlen : (join (xs.map eHeader)).length ≤ 35184372088832) : Calls Tryz.prog 103 #[v, .func (.func 100) #[] #[]] w (RetNew H w (join (xs.map eHeader))) := by
  obtain ⟨ao, cap, rfl⟩ := r.form
  have hjl := join_length (xs.map eHeader)
  have hge := joinTail_ge (xs.map eHeader)
  rw [List.length_map] at hge
  refine calls_of_W (n := 23) Tryz.func103 rfl Tryz.ntmps103 (Nat.le_of_ble_eq_true rfl) ?_
  refine W.seq fun K1 hK1 => ?_
  refine W.region ?_
  refine SeqOps.put 4 rfl rfl rfl (O.assign (v := (.slice none 0 0)) rfl rfl ?_)
  refine SeqOps.nil ?_
  refine hK1 _ _ ?_
  try clear hK1 K1
  refine W.seq fun K2 hK2 => ?_
  refine W.region ?_
  refine SeqOps.put 5 rfl rfl rfl (O.assign (v := (.slice none 0 0)) rfl rfl ?_)
  refine SeqOps.nil ?_
  refine hK2 _ _ ?_
  try clear hK2 K2
  refine W.seq fun K3 hK3 => ?_
  refine W.seq fun K4 hK4 => ?_
  refine W.region ?_
  refine SeqOps.put 8 rfl rfl rfl (O.move (v := (.slice ao xs.length cap)) rfl rfl ?_)
  refine SeqOps.put 9 rfl rfl rfl (O.lenSlice (ad := ao) (n := xs.length) (c := cap) rfl rfl Tryz.underlying39 ?_)
  refine SeqOps.put 10 rfl rfl rfl (O.move (v := (.int .i64 (0))) rfl rfl ?_)
  refine SeqOps.nil ?_
  refine hK4 _ _ ?_
  try clear hK4 K4
  refine W.block ?_
  refine W.loop [1, 5, 8, 9, 10] (fun vals wk => ∃ H' all vs, ∃ k : Nat, vals = [.func (.func 100) #[] #[], all, .slice ao xs.length cap, .int .i64 (xs.length : Int), .int .i64 (k : Int)] ∧ k ≤ xs.length ∧ St H w NoX H' wk ∧ Own H' wk w.heap.size 22 1 all k vs ∧ All2 (RB H') vs ((xs.take k).map eHeader)) (fun vals _ => xs.length - (intOf (vals.getD 4 undef)).toNat) ⟨H, _, [], 0, rfl, Nat.zero_le _, St.start _ hA, Own.nil _ _ _ _ _, .nil⟩ ?_
  rintro g _ wk ⟨H', all, vs, k, rfl, hk, st, own, h2⟩
  rcases Nat.lt_or_ge k xs.length with hlt | hge2
  · have hpl := elem_le_joinTail (xs.map eHeader) (eHeader xs[k]) (List.mem_map.2 ⟨_, by simp, rfl⟩)
    have hr' := RL.mono (R := cHeader) cHeader.mono r st.le
    obtain ⟨ad, cs, rfl, hcl, hre, hone, hcell⟩ := RL.elem hr' hlt
    replace hcell := hcell (by decide)
    obtain ⟨q, rfl, hre⟩ := hre
    refine W.seq fun K5 hK5 => ?_
    refine W.region ?_
    refine SeqOps.put 11 rfl rfl rfl (O.cmp (a := (k : Int)) (b := (xs.length : Int)) (r := true) rfl rfl rfl (by simp [cmpI]; omega) ?_)
    refine SeqOps.nil ?_
    refine hK5 _ _ ?_
    try clear hK5 K5
    refine W.seq fun K6 hK6 => ?_
    refine W.cond_true rfl ?_
    refine W.skip ?_
    refine hK6 _ _ ?_
    try clear hK6 K6
    refine W.seq fun K7 hK7 => ?_
    refine W.block ?_
    refine W.seq fun K8 hK8 => ?_
    refine W.region ?_
    refine SeqOps.put 12 rfl rfl rfl (O.indexAddr (a := ad) (len := xs.length) (cap := cap) (i := (k : Int)) (sz := 101) (v := .pointer (some (ad.add (k * 101)))) rfl rfl rfl Tryz.underlying39 sz59 (by omega) (by omega) (by simp) ?_)
    refine SeqOps.put 13 rfl rfl rfl (O.loadAgg (a := ad.add (k * 101)) (cs := q.cells) rfl rfl Tryz.underlying59 rfl sz59 (fun j u hu => st.agr.cell (hcell j u hu)) ?_)
    refine SeqOps.put 7 rfl rfl rfl (O.alloc rfl zr59 ?_)
    intro bx wa hbx hbx1 hEa hblk0
    refine SeqOps.eff rfl rfl (O.store (b := bx) (off := 0) (v := .agg (List.toArray q.cells)) (n := 101) (c' := q.cells.toArray) rfl rfl rfl hblk0 sz59 rfl (by decide) (VHeader.one hre.ok) rfl ?_)
    intro wb hCb hblk
    have hEb : Ext wk wb := hEa.trans_new hCb fun i hi => .inl (by omega)
    refine SeqOps.nil ?_
    refine hK8 _ _ ?_
    try clear hK8 K8
    refine W.region ?_
    refine SeqOps.put 14 rfl rfl rfl (O.move (v := all) rfl rfl ?_)
    refine SeqOps.put 15 rfl rfl rfl (O.move (v := (.func (.func 100) #[] #[])) rfl rfl ?_)
    refine SeqOps.put 16 rfl rfl rfl (O.loadBlk (b := bx) (off := 0) (cs := q.cells) rfl rfl hblk Tryz.underlying59 rfl sz59 rfl ?_)
    have st1 := st.new hEb
    refine SeqOps.put 17 rfl rfl rfl (O.call (fid := 100) (cap := #[]) (args := [(.agg (List.toArray (q.cells)))]) rfl rfl rfl Tryz.func100 rfl rfl ?_)
    refine Calls.mono (Header_calls st1.agr hre (by omega)) ?_
    rintro e w2 ⟨o2, rfl, own2, hE2⟩
    have st2 := st1.new hE2
    obtain ⟨H2, hle2, st3, hsame, rb2⟩ := own2.freeze st2 (st1.chg.size)
    have own3 : Own H2 w2 w.heap.size 22 1 all k vs := ((own.ext hEb).ext hE2).heap fun j hj => by rw [hsame j fun e => by have h1 := (own.base hj).2; have h2 := (own2.base e).1; have h3 := hEb.size; omega]; exact own.out j hj
    obtain ⟨aoe, cape, rfl⟩ := RS.form rb2
    refine ⟨_, rfl, ?_⟩
    refine SeqOps.put 18 rfl rfl rfl (O.buildSlice (vs := [(.slice aoe (eHeader xs[k]).length cape)]) rfl rfl rfl Tryz.underlying133 inf22 (by intro v hv; simp at hv; subst hv; rfl) (by decide) ?_)
    intro b3 w3 hb3 hb31 hE3 hblk3
    have st4 := st3.new hE3
    refine SeqOps.put 19 rfl rfl rfl (O.append (H := H2) (B := w.heap.size) (v := all) (vx := .slice (some ⟨b3, 0, none⟩) 1 1) (m := 1) (xs := vs) (news := [(.slice aoe (eHeader xs[k]).length cape)]) rfl rfl rfl Tryz.underlying133 inf22 rfl (own3.ext hE3) (Own.ofBlk (H := fun _ => none) (B := 0) (s := 1) (xs := [(.slice aoe (eHeader xs[k]).length cape)]) hblk3 (Nat.zero_le _) rfl rfl (by decide) (by intro u hu; simp at hu; subst hu; rfl)).rsw rfl (by omega) (by omega) st4.chg.size st4.agr ?_)
    intro o4 w4 own4 hC4
    refine SeqOps.put 5 rfl rfl rfl (O.assign (v := o4) rfl rfl ?_)
    refine SeqOps.nil ?_
    refine hK7 _ _ ?_
    try clear hK7 K7
    refine W.region ?_
    refine SeqOps.put 20 rfl rfl rfl (O.arith (a := (k : Int)) (b := 1) (r := (k : Int) + 1) (c := (k : Int) + 1) rfl rfl rfl rfl (by exact wrap_i64 (by omega) (by omega)) ?_)
    refine SeqOps.put 10 rfl rfl rfl (O.move (v := (.int .i64 ((k : Int) + 1))) rfl rfl ?_)
    refine SeqOps.nil ?_
    refine ⟨⟨H2, o4, _, k + 1, rfl, by omega, st4.step hC4 fun i hi => ⟨.inl ((own3.ext hE3).base hi).1, own3.out i hi⟩, own4, ?_⟩, by show xs.length - ((k + 1 : Nat) : Int).toNat < xs.length - ((k : Nat) : Int).toNat; omega⟩
    rw [List.take_succ_eq_append_getElem hlt, List.map_append]
    exact (h2.imp fun _ _ h => h.mono hle2).snoc rb2
  have hkn : k = xs.length := by omega
  refine W.seq fun K9 hK9 => ?_
  refine W.region ?_
  refine SeqOps.put 11 rfl rfl rfl (O.cmp (a := (k : Int)) (b := (xs.length : Int)) (r := false) rfl rfl rfl (by simp [cmpI]; omega) ?_)
  refine SeqOps.nil ?_
  refine hK9 _ _ ?_
  try clear hK9 K9
  refine W.seq fun K10 hK10 => ?_
  refine W.cond_false rfl ?_
  refine W.exit ?_
  refine hK3 _ _ ?_
  try clear hK3 K3
  refine W.seq fun K11 hK11 => ?_
  refine W.region ?_
  refine SeqOps.put 21 rfl rfl rfl (O.move (v := all) rfl rfl ?_)
  subst hkn
  rw [List.take_length] at h2
  obtain ⟨H3, hle3, st3, _, rs3⟩ := own.freeze st (Nat.le_refl _)
  refine SeqOps.put 22 rfl rfl rfl (O.call (fid := 44) (cap := #[]) (args := [all]) rfl rfl rfl Tryz.func44 rfl rfl ?_)
  refine Calls.mono (Join_calls st3.agr ⟨vs, h2.imp fun _ _ h => h.mono hle3, by rw [List.length_map]; exact rs3⟩ hlen) ?_
  rintro e w5 ⟨o5, rfl, own5, hE5⟩
  refine ⟨_, rfl, ?_⟩
  refine SeqOps.put 4 rfl rfl rfl (O.assign (v := o5) rfl rfl ?_)
  refine SeqOps.nil ?_
  refine hK11 _ _ ?_
  try clear hK11 K11
  refine W.ret ?_
  refine retQ_one rfl rfl ⟨o5, rfl, (own5.heap fun j hj => hA.none (Nat.le_trans st.chg.size (own5.base hj).1)).lower st.chg.size, st.chg.trans hE5⟩

theorem QC_calls {H : Heap} {w : World} {v : VQC} {x : DQC} (hA : Agr H w) (r : RQC H v x) (hlen : (eQC x).length ≤ 35184372088832) : Calls Tryz.prog 101 #[.agg (List.toArray v.cells)] w (RetNew H w (eQC x)) := by
  refine calls_of_W (n := 23) Tryz.func101 rfl Tryz.ntmps101 (Nat.le_of_ble_eq_true rfl) ?_
  have hjl : (eQC x).length = _ := join_length _
  have hpl_signers : (eInts x.signers).length ≤ 35184372088832 := by
    have h1 := elem_le_joinTail [be8 x.chain, be8 x.epoch, be8 x.view, digB x.block, eInts x.signers, join (x.sigs.map eSig)] (eInts x.signers) (show _ ∈ _ by rw [List.mem_iff_getElem?]; exact ⟨4, rfl⟩)
    rw [hjl] at hlen
    exact Nat.le_trans h1 (by omega)
  have hpl_sigs : (join (x.sigs.map eSig)).length ≤ 35184372088832 := by
    have h1 := elem_le_joinTail [be8 x.chain, be8 x.epoch, be8 x.view, digB x.block, eInts x.signers, join (x.sigs.map eSig)] (join (x.sigs.map eSig)) (show _ ∈ _ by rw [List.mem_iff_getElem?]; exact ⟨5, rfl⟩)
    rw [hjl] at hlen
    exact Nat.le_trans h1 (by omega)
  refine W.seq fun K1 hK1 => ?_
  refine W.region ?_
  refine SeqOps.put 1 rfl rfl rfl (O.box (v := (.agg (List.toArray (v.cells)))) rfl rfl ?_)
  intro b wb hb hb1 hEb hblk
  have hAb := Ext.agr hEb hA
  refine SeqOps.put 2 rfl rfl rfl (O.assign (v := (.slice none 0 0)) rfl rfl ?_)
  refine SeqOps.nil ?_
  refine hK1 _ _ ?_
  try clear hK1 K1
  refine W.seq fun K2 hK2 => ?_
  refine W.region_any (by kernel_rfl) (by kernel_rfl) [3, 4, 5, 6, 7, 8, 9, 10, 11, 12, 13, 14, 15, 16, 17, 18, 19, 20, 21, 22, 2] rfl (fun a b => Ext a b) (fun _ => Chg.refl _ _) (fun h k => Chg.trans h k) [
      (fun (u : Value) (_ : World) => u = Value.pointer (some ⟨b, 0, none⟩)),
      (fun (u : Value) (_ : World) => u = Value.int .i64 v.chain),
      (fun (u : Value) (w : World) => RB (hfOf w) u (be8 x.chain)),
      (fun (u : Value) (_ : World) => u = Value.pointer (some ⟨b, 1, none⟩)),
      (fun (u : Value) (_ : World) => u = Value.int .i64 v.epoch),
      (fun (u : Value) (w : World) => RB (hfOf w) u (be8 x.epoch)),
      (fun (u : Value) (_ : World) => u = Value.pointer (some ⟨b, 2, none⟩)),
      (fun (u : Value) (_ : World) => u = Value.int .i64 v.view),
      (fun (u : Value) (w : World) => RB (hfOf w) u (be8 x.view)),
      (fun (u : Value) (_ : World) => u = Value.pointer (some ⟨b, 3, none⟩)),
      (fun (u : Value) (_ : World) => u = Value.agg (List.toArray (digC v.block))),
      (fun (u : Value) (w : World) => RB (hfOf w) u (digB x.block)),
      (fun (u : Value) (_ : World) => u = Value.pointer (some ⟨b, 35, none⟩)),
      (fun (u : Value) (_ : World) => u = v.signers),
      (fun (u : Value) (w : World) => RB (hfOf w) u (eInts x.signers)),
      (fun (u : Value) (_ : World) => u = Value.pointer (some ⟨b, 36, none⟩)),
      (fun (u : Value) (_ : World) => u = v.sigs),
      (fun (u : Value) (w : World) => RB (hfOf w) u (join (x.sigs.map eSig))),
      (fun (u : Value) (w : World) => RBB (hfOf w) u [be8 x.chain, be8 x.epoch, be8 x.view, digB x.block, eInts x.signers, join (x.sigs.map eSig)]),
      (fun (u : Value) (w : World) => OwnB H w wb.heap.size u (join [be8 x.chain, be8 x.epoch, be8 x.view, digB x.block, eInts x.signers, join (x.sigs.map eSig)])),
      (fun (u : Value) (w : World) => OwnB H w wb.heap.size u (join [be8 x.chain, be8 x.epoch, be8 x.view, digB x.block, eInts x.signers, join (x.sigs.map eSig)]))
    ] ⟨fun _ _ _ _ h => h, fun _ _ _ _ h => h, fun _ _ _ hE h => RB.mono h (Ext.hle hE), fun _ _ _ _ h => h, fun _ _ _ _ h => h, fun _ _ _ hE h => RB.mono h (Ext.hle hE), fun _ _ _ _ h => h, fun _ _ _ _ h => h, fun _ _ _ hE h => RB.mono h (Ext.hle hE), fun _ _ _ _ h => h, fun _ _ _ _ h => h, fun _ _ _ hE h => RB.mono h (Ext.hle hE), fun _ _ _ _ h => h, fun _ _ _ _ h => h, fun _ _ _ hE h => RB.mono h (Ext.hle hE), fun _ _ _ _ h => h, fun _ _ _ _ h => h, fun _ _ _ hE h => RB.mono h (Ext.hle hE), fun _ _ _ hE h => RBB.mono h (Ext.hle hE), fun _ _ _ hE h => Own.ext h hE, fun _ _ _ hE h => Own.ext h hE, trivial⟩ ⟨?_, ?_, ?_, ?_, ?_, ?_, ?_, ?_, ?_, ?_, ?_, ?_, ?_, ?_, ?_, ?_, ?_, ?_, ?_, ?_, ?_, trivial⟩ ?_
  · intro g w1 hR hf hd
    have h1 : g 1 = .pointer (some ⟨b, 0, none⟩) := hf 1 (by decide)
    exact StepT.plain rfl (O.fieldAddr (a := ⟨b, 0, none⟩) (v := Value.pointer (some ⟨b, 0, none⟩)) rfl h1 Tryz.underlying43 rfl (by kernel_rfl) rfl ⟨Chg.refl _ _, rfl⟩)
  · intro g w1 hR hf hd
    have h1 : (fun (u : Value) (_ : World) => u = Value.pointer (some ⟨b, 0, none⟩)) (g 3) w1 := hd.1 rfl
    have hblk1 := Ext.blk hR (show wb.drew.heap[b]? = _ from hblk)
    exact StepT.plain rfl (O.loadBlk1 (b := b) (off := 0) (v := Value.int .i64 v.chain) rfl h1 hblk1 Tryz.underlying3 rfl rfl ⟨Chg.refl _ _, rfl⟩)
  · intro g w1 hR hf hd
    have h1 : (fun (u : Value) (_ : World) => u = Value.int .i64 v.chain) (g 4) w1 := hd.1 rfl
    have hA1 := Ext.agr hR (show Agr H wb.drew from hAb)
    refine StepT.plain rfl (O.call (fid := 45) (cap := #[]) (args := [Value.int .i64 v.chain]) rfl rfl (by show [g 4] = _; rw [h1]) Tryz.func45 rfl rfl ?_)
    refine Calls.mono (num_int_calls (n := v.chain) hA1 (by rw [r.chain.1]; exact r.chain.2.1) (by rw [r.chain.1]; exact r.chain.2.2)) ?_
    rintro e w2 ⟨v2, rfl, own2, hE2⟩
    refine ⟨v2, rfl, hE2, ?_⟩
    show RB (hfOf w2) v2 (be8 x.chain)
    rw [← r.chain.1]; exact own2.rb
  · intro g w1 hR hf hd
    have h1 : g 1 = .pointer (some ⟨b, 0, none⟩) := hf 1 (by decide)
    exact StepT.plain rfl (O.fieldAddr (a := ⟨b, 0, none⟩) (v := Value.pointer (some ⟨b, 1, none⟩)) rfl h1 Tryz.underlying43 rfl (by kernel_rfl) rfl ⟨Chg.refl _ _, rfl⟩)
  · intro g w1 hR hf hd
    have h1 : (fun (u : Value) (_ : World) => u = Value.pointer (some ⟨b, 1, none⟩)) (g 6) w1 := hd.1 rfl
    have hblk1 := Ext.blk hR (show wb.drew.heap[b]? = _ from hblk)
    exact StepT.plain rfl (O.loadBlk1 (b := b) (off := 1) (v := Value.int .i64 v.epoch) rfl h1 hblk1 Tryz.underlying3 rfl rfl ⟨Chg.refl _ _, rfl⟩)
  · intro g w1 hR hf hd
    have h1 : (fun (u : Value) (_ : World) => u = Value.int .i64 v.epoch) (g 7) w1 := hd.1 rfl
    have hA1 := Ext.agr hR (show Agr H wb.drew from hAb)
    refine StepT.plain rfl (O.call (fid := 45) (cap := #[]) (args := [Value.int .i64 v.epoch]) rfl rfl (by show [g 7] = _; rw [h1]) Tryz.func45 rfl rfl ?_)
    refine Calls.mono (num_int_calls (n := v.epoch) hA1 (by rw [r.epoch.1]; exact r.epoch.2.1) (by rw [r.epoch.1]; exact r.epoch.2.2)) ?_
    rintro e w2 ⟨v2, rfl, own2, hE2⟩
    refine ⟨v2, rfl, hE2, ?_⟩
    show RB (hfOf w2) v2 (be8 x.epoch)
    rw [← r.epoch.1]; exact own2.rb
  · intro g w1 hR hf hd
    have h1 : g 1 = .pointer (some ⟨b, 0, none⟩) := hf 1 (by decide)
    exact StepT.plain rfl (O.fieldAddr (a := ⟨b, 0, none⟩) (v := Value.pointer (some ⟨b, 2, none⟩)) rfl h1 Tryz.underlying43 rfl (by kernel_rfl) rfl ⟨Chg.refl _ _, rfl⟩)
  · intro g w1 hR hf hd
    have h1 : (fun (u : Value) (_ : World) => u = Value.pointer (some ⟨b, 2, none⟩)) (g 9) w1 := hd.1 rfl
    have hblk1 := Ext.blk hR (show wb.drew.heap[b]? = _ from hblk)
    exact StepT.plain rfl (O.loadBlk1 (b := b) (off := 2) (v := Value.int .i64 v.view) rfl h1 hblk1 Tryz.underlying2 rfl rfl ⟨Chg.refl _ _, rfl⟩)
  · intro g w1 hR hf hd
    have h1 : (fun (u : Value) (_ : World) => u = Value.int .i64 v.view) (g 10) w1 := hd.1 rfl
    have hA1 := Ext.agr hR (show Agr H wb.drew from hAb)
    refine StepT.plain rfl (O.call (fid := 46) (cap := #[]) (args := [Value.int .i64 v.view]) rfl rfl (by show [g 10] = _; rw [h1]) Tryz.func46 rfl rfl ?_)
    refine Calls.mono (num_int64_calls (n := v.view) hA1 (by rw [r.view.1]; exact r.view.2.1) (by rw [r.view.1]; exact r.view.2.2)) ?_
    rintro e w2 ⟨v2, rfl, own2, hE2⟩
    refine ⟨v2, rfl, hE2, ?_⟩
    show RB (hfOf w2) v2 (be8 x.view)
    rw [← r.view.1]; exact own2.rb
  · intro g w1 hR hf hd
    have h1 : g 1 = .pointer (some ⟨b, 0, none⟩) := hf 1 (by decide)
    exact StepT.plain rfl (O.fieldAddr (a := ⟨b, 0, none⟩) (v := Value.pointer (some ⟨b, 3, none⟩)) rfl h1 Tryz.underlying43 rfl (by kernel_rfl) rfl ⟨Chg.refl _ _, rfl⟩)
  · intro g w1 hR hf hd
    have h1 : (fun (u : Value) (_ : World) => u = Value.pointer (some ⟨b, 3, none⟩)) (g 12) w1 := hd.1 rfl
    have hblk1 := Ext.blk hR (show wb.drew.heap[b]? = _ from hblk)
    exact StepT.plain rfl (O.loadBlk (b := b) (off := 3) (cs := digC v.block) rfl h1 hblk1 Tryz.underlying29 rfl sz29 rfl ⟨Chg.refl _ _, rfl⟩)
  · intro g w1 hR hf hd
    have h1 : (fun (u : Value) (_ : World) => u = Value.agg (List.toArray (digC v.block))) (g 13) w1 := hd.1 rfl
    have hA1 := Ext.agr hR (show Agr H wb.drew from hAb)
    refine StepT.plain rfl (O.call (fid := 47) (cap := #[]) (args := [Value.agg (List.toArray (digC v.block))]) rfl rfl (by show [g 13] = _; rw [h1]) Tryz.func47 rfl rfl ?_)
    refine Calls.mono (digest_calls v.block) ?_
    rintro e w2 ⟨v2, rfl, rb2, hE2⟩
    refine ⟨v2, rfl, hE2, ?_⟩
    show RB (hfOf w2) v2 (digB x.block)
    rw [← r.block]; exact rb2
  · intro g w1 hR hf hd
    have h1 : g 1 = .pointer (some ⟨b, 0, none⟩) := hf 1 (by decide)
    exact StepT.plain rfl (O.fieldAddr (a := ⟨b, 0, none⟩) (v := Value.pointer (some ⟨b, 35, none⟩)) rfl h1 Tryz.underlying43 rfl (by kernel_rfl) rfl ⟨Chg.refl _ _, rfl⟩)
  · intro g w1 hR hf hd
    have h1 : (fun (u : Value) (_ : World) => u = Value.pointer (some ⟨b, 35, none⟩)) (g 15) w1 := hd.1 rfl
    have hblk1 := Ext.blk hR (show wb.drew.heap[b]? = _ from hblk)
    exact StepT.plain rfl (O.loadBlk1 (b := b) (off := 35) (v := v.signers) rfl h1 hblk1 Tryz.underlying40 rfl rfl ⟨Chg.refl _ _, rfl⟩)
  · intro g w1 hR hf hd
    have h1 : (fun (u : Value) (_ : World) => u = v.signers) (g 16) w1 := hd.1 rfl
    have hA1 := Ext.agr hR (show Agr H wb.drew from hAb)
    refine StepT.plain rfl (O.call (fid := 59) (cap := #[]) (args := [v.signers]) rfl rfl (by show [g 16] = _; rw [h1]) Tryz.func59 rfl rfl ?_)
    refine Calls.mono (nums_calls hA1 r.signers hpl_signers) ?_
    rintro e w2 ⟨v2, rfl, own2, hE2⟩
    refine ⟨v2, rfl, hE2, ?_⟩
    show RB (hfOf w2) v2 (eInts x.signers)
    exact own2.rb
  · intro g w1 hR hf hd
    have h1 : g 1 = .pointer (some ⟨b, 0, none⟩) := hf 1 (by decide)
    exact StepT.plain rfl (O.fieldAddr (a := ⟨b, 0, none⟩) (v := Value.pointer (some ⟨b, 36, none⟩)) rfl h1 Tryz.underlying43 rfl (by kernel_rfl) rfl ⟨Chg.refl _ _, rfl⟩)
  · intro g w1 hR hf hd
    have h1 : (fun (u : Value) (_ : World) => u = Value.pointer (some ⟨b, 36, none⟩)) (g 18) w1 := hd.1 rfl
    have hblk1 := Ext.blk hR (show wb.drew.heap[b]? = _ from hblk)
    exact StepT.plain rfl (O.loadBlk1 (b := b) (off := 36) (v := v.sigs) rfl h1 hblk1 Tryz.underlying41 rfl rfl ⟨Chg.refl _ _, rfl⟩)
  · intro g w1 hR hf hd
    have h1 : (fun (u : Value) (_ : World) => u = v.sigs) (g 19) w1 := hd.1 rfl
    have hA1 := Ext.agr hR (show Agr H wb.drew from hAb)
    refine StepT.plain rfl (O.call (fid := 127) (cap := #[]) (args := [v.sigs, (.func (.func 102) #[] #[])]) rfl rfl (by show [g 19, (.func (.func 102) #[] #[])] = _; rw [h1]) Tryz.func127 rfl rfl ?_)
    refine Calls.mono (list_Sig_calls hA1 r.sigs hpl_sigs) ?_
    rintro e w2 ⟨v2, rfl, own2, hE2⟩
    refine ⟨v2, rfl, hE2, ?_⟩
    show RB (hfOf w2) v2 (join (x.sigs.map eSig))
    exact own2.rb
  · intro g w1 hR hf hd
    have hA1 := Ext.agr hR (show Agr H wb.drew from hAb)
    have p5 : (fun (u : Value) (w : World) => RB (hfOf w) u (be8 x.chain)) (g 5) w1 := hd.1 rfl
    have p8 : (fun (u : Value) (w : World) => RB (hfOf w) u (be8 x.epoch)) (g 8) w1 := hd.2.1 rfl
    have p11 : (fun (u : Value) (w : World) => RB (hfOf w) u (be8 x.view)) (g 11) w1 := hd.2.2.1 rfl
    have p14 : (fun (u : Value) (w : World) => RB (hfOf w) u (digB x.block)) (g 14) w1 := hd.2.2.2.1 rfl
    have p17 : (fun (u : Value) (w : World) => RB (hfOf w) u (eInts x.signers)) (g 17) w1 := hd.2.2.2.2.1 rfl
    have p20 : (fun (u : Value) (w : World) => RB (hfOf w) u (join (x.sigs.map eSig))) (g 20) w1 := hd.2.2.2.2.2.1 rfl
    refine StepT.plain rfl (O.buildSlice (vs := [g 5, g 8, g 11, g 14, g 17, g 20]) rfl rfl rfl Tryz.underlying133 inf22 (fun u hu => cells_size_one ((All2.one (H := hfOf w1) (vs := [g 5, g 8, g 11, g 14, g 17, g 20]) (ps := [be8 x.chain, be8 x.epoch, be8 x.view, digB x.block, eInts x.signers, join (x.sigs.map eSig)]) (.cons p5 (.cons p8 (.cons p11 (.cons p14 (.cons p17 (.cons p20 (.nil)))))))) u hu)) (by decide) ?_)
    intro b2 w2 hb2 hb21 hE2 hblk2
    exact ⟨hE2, rbb_of_blk (ps := [be8 x.chain, be8 x.epoch, be8 x.view, digB x.block, eInts x.signers, join (x.sigs.map eSig)]) hblk2 (.cons (RB.mono p5 (Ext.hle hE2)) (.cons (RB.mono p8 (Ext.hle hE2)) (.cons (RB.mono p11 (Ext.hle hE2)) (.cons (RB.mono p14 (Ext.hle hE2)) (.cons (RB.mono p17 (Ext.hle hE2)) (.cons (RB.mono p20 (Ext.hle hE2)) (.nil))))))) rfl (by decide)⟩
  · intro g w1 hR hf hd
    have h1 : (fun (u : Value) (w : World) => RBB (hfOf w) u [be8 x.chain, be8 x.epoch, be8 x.view, digB x.block, eInts x.signers, join (x.sigs.map eSig)]) (g 21) w1 := hd.1 rfl
    have hA1 := Ext.agr hR (show Agr H wb.drew from hAb)
    refine StepT.plain rfl (O.call (fid := 44) (cap := #[]) (args := [g 21]) rfl rfl rfl Tryz.func44 rfl rfl ?_)
    refine Calls.mono (Join_calls (Agr.hf w1) h1 hlen) ?_
    rintro e w2 ⟨v2, rfl, own2, hE2⟩
    exact ⟨v2, rfl, hE2, (own2.heap fun k hk => hA1.none (own2.base hk).1).lower hR.size⟩
  · intro g w1 hR hf hd
    have h1 : (fun (u : Value) (w : World) => OwnB H w wb.heap.size u (join [be8 x.chain, be8 x.epoch, be8 x.view, digB x.block, eInts x.signers, join (x.sigs.map eSig)])) (g 22) w1 := hd.1 rfl
    exact StepT.plain rfl (O.assign (v := g 22) rfl rfl ⟨Chg.refl _ _, h1⟩)
  intro g w1 hR hf hall
  have own := hall.2.2.2.2.2.2.2.2.2.2.2.2.2.2.2.2.2.2.2.2.1
  refine hK2 _ _ ?_
  try clear hK2 K2
  refine W.ret ?_
  exact retQ_one rfl rfl ⟨_, rfl, own.lower hEb.size, hEb.trans (Chg.trans (Ext.drew wb) hR)⟩

theorem Commit_calls {H : Heap} {w : World} {v : VCommit} {x : DCommit} (hA : Agr H w) (r : RCommit H v x) (hlen : (eCommit x).length ≤ 35184372088832) : Calls Tryz.prog 55 #[.agg (List.toArray v.cells)] w (RetNew H w (eCommit x)) := by
  refine calls_of_W (n := 11) Tryz.func55 rfl Tryz.ntmps55 (Nat.le_of_ble_eq_true rfl) ?_
  have hjl : (eCommit x).length = _ := join_length _
  have hpl_path : (join (x.path.map eHeader)).length ≤ 35184372088832 := by
    have h1 := elem_le_joinTail [join (x.path.map eHeader), eQC x.qc] (join (x.path.map eHeader)) (show _ ∈ _ by rw [List.mem_iff_getElem?]; exact ⟨0, rfl⟩)
    rw [hjl] at hlen
    exact Nat.le_trans h1 (by omega)
  have hpl_qc : (eQC x.qc).length ≤ 35184372088832 := by
    have h1 := elem_le_joinTail [join (x.path.map eHeader), eQC x.qc] (eQC x.qc) (show _ ∈ _ by rw [List.mem_iff_getElem?]; exact ⟨1, rfl⟩)
    rw [hjl] at hlen
    exact Nat.le_trans h1 (by omega)
  refine W.seq fun K1 hK1 => ?_
  refine W.region ?_
  refine SeqOps.put 1 rfl rfl rfl (O.box (v := (.agg (List.toArray (v.cells)))) rfl rfl ?_)
  intro b wb hb hb1 hEb hblk
  have hAb := Ext.agr hEb hA
  refine SeqOps.put 2 rfl rfl rfl (O.assign (v := (.slice none 0 0)) rfl rfl ?_)
  refine SeqOps.nil ?_
  refine hK1 _ _ ?_
  try clear hK1 K1
  refine W.seq fun K2 hK2 => ?_
  refine W.region_any (by kernel_rfl) (by kernel_rfl) [3, 4, 5, 6, 7, 8, 9, 10, 2] rfl (fun a b => Ext a b) (fun _ => Chg.refl _ _) (fun h k => Chg.trans h k) [
      (fun (u : Value) (_ : World) => u = Value.pointer (some ⟨b, 0, none⟩)),
      (fun (u : Value) (_ : World) => u = v.path),
      (fun (u : Value) (w : World) => RB (hfOf w) u (join (x.path.map eHeader))),
      (fun (u : Value) (_ : World) => u = Value.pointer (some ⟨b, 1, none⟩)),
      (fun (u : Value) (_ : World) => u = Value.agg (List.toArray v.qc.cells)),
      (fun (u : Value) (w : World) => RB (hfOf w) u (eQC x.qc)),
      (fun (u : Value) (w : World) => RBB (hfOf w) u [join (x.path.map eHeader), eQC x.qc]),
      (fun (u : Value) (w : World) => OwnB H w wb.heap.size u (join [join (x.path.map eHeader), eQC x.qc])),
      (fun (u : Value) (w : World) => OwnB H w wb.heap.size u (join [join (x.path.map eHeader), eQC x.qc]))
    ] ⟨fun _ _ _ _ h => h, fun _ _ _ _ h => h, fun _ _ _ hE h => RB.mono h (Ext.hle hE), fun _ _ _ _ h => h, fun _ _ _ _ h => h, fun _ _ _ hE h => RB.mono h (Ext.hle hE), fun _ _ _ hE h => RBB.mono h (Ext.hle hE), fun _ _ _ hE h => Own.ext h hE, fun _ _ _ hE h => Own.ext h hE, trivial⟩ ⟨?_, ?_, ?_, ?_, ?_, ?_, ?_, ?_, ?_, trivial⟩ ?_
  · intro g w1 hR hf hd
    have h1 : g 1 = .pointer (some ⟨b, 0, none⟩) := hf 1 (by decide)
    exact StepT.plain rfl (O.fieldAddr (a := ⟨b, 0, none⟩) (v := Value.pointer (some ⟨b, 0, none⟩)) rfl h1 Tryz.underlying45 rfl (by kernel_rfl) rfl ⟨Chg.refl _ _, rfl⟩)
  · intro g w1 hR hf hd
    have h1 : (fun (u : Value) (_ : World) => u = Value.pointer (some ⟨b, 0, none⟩)) (g 3) w1 := hd.1 rfl
    have hblk1 := Ext.blk hR (show wb.drew.heap[b]? = _ from hblk)
    exact StepT.plain rfl (O.loadBlk1 (b := b) (off := 0) (v := v.path) rfl h1 hblk1 Tryz.underlying39 rfl rfl ⟨Chg.refl _ _, rfl⟩)
  · intro g w1 hR hf hd
    have h1 : (fun (u : Value) (_ : World) => u = v.path) (g 4) w1 := hd.1 rfl
    have hA1 := Ext.agr hR (show Agr H wb.drew from hAb)
    refine StepT.plain rfl (O.call (fid := 103) (cap := #[]) (args := [v.path, (.func (.func 100) #[] #[])]) rfl rfl (by show [g 4, (.func (.func 100) #[] #[])] = _; rw [h1]) Tryz.func103 rfl rfl ?_)
    refine Calls.mono (list_Header_calls hA1 r.path hpl_path) ?_
    rintro e w2 ⟨v2, rfl, own2, hE2⟩
    refine ⟨v2, rfl, hE2, ?_⟩
    show RB (hfOf w2) v2 (join (x.path.map eHeader))
    exact own2.rb
  · intro g w1 hR hf hd
    have h1 : g 1 = .pointer (some ⟨b, 0, none⟩) := hf 1 (by decide)
    exact StepT.plain rfl (O.fieldAddr (a := ⟨b, 0, none⟩) (v := Value.pointer (some ⟨b, 1, none⟩)) rfl h1 Tryz.underlying45 rfl (by kernel_rfl) rfl ⟨Chg.refl _ _, rfl⟩)
  · intro g w1 hR hf hd
    have h1 : (fun (u : Value) (_ : World) => u = Value.pointer (some ⟨b, 1, none⟩)) (g 6) w1 := hd.1 rfl
    have hblk1 := Ext.blk hR (show wb.drew.heap[b]? = _ from hblk)
    exact StepT.plain rfl (O.loadBlk (b := b) (off := 1) (cs := v.qc.cells) rfl h1 hblk1 Tryz.underlying43 rfl sz43 rfl ⟨Chg.refl _ _, rfl⟩)
  · intro g w1 hR hf hd
    have h1 : (fun (u : Value) (_ : World) => u = Value.agg (List.toArray v.qc.cells)) (g 7) w1 := hd.1 rfl
    have hA1 := Ext.agr hR (show Agr H wb.drew from hAb)
    refine StepT.plain rfl (O.call (fid := 101) (cap := #[]) (args := [Value.agg (List.toArray v.qc.cells)]) rfl rfl (by show [g 7] = _; rw [h1]) Tryz.func101 rfl rfl ?_)
    refine Calls.mono (QC_calls hA1 r.qc hpl_qc) ?_
    rintro e w2 ⟨v2, rfl, own2, hE2⟩
    refine ⟨v2, rfl, hE2, ?_⟩
    show RB (hfOf w2) v2 (eQC x.qc)
    exact own2.rb
  · intro g w1 hR hf hd
    have hA1 := Ext.agr hR (show Agr H wb.drew from hAb)
    have p5 : (fun (u : Value) (w : World) => RB (hfOf w) u (join (x.path.map eHeader))) (g 5) w1 := hd.1 rfl
    have p8 : (fun (u : Value) (w : World) => RB (hfOf w) u (eQC x.qc)) (g 8) w1 := hd.2.1 rfl
    refine StepT.plain rfl (O.buildSlice (vs := [g 5, g 8]) rfl rfl rfl Tryz.underlying133 inf22 (fun u hu => cells_size_one ((All2.one (H := hfOf w1) (vs := [g 5, g 8]) (ps := [join (x.path.map eHeader), eQC x.qc]) (.cons p5 (.cons p8 (.nil)))) u hu)) (by decide) ?_)
    intro b2 w2 hb2 hb21 hE2 hblk2
    exact ⟨hE2, rbb_of_blk (ps := [join (x.path.map eHeader), eQC x.qc]) hblk2 (.cons (RB.mono p5 (Ext.hle hE2)) (.cons (RB.mono p8 (Ext.hle hE2)) (.nil))) rfl (by decide)⟩
  · intro g w1 hR hf hd
    have h1 : (fun (u : Value) (w : World) => RBB (hfOf w) u [join (x.path.map eHeader), eQC x.qc]) (g 9) w1 := hd.1 rfl
    have hA1 := Ext.agr hR (show Agr H wb.drew from hAb)
    refine StepT.plain rfl (O.call (fid := 44) (cap := #[]) (args := [g 9]) rfl rfl rfl Tryz.func44 rfl rfl ?_)
    refine Calls.mono (Join_calls (Agr.hf w1) h1 hlen) ?_
    rintro e w2 ⟨v2, rfl, own2, hE2⟩
    exact ⟨v2, rfl, hE2, (own2.heap fun k hk => hA1.none (own2.base hk).1).lower hR.size⟩
  · intro g w1 hR hf hd
    have h1 : (fun (u : Value) (w : World) => OwnB H w wb.heap.size u (join [join (x.path.map eHeader), eQC x.qc])) (g 10) w1 := hd.1 rfl
    exact StepT.plain rfl (O.assign (v := g 10) rfl rfl ⟨Chg.refl _ _, h1⟩)
  intro g w1 hR hf hall
  have own := hall.2.2.2.2.2.2.2.2.1
  refine hK2 _ _ ?_
  try clear hK2 K2
  refine W.ret ?_
  exact retQ_one rfl rfl ⟨_, rfl, own.lower hEb.size, hEb.trans (Chg.trans (Ext.drew wb) hR)⟩

theorem list_Commit_calls {H : Heap} {w : World} {v : Value} {xs : List DCommit} (hA : Agr H w) (r : RL 38 cCommit H v xs) (hlen : (join (xs.map eCommit)).length ≤ 35184372088832) : Calls Tryz.prog 54 #[v, .func (.func 55) #[] #[]] w (RetNew H w (join (xs.map eCommit))) := by
  obtain ⟨ao, cap, rfl⟩ := r.form
  have hjl := join_length (xs.map eCommit)
  have hge := joinTail_ge (xs.map eCommit)
  rw [List.length_map] at hge
  refine calls_of_W (n := 23) Tryz.func54 rfl Tryz.ntmps54 (Nat.le_of_ble_eq_true rfl) ?_
  refine W.seq fun K1 hK1 => ?_
  refine W.region ?_
  refine SeqOps.put 4 rfl rfl rfl (O.assign (v := (.slice none 0 0)) rfl rfl ?_)
  refine SeqOps.nil ?_
  refine hK1 _ _ ?_
  try clear hK1 K1
  refine W.seq fun K2 hK2 => ?_
  refine W.region ?_
  refine SeqOps.put 5 rfl rfl rfl (O.assign (v := (.slice none 0 0)) rfl rfl ?_)
  refine SeqOps.nil ?_
  refine hK2 _ _ ?_
  try clear hK2 K2
  refine W.seq fun K3 hK3 => ?_
  refine W.seq fun K4 hK4 => ?_
  refine W.region ?_
  refine SeqOps.put 8 rfl rfl rfl (O.move (v := (.slice ao xs.length cap)) rfl rfl ?_)
  refine SeqOps.put 9 rfl rfl rfl (O.lenSlice (ad := ao) (n := xs.length) (c := cap) rfl rfl Tryz.underlying33 ?_)
  refine SeqOps.put 10 rfl rfl rfl (O.move (v := (.int .i64 (0))) rfl rfl ?_)
  refine SeqOps.nil ?_
  refine hK4 _ _ ?_
  try clear hK4 K4
  refine W.block ?_
  refine W.loop [1, 5, 8, 9, 10] (fun vals wk => ∃ H' all vs, ∃ k : Nat, vals = [.func (.func 55) #[] #[], all, .slice ao xs.length cap, .int .i64 (xs.length : Int), .int .i64 (k : Int)] ∧ k ≤ xs.length ∧ St H w NoX H' wk ∧ Own H' wk w.heap.size 22 1 all k vs ∧ All2 (RB H') vs ((xs.take k).map eCommit)) (fun vals _ => xs.length - (intOf (vals.getD 4 undef)).toNat) ⟨H, _, [], 0, rfl, Nat.zero_le _, St.start _ hA, Own.nil _ _ _ _ _, .nil⟩ ?_
  rintro g _ wk ⟨H', all, vs, k, rfl, hk, st, own, h2⟩
  rcases Nat.lt_or_ge k xs.length with hlt | hge2
  · have hpl := elem_le_joinTail (xs.map eCommit) (eCommit xs[k]) (List.mem_map.2 ⟨_, by simp, rfl⟩)
    have hr' := RL.mono (R := cCommit) cCommit.mono r st.le
    obtain ⟨ad, cs, rfl, hcl, hre, hone, hcell⟩ := RL.elem hr' hlt
    replace hcell := hcell (by decide)
    obtain ⟨q, rfl, hre⟩ := hre
    refine W.seq fun K5 hK5 => ?_
    refine W.region ?_
    refine SeqOps.put 11 rfl rfl rfl (O.cmp (a := (k : Int)) (b := (xs.length : Int)) (r := true) rfl rfl rfl (by simp [cmpI]; omega) ?_)
    refine SeqOps.nil ?_
    refine hK5 _ _ ?_
    try clear hK5 K5
    refine W.seq fun K6 hK6 => ?_
    refine W.cond_true rfl ?_
    refine W.skip ?_
    refine hK6 _ _ ?_
    try clear hK6 K6
    refine W.seq fun K7 hK7 => ?_
    refine W.block ?_
    refine W.seq fun K8 hK8 => ?_
    refine W.region ?_
    refine SeqOps.put 12 rfl rfl rfl (O.indexAddr (a := ad) (len := xs.length) (cap := cap) (i := (k : Int)) (sz := 38) (v := .pointer (some (ad.add (k * 38)))) rfl rfl rfl Tryz.underlying33 sz45 (by omega) (by omega) (by simp) ?_)
    refine SeqOps.put 13 rfl rfl rfl (O.loadAgg (a := ad.add (k * 38)) (cs := q.cells) rfl rfl Tryz.underlying45 rfl sz45 (fun j u hu => st.agr.cell (hcell j u hu)) ?_)
    refine SeqOps.put 7 rfl rfl rfl (O.alloc rfl zr45 ?_)
    intro bx wa hbx hbx1 hEa hblk0
    refine SeqOps.eff rfl rfl (O.store (b := bx) (off := 0) (v := .agg (List.toArray q.cells)) (n := 38) (c' := q.cells.toArray) rfl rfl rfl hblk0 sz45 rfl (by decide) (VCommit.one hre.ok) rfl ?_)
    intro wb hCb hblk
    have hEb : Ext wk wb := hEa.trans_new hCb fun i hi => .inl (by omega)
    refine SeqOps.nil ?_
    refine hK8 _ _ ?_
    try clear hK8 K8
    refine W.region ?_
    refine SeqOps.put 14 rfl rfl rfl (O.move (v := all) rfl rfl ?_)
    refine SeqOps.put 15 rfl rfl rfl (O.move (v := (.func (.func 55) #[] #[])) rfl rfl ?_)
    refine SeqOps.put 16 rfl rfl rfl (O.loadBlk (b := bx) (off := 0) (cs := q.cells) rfl rfl hblk Tryz.underlying45 rfl sz45 rfl ?_)
    have st1 := st.new hEb
    refine SeqOps.put 17 rfl rfl rfl (O.call (fid := 55) (cap := #[]) (args := [(.agg (List.toArray (q.cells)))]) rfl rfl rfl Tryz.func55 rfl rfl ?_)
    refine Calls.mono (Commit_calls st1.agr hre (by omega)) ?_
    rintro e w2 ⟨o2, rfl, own2, hE2⟩
    have st2 := st1.new hE2
    obtain ⟨H2, hle2, st3, hsame, rb2⟩ := own2.freeze st2 (st1.chg.size)
    have own3 : Own H2 w2 w.heap.size 22 1 all k vs := ((own.ext hEb).ext hE2).heap fun j hj => by rw [hsame j fun e => by have h1 := (own.base hj).2; have h2 := (own2.base e).1; have h3 := hEb.size; omega]; exact own.out j hj
    obtain ⟨aoe, cape, rfl⟩ := RS.form rb2
    refine ⟨_, rfl, ?_⟩
    refine SeqOps.put 18 rfl rfl rfl (O.buildSlice (vs := [(.slice aoe (eCommit xs[k]).length cape)]) rfl rfl rfl Tryz.underlying133 inf22 (by intro v hv; simp at hv; subst hv; rfl) (by decide) ?_)
    intro b3 w3 hb3 hb31 hE3 hblk3
    have st4 := st3.new hE3
    refine SeqOps.put 19 rfl rfl rfl (O.append (H := H2) (B := w.heap.size) (v := all) (vx := .slice (some ⟨b3, 0, none⟩) 1 1) (m := 1) (xs := vs) (news := [(.slice aoe (eCommit xs[k]).length cape)]) rfl rfl rfl Tryz.underlying133 inf22 rfl (own3.ext hE3) (Own.ofBlk (H := fun _ => none) (B := 0) (s := 1) (xs := [(.slice aoe (eCommit xs[k]).length cape)]) hblk3 (Nat.zero_le _) rfl rfl (by decide) (by intro u hu; simp at hu; subst hu; rfl)).rsw rfl (by omega) (by omega) st4.chg.size st4.agr ?_)
    intro o4 w4 own4 hC4
    refine SeqOps.put 5 rfl rfl rfl (O.assign (v := o4) rfl rfl ?_)
    refine SeqOps.nil ?_
    refine hK7 _ _ ?_
    try clear hK7 K7
    refine W.region ?_
    refine SeqOps.put 20 rfl rfl rfl (O.arith (a := (k : Int)) (b := 1) (r := (k : Int) + 1) (c := (k : Int) + 1) rfl rfl rfl rfl (by exact wrap_i64 (by omega) (by omega)) ?_)
    refine SeqOps.put 10 rfl rfl rfl (O.move (v := (.int .i64 ((k : Int) + 1))) rfl rfl ?_)
    refine SeqOps.nil ?_
    refine ⟨⟨H2, o4, _, k + 1, rfl, by omega, st4.step hC4 fun i hi => ⟨.inl ((own3.ext hE3).base hi).1, own3.out i hi⟩, own4, ?_⟩, by show xs.length - ((k + 1 : Nat) : Int).toNat < xs.length - ((k : Nat) : Int).toNat; omega⟩
    rw [List.take_succ_eq_append_getElem hlt, List.map_append]
    exact (h2.imp fun _ _ h => h.mono hle2).snoc rb2
  have hkn : k = xs.length := by omega
  refine W.seq fun K9 hK9 => ?_
  refine W.region ?_
  refine SeqOps.put 11 rfl rfl rfl (O.cmp (a := (k : Int)) (b := (xs.length : Int)) (r := false) rfl rfl rfl (by simp [cmpI]; omega) ?_)
  refine SeqOps.nil ?_
  refine hK9 _ _ ?_
  try clear hK9 K9
  refine W.seq fun K10 hK10 => ?_
  refine W.cond_false rfl ?_
  refine W.exit ?_
  refine hK3 _ _ ?_
  try clear hK3 K3
  refine W.seq fun K11 hK11 => ?_
  refine W.region ?_
  refine SeqOps.put 21 rfl rfl rfl (O.move (v := all) rfl rfl ?_)
  subst hkn
  rw [List.take_length] at h2
  obtain ⟨H3, hle3, st3, _, rs3⟩ := own.freeze st (Nat.le_refl _)
  refine SeqOps.put 22 rfl rfl rfl (O.call (fid := 44) (cap := #[]) (args := [all]) rfl rfl rfl Tryz.func44 rfl rfl ?_)
  refine Calls.mono (Join_calls st3.agr ⟨vs, h2.imp fun _ _ h => h.mono hle3, by rw [List.length_map]; exact rs3⟩ hlen) ?_
  rintro e w5 ⟨o5, rfl, own5, hE5⟩
  refine ⟨_, rfl, ?_⟩
  refine SeqOps.put 4 rfl rfl rfl (O.assign (v := o5) rfl rfl ?_)
  refine SeqOps.nil ?_
  refine hK11 _ _ ?_
  try clear hK11 K11
  refine W.ret ?_
  refine retQ_one rfl rfl ⟨o5, rfl, (own5.heap fun j hj => hA.none (Nat.le_trans st.chg.size (own5.base hj).1)).lower st.chg.size, st.chg.trans hE5⟩

theorem Fact_calls {H : Heap} {w : World} {v : VFact} {x : DFact} (hA : Agr H w) (r : RFact H v x) (hlen : (eFact x).length ≤ 35184372088832) : Calls Tryz.prog 10 #[.agg (List.toArray v.cells)] w (RetNew H w (eFact x)) := by
  refine calls_of_W (n := 18) Tryz.func10 rfl Tryz.ntmps10 (Nat.le_of_ble_eq_true rfl) ?_
  have hjl : (eFact x).length = _ := join_length _
  have hpl_commit : (eCommit x.commit).length ≤ 35184372088832 := by
    have h1 := elem_le_joinTail [eCommit x.commit, digB x.key, x.value, eBool x.absent, x.proof] (eCommit x.commit) (show _ ∈ _ by rw [List.mem_iff_getElem?]; exact ⟨0, rfl⟩)
    rw [hjl] at hlen
    exact Nat.le_trans h1 (by omega)
  refine W.seq fun K1 hK1 => ?_
  refine W.region ?_
  refine SeqOps.put 1 rfl rfl rfl (O.box (v := (.agg (List.toArray (v.cells)))) rfl rfl ?_)
  intro b wb hb hb1 hEb hblk
  have hAb := Ext.agr hEb hA
  refine SeqOps.put 2 rfl rfl rfl (O.assign (v := (.slice none 0 0)) rfl rfl ?_)
  refine SeqOps.nil ?_
  refine hK1 _ _ ?_
  try clear hK1 K1
  refine W.seq fun K2 hK2 => ?_
  refine W.region_any (by kernel_rfl) (by kernel_rfl) [3, 4, 5, 6, 7, 8, 9, 10, 11, 12, 13, 14, 15, 16, 17, 2] rfl (fun a b => Ext a b) (fun _ => Chg.refl _ _) (fun h k => Chg.trans h k) [
      (fun (u : Value) (_ : World) => u = Value.pointer (some ⟨b, 0, none⟩)),
      (fun (u : Value) (_ : World) => u = Value.agg (List.toArray v.commit.cells)),
      (fun (u : Value) (w : World) => RB (hfOf w) u (eCommit x.commit)),
      (fun (u : Value) (_ : World) => u = Value.pointer (some ⟨b, 38, none⟩)),
      (fun (u : Value) (_ : World) => u = Value.agg (List.toArray (digC v.key))),
      (fun (u : Value) (w : World) => RB (hfOf w) u (digB x.key)),
      (fun (u : Value) (_ : World) => u = Value.pointer (some ⟨b, 70, none⟩)),
      (fun (u : Value) (_ : World) => u = v.value),
      (fun (u : Value) (_ : World) => u = Value.pointer (some ⟨b, 71, none⟩)),
      (fun (u : Value) (_ : World) => u = Value.bool v.absent),
      (fun (u : Value) (w : World) => RB (hfOf w) u (eBool x.absent)),
      (fun (u : Value) (_ : World) => u = Value.pointer (some ⟨b, 72, none⟩)),
      (fun (u : Value) (_ : World) => u = v.proof),
      (fun (u : Value) (w : World) => RBB (hfOf w) u [eCommit x.commit, digB x.key, x.value, eBool x.absent, x.proof]),
      (fun (u : Value) (w : World) => OwnB H w wb.heap.size u (join [eCommit x.commit, digB x.key, x.value, eBool x.absent, x.proof])),
      (fun (u : Value) (w : World) => OwnB H w wb.heap.size u (join [eCommit x.commit, digB x.key, x.value, eBool x.absent, x.proof]))
    ] ⟨fun _ _ _ _ h => h, fun _ _ _ _ h => h, fun _ _ _ hE h => RB.mono h (Ext.hle hE), fun _ _ _ _ h => h, fun _ _ _ _ h => h, fun _ _ _ hE h => RB.mono h (Ext.hle hE), fun _ _ _ _ h => h, fun _ _ _ _ h => h, fun _ _ _ _ h => h, fun _ _ _ _ h => h, fun _ _ _ hE h => RB.mono h (Ext.hle hE), fun _ _ _ _ h => h, fun _ _ _ _ h => h, fun _ _ _ hE h => RBB.mono h (Ext.hle hE), fun _ _ _ hE h => Own.ext h hE, fun _ _ _ hE h => Own.ext h hE, trivial⟩ ⟨?_, ?_, ?_, ?_, ?_, ?_, ?_, ?_, ?_, ?_, ?_, ?_, ?_, ?_, ?_, ?_, trivial⟩ ?_
  · intro g w1 hR hf hd
    have h1 : g 1 = .pointer (some ⟨b, 0, none⟩) := hf 1 (by decide)
    exact StepT.plain rfl (O.fieldAddr (a := ⟨b, 0, none⟩) (v := Value.pointer (some ⟨b, 0, none⟩)) rfl h1 Tryz.underlying47 rfl (by kernel_rfl) rfl ⟨Chg.refl _ _, rfl⟩)
  · intro g w1 hR hf hd
    have h1 : (fun (u : Value) (_ : World) => u = Value.pointer (some ⟨b, 0, none⟩)) (g 3) w1 := hd.1 rfl
    have hblk1 := Ext.blk hR (show wb.drew.heap[b]? = _ from hblk)
    exact StepT.plain rfl (O.loadBlk (b := b) (off := 0) (cs := v.commit.cells) rfl h1 hblk1 Tryz.underlying45 rfl sz45 rfl ⟨Chg.refl _ _, rfl⟩)
  · intro g w1 hR hf hd
    have h1 : (fun (u : Value) (_ : World) => u = Value.agg (List.toArray v.commit.cells)) (g 4) w1 := hd.1 rfl
    have hA1 := Ext.agr hR (show Agr H wb.drew from hAb)
    refine StepT.plain rfl (O.call (fid := 55) (cap := #[]) (args := [Value.agg (List.toArray v.commit.cells)]) rfl rfl (by show [g 4] = _; rw [h1]) Tryz.func55 rfl rfl ?_)
    refine Calls.mono (Commit_calls hA1 r.commit hpl_commit) ?_
    rintro e w2 ⟨v2, rfl, own2, hE2⟩
    refine ⟨v2, rfl, hE2, ?_⟩
    show RB (hfOf w2) v2 (eCommit x.commit)
    exact own2.rb
  · intro g w1 hR hf hd
    have h1 : g 1 = .pointer (some ⟨b, 0, none⟩) := hf 1 (by decide)
    exact StepT.plain rfl (O.fieldAddr (a := ⟨b, 0, none⟩) (v := Value.pointer (some ⟨b, 38, none⟩)) rfl h1 Tryz.underlying47 rfl (by kernel_rfl) rfl ⟨Chg.refl _ _, rfl⟩)
  · intro g w1 hR hf hd
    have h1 : (fun (u : Value) (_ : World) => u = Value.pointer (some ⟨b, 38, none⟩)) (g 6) w1 := hd.1 rfl
    have hblk1 := Ext.blk hR (show wb.drew.heap[b]? = _ from hblk)
    exact StepT.plain rfl (O.loadBlk (b := b) (off := 38) (cs := digC v.key) rfl h1 hblk1 Tryz.underlying29 rfl sz29 rfl ⟨Chg.refl _ _, rfl⟩)
  · intro g w1 hR hf hd
    have h1 : (fun (u : Value) (_ : World) => u = Value.agg (List.toArray (digC v.key))) (g 7) w1 := hd.1 rfl
    have hA1 := Ext.agr hR (show Agr H wb.drew from hAb)
    refine StepT.plain rfl (O.call (fid := 47) (cap := #[]) (args := [Value.agg (List.toArray (digC v.key))]) rfl rfl (by show [g 7] = _; rw [h1]) Tryz.func47 rfl rfl ?_)
    refine Calls.mono (digest_calls v.key) ?_
    rintro e w2 ⟨v2, rfl, rb2, hE2⟩
    refine ⟨v2, rfl, hE2, ?_⟩
    show RB (hfOf w2) v2 (digB x.key)
    rw [← r.key]; exact rb2
  · intro g w1 hR hf hd
    have h1 : g 1 = .pointer (some ⟨b, 0, none⟩) := hf 1 (by decide)
    exact StepT.plain rfl (O.fieldAddr (a := ⟨b, 0, none⟩) (v := Value.pointer (some ⟨b, 70, none⟩)) rfl h1 Tryz.underlying47 rfl (by kernel_rfl) rfl ⟨Chg.refl _ _, rfl⟩)
  · intro g w1 hR hf hd
    have h1 : (fun (u : Value) (_ : World) => u = Value.pointer (some ⟨b, 70, none⟩)) (g 9) w1 := hd.1 rfl
    have hblk1 := Ext.blk hR (show wb.drew.heap[b]? = _ from hblk)
    exact StepT.plain rfl (O.loadBlk1 (b := b) (off := 70) (v := v.value) rfl h1 hblk1 Tryz.underlying22 rfl rfl ⟨Chg.refl _ _, rfl⟩)
  · intro g w1 hR hf hd
    have h1 : g 1 = .pointer (some ⟨b, 0, none⟩) := hf 1 (by decide)
    exact StepT.plain rfl (O.fieldAddr (a := ⟨b, 0, none⟩) (v := Value.pointer (some ⟨b, 71, none⟩)) rfl h1 Tryz.underlying47 rfl (by kernel_rfl) rfl ⟨Chg.refl _ _, rfl⟩)
  · intro g w1 hR hf hd
    have h1 : (fun (u : Value) (_ : World) => u = Value.pointer (some ⟨b, 71, none⟩)) (g 11) w1 := hd.1 rfl
    have hblk1 := Ext.blk hR (show wb.drew.heap[b]? = _ from hblk)
    exact StepT.plain rfl (O.loadBlk1 (b := b) (off := 71) (v := Value.bool v.absent) rfl h1 hblk1 Tryz.underlying4 rfl rfl ⟨Chg.refl _ _, rfl⟩)
  · intro g w1 hR hf hd
    have h1 : (fun (u : Value) (_ : World) => u = Value.bool v.absent) (g 12) w1 := hd.1 rfl
    have hA1 := Ext.agr hR (show Agr H wb.drew from hAb)
    refine StepT.plain rfl (O.call (fid := 58) (cap := #[]) (args := [Value.bool v.absent]) rfl rfl (by show [g 12] = _; rw [h1]) Tryz.func58 rfl rfl ?_)
    refine Calls.mono (truth_calls hA1 v.absent) ?_
    rintro e w2 ⟨v2, rfl, own2, hE2⟩
    refine ⟨v2, rfl, hE2, ?_⟩
    show RB (hfOf w2) v2 (eBool x.absent)
    rw [← r.absent]; exact own2.rb
  · intro g w1 hR hf hd
    have h1 : g 1 = .pointer (some ⟨b, 0, none⟩) := hf 1 (by decide)
    exact StepT.plain rfl (O.fieldAddr (a := ⟨b, 0, none⟩) (v := Value.pointer (some ⟨b, 72, none⟩)) rfl h1 Tryz.underlying47 rfl (by kernel_rfl) rfl ⟨Chg.refl _ _, rfl⟩)
  · intro g w1 hR hf hd
    have h1 : (fun (u : Value) (_ : World) => u = Value.pointer (some ⟨b, 72, none⟩)) (g 14) w1 := hd.1 rfl
    have hblk1 := Ext.blk hR (show wb.drew.heap[b]? = _ from hblk)
    exact StepT.plain rfl (O.loadBlk1 (b := b) (off := 72) (v := v.proof) rfl h1 hblk1 Tryz.underlying22 rfl rfl ⟨Chg.refl _ _, rfl⟩)
  · intro g w1 hR hf hd
    have hA1 := Ext.agr hR (show Agr H wb.drew from hAb)
    have p5 : (fun (u : Value) (w : World) => RB (hfOf w) u (eCommit x.commit)) (g 5) w1 := hd.1 rfl
    have p8 : (fun (u : Value) (w : World) => RB (hfOf w) u (digB x.key)) (g 8) w1 := hd.2.1 rfl
    have p10e : (fun (u : Value) (_ : World) => u = v.value) (g 10) w1 := hd.2.2.1 rfl
    have p10 : RB (hfOf w1) (g 10) x.value := by rw [show g 10 = v.value from p10e]; exact RB.mono r.value hA1.le
    have p13 : (fun (u : Value) (w : World) => RB (hfOf w) u (eBool x.absent)) (g 13) w1 := hd.2.2.2.1 rfl
    have p15e : (fun (u : Value) (_ : World) => u = v.proof) (g 15) w1 := hd.2.2.2.2.1 rfl
    have p15 : RB (hfOf w1) (g 15) x.proof := by rw [show g 15 = v.proof from p15e]; exact RB.mono r.proof hA1.le
    refine StepT.plain rfl (O.buildSlice (vs := [g 5, g 8, g 10, g 13, g 15]) rfl rfl rfl Tryz.underlying133 inf22 (fun u hu => cells_size_one ((All2.one (H := hfOf w1) (vs := [g 5, g 8, g 10, g 13, g 15]) (ps := [eCommit x.commit, digB x.key, x.value, eBool x.absent, x.proof]) (.cons p5 (.cons p8 (.cons p10 (.cons p13 (.cons p15 (.nil))))))) u hu)) (by decide) ?_)
    intro b2 w2 hb2 hb21 hE2 hblk2
    exact ⟨hE2, rbb_of_blk (ps := [eCommit x.commit, digB x.key, x.value, eBool x.absent, x.proof]) hblk2 (.cons (RB.mono p5 (Ext.hle hE2)) (.cons (RB.mono p8 (Ext.hle hE2)) (.cons (RB.mono p10 (Ext.hle hE2)) (.cons (RB.mono p13 (Ext.hle hE2)) (.cons (RB.mono p15 (Ext.hle hE2)) (.nil)))))) rfl (by decide)⟩
  · intro g w1 hR hf hd
    have h1 : (fun (u : Value) (w : World) => RBB (hfOf w) u [eCommit x.commit, digB x.key, x.value, eBool x.absent, x.proof]) (g 16) w1 := hd.1 rfl
    have hA1 := Ext.agr hR (show Agr H wb.drew from hAb)
    refine StepT.plain rfl (O.call (fid := 44) (cap := #[]) (args := [g 16]) rfl rfl rfl Tryz.func44 rfl rfl ?_)
    refine Calls.mono (Join_calls (Agr.hf w1) h1 hlen) ?_
    rintro e w2 ⟨v2, rfl, own2, hE2⟩
    exact ⟨v2, rfl, hE2, (own2.heap fun k hk => hA1.none (own2.base hk).1).lower hR.size⟩
  · intro g w1 hR hf hd
    have h1 : (fun (u : Value) (w : World) => OwnB H w wb.heap.size u (join [eCommit x.commit, digB x.key, x.value, eBool x.absent, x.proof])) (g 17) w1 := hd.1 rfl
    exact StepT.plain rfl (O.assign (v := g 17) rfl rfl ⟨Chg.refl _ _, h1⟩)
  intro g w1 hR hf hall
  have own := hall.2.2.2.2.2.2.2.2.2.2.2.2.2.2.2.1
  refine hK2 _ _ ?_
  try clear hK2 K2
  refine W.ret ?_
  exact retQ_one rfl rfl ⟨_, rfl, own.lower hEb.size, hEb.trans (Chg.trans (Ext.drew wb) hR)⟩

theorem list_Fact_calls {H : Heap} {w : World} {v : Value} {xs : List DFact} (hA : Agr H w) (r : RL 73 cFact H v xs) (hlen : (join (xs.map eFact)).length ≤ 35184372088832) : Calls Tryz.prog 105 #[v, .func (.func 10) #[] #[]] w (RetNew H w (join (xs.map eFact))) := by
  obtain ⟨ao, cap, rfl⟩ := r.form
  have hjl := join_length (xs.map eFact)
  have hge := joinTail_ge (xs.map eFact)
  rw [List.length_map] at hge
  refine calls_of_W (n := 23) Tryz.func105 rfl Tryz.ntmps105 (Nat.le_of_ble_eq_true rfl) ?_
  refine W.seq fun K1 hK1 => ?_
  refine W.region ?_
  refine SeqOps.put 4 rfl rfl rfl (O.assign (v := (.slice none 0 0)) rfl rfl ?_)
  refine SeqOps.nil ?_
  refine hK1 _ _ ?_
  try clear hK1 K1
  refine W.seq fun K2 hK2 => ?_
  refine W.region ?_
  refine SeqOps.put 5 rfl rfl rfl (O.assign (v := (.slice none 0 0)) rfl rfl ?_)
  refine SeqOps.nil ?_
  refine hK2 _ _ ?_
  try clear hK2 K2
  refine W.seq fun K3 hK3 => ?_
  refine W.seq fun K4 hK4 => ?_
  refine W.region ?_
  refine SeqOps.put 8 rfl rfl rfl (O.move (v := (.slice ao xs.length cap)) rfl rfl ?_)
  refine SeqOps.put 9 rfl rfl rfl (O.lenSlice (ad := ao) (n := xs.length) (c := cap) rfl rfl Tryz.underlying80 ?_)
  refine SeqOps.put 10 rfl rfl rfl (O.move (v := (.int .i64 (0))) rfl rfl ?_)
  refine SeqOps.nil ?_
  refine hK4 _ _ ?_
  try clear hK4 K4
  refine W.block ?_
  refine W.loop [1, 5, 8, 9, 10] (fun vals wk => ∃ H' all vs, ∃ k : Nat, vals = [.func (.func 10) #[] #[], all, .slice ao xs.length cap, .int .i64 (xs.length : Int), .int .i64 (k : Int)] ∧ k ≤ xs.length ∧ St H w NoX H' wk ∧ Own H' wk w.heap.size 22 1 all k vs ∧ All2 (RB H') vs ((xs.take k).map eFact)) (fun vals _ => xs.length - (intOf (vals.getD 4 undef)).toNat) ⟨H, _, [], 0, rfl, Nat.zero_le _, St.start _ hA, Own.nil _ _ _ _ _, .nil⟩ ?_
  rintro g _ wk ⟨H', all, vs, k, rfl, hk, st, own, h2⟩
  rcases Nat.lt_or_ge k xs.length with hlt | hge2
  · have hpl := elem_le_joinTail (xs.map eFact) (eFact xs[k]) (List.mem_map.2 ⟨_, by simp, rfl⟩)
    have hr' := RL.mono (R := cFact) cFact.mono r st.le
    obtain ⟨ad, cs, rfl, hcl, hre, hone, hcell⟩ := RL.elem hr' hlt
    replace hcell := hcell (by decide)
    obtain ⟨q, rfl, hre⟩ := hre
    refine W.seq fun K5 hK5 => ?_
    refine W.region ?_
    refine SeqOps.put 11 rfl rfl rfl (O.cmp (a := (k : Int)) (b := (xs.length : Int)) (r := true) rfl rfl rfl (by simp [cmpI]; omega) ?_)
    refine SeqOps.nil ?_
    refine hK5 _ _ ?_
    try clear hK5 K5
    refine W.seq fun K6 hK6 => ?_
    refine W.cond_true rfl ?_
    refine W.skip ?_
    refine hK6 _ _ ?_
    try clear hK6 K6
    refine W.seq fun K7 hK7 => ?_
    refine W.block ?_
    refine W.seq fun K8 hK8 => ?_
    refine W.region ?_
    refine SeqOps.put 12 rfl rfl rfl (O.indexAddr (a := ad) (len := xs.length) (cap := cap) (i := (k : Int)) (sz := 73) (v := .pointer (some (ad.add (k * 73)))) rfl rfl rfl Tryz.underlying80 sz47 (by omega) (by omega) (by simp) ?_)
    refine SeqOps.put 13 rfl rfl rfl (O.loadAgg (a := ad.add (k * 73)) (cs := q.cells) rfl rfl Tryz.underlying47 rfl sz47 (fun j u hu => st.agr.cell (hcell j u hu)) ?_)
    refine SeqOps.put 7 rfl rfl rfl (O.alloc rfl zr47 ?_)
    intro bx wa hbx hbx1 hEa hblk0
    refine SeqOps.eff rfl rfl (O.store (b := bx) (off := 0) (v := .agg (List.toArray q.cells)) (n := 73) (c' := q.cells.toArray) rfl rfl rfl hblk0 sz47 rfl (by decide) (VFact.one hre.ok) rfl ?_)
    intro wb hCb hblk
    have hEb : Ext wk wb := hEa.trans_new hCb fun i hi => .inl (by omega)
    refine SeqOps.nil ?_
    refine hK8 _ _ ?_
    try clear hK8 K8
    refine W.region ?_
    refine SeqOps.put 14 rfl rfl rfl (O.move (v := all) rfl rfl ?_)
    refine SeqOps.put 15 rfl rfl rfl (O.move (v := (.func (.func 10) #[] #[])) rfl rfl ?_)
    refine SeqOps.put 16 rfl rfl rfl (O.loadBlk (b := bx) (off := 0) (cs := q.cells) rfl rfl hblk Tryz.underlying47 rfl sz47 rfl ?_)
    have st1 := st.new hEb
    refine SeqOps.put 17 rfl rfl rfl (O.call (fid := 10) (cap := #[]) (args := [(.agg (List.toArray (q.cells)))]) rfl rfl rfl Tryz.func10 rfl rfl ?_)
    refine Calls.mono (Fact_calls st1.agr hre (by omega)) ?_
    rintro e w2 ⟨o2, rfl, own2, hE2⟩
    have st2 := st1.new hE2
    obtain ⟨H2, hle2, st3, hsame, rb2⟩ := own2.freeze st2 (st1.chg.size)
    have own3 : Own H2 w2 w.heap.size 22 1 all k vs := ((own.ext hEb).ext hE2).heap fun j hj => by rw [hsame j fun e => by have h1 := (own.base hj).2; have h2 := (own2.base e).1; have h3 := hEb.size; omega]; exact own.out j hj
    obtain ⟨aoe, cape, rfl⟩ := RS.form rb2
    refine ⟨_, rfl, ?_⟩
    refine SeqOps.put 18 rfl rfl rfl (O.buildSlice (vs := [(.slice aoe (eFact xs[k]).length cape)]) rfl rfl rfl Tryz.underlying133 inf22 (by intro v hv; simp at hv; subst hv; rfl) (by decide) ?_)
    intro b3 w3 hb3 hb31 hE3 hblk3
    have st4 := st3.new hE3
    refine SeqOps.put 19 rfl rfl rfl (O.append (H := H2) (B := w.heap.size) (v := all) (vx := .slice (some ⟨b3, 0, none⟩) 1 1) (m := 1) (xs := vs) (news := [(.slice aoe (eFact xs[k]).length cape)]) rfl rfl rfl Tryz.underlying133 inf22 rfl (own3.ext hE3) (Own.ofBlk (H := fun _ => none) (B := 0) (s := 1) (xs := [(.slice aoe (eFact xs[k]).length cape)]) hblk3 (Nat.zero_le _) rfl rfl (by decide) (by intro u hu; simp at hu; subst hu; rfl)).rsw rfl (by omega) (by omega) st4.chg.size st4.agr ?_)
    intro o4 w4 own4 hC4
    refine SeqOps.put 5 rfl rfl rfl (O.assign (v := o4) rfl rfl ?_)
    refine SeqOps.nil ?_
    refine hK7 _ _ ?_
    try clear hK7 K7
    refine W.region ?_
    refine SeqOps.put 20 rfl rfl rfl (O.arith (a := (k : Int)) (b := 1) (r := (k : Int) + 1) (c := (k : Int) + 1) rfl rfl rfl rfl (by exact wrap_i64 (by omega) (by omega)) ?_)
    refine SeqOps.put 10 rfl rfl rfl (O.move (v := (.int .i64 ((k : Int) + 1))) rfl rfl ?_)
    refine SeqOps.nil ?_
    refine ⟨⟨H2, o4, _, k + 1, rfl, by omega, st4.step hC4 fun i hi => ⟨.inl ((own3.ext hE3).base hi).1, own3.out i hi⟩, own4, ?_⟩, by show xs.length - ((k + 1 : Nat) : Int).toNat < xs.length - ((k : Nat) : Int).toNat; omega⟩
    rw [List.take_succ_eq_append_getElem hlt, List.map_append]
    exact (h2.imp fun _ _ h => h.mono hle2).snoc rb2
  have hkn : k = xs.length := by omega
  refine W.seq fun K9 hK9 => ?_
  refine W.region ?_
  refine SeqOps.put 11 rfl rfl rfl (O.cmp (a := (k : Int)) (b := (xs.length : Int)) (r := false) rfl rfl rfl (by simp [cmpI]; omega) ?_)
  refine SeqOps.nil ?_
  refine hK9 _ _ ?_
  try clear hK9 K9
  refine W.seq fun K10 hK10 => ?_
  refine W.cond_false rfl ?_
  refine W.exit ?_
  refine hK3 _ _ ?_
  try clear hK3 K3
  refine W.seq fun K11 hK11 => ?_
  refine W.region ?_
  refine SeqOps.put 21 rfl rfl rfl (O.move (v := all) rfl rfl ?_)
  subst hkn
  rw [List.take_length] at h2
  obtain ⟨H3, hle3, st3, _, rs3⟩ := own.freeze st (Nat.le_refl _)
  refine SeqOps.put 22 rfl rfl rfl (O.call (fid := 44) (cap := #[]) (args := [all]) rfl rfl rfl Tryz.func44 rfl rfl ?_)
  refine Calls.mono (Join_calls st3.agr ⟨vs, h2.imp fun _ _ h => h.mono hle3, by rw [List.length_map]; exact rs3⟩ hlen) ?_
  rintro e w5 ⟨o5, rfl, own5, hE5⟩
  refine ⟨_, rfl, ?_⟩
  refine SeqOps.put 4 rfl rfl rfl (O.assign (v := o5) rfl rfl ?_)
  refine SeqOps.nil ?_
  refine hK11 _ _ ?_
  try clear hK11 K11
  refine W.ret ?_
  refine retQ_one rfl rfl ⟨o5, rfl, (own5.heap fun j hj => hA.none (Nat.le_trans st.chg.size (own5.base hj).1)).lower st.chg.size, st.chg.trans hE5⟩

theorem Record_calls {H : Heap} {w : World} {v : VRecord} {x : DRecord} (hA : Agr H w) (r : RRecord H v x) (hlen : (eRecord x).length ≤ 35184372088832) : Calls Tryz.prog 11 #[.agg (List.toArray v.cells)] w (RetNew H w (eRecord x)) := by
  refine calls_of_W (n := 14) Tryz.func11 rfl Tryz.ntmps11 (Nat.le_of_ble_eq_true rfl) ?_
  have hjl : (eRecord x).length = _ := join_length _
  have hpl_members : (eInts x.members).length ≤ 35184372088832 := by
    have h1 := elem_le_joinTail [be8 x.epoch, eInts x.members, join (x.seats.map eInts)] (eInts x.members) (show _ ∈ _ by rw [List.mem_iff_getElem?]; exact ⟨1, rfl⟩)
    rw [hjl] at hlen
    exact Nat.le_trans h1 (by omega)
  have hpl_seats : (join (x.seats.map eInts)).length ≤ 35184372088832 := by
    have h1 := elem_le_joinTail [be8 x.epoch, eInts x.members, join (x.seats.map eInts)] (join (x.seats.map eInts)) (show _ ∈ _ by rw [List.mem_iff_getElem?]; exact ⟨2, rfl⟩)
    rw [hjl] at hlen
    exact Nat.le_trans h1 (by omega)
  refine W.seq fun K1 hK1 => ?_
  refine W.region ?_
  refine SeqOps.put 1 rfl rfl rfl (O.box (v := (.agg (List.toArray (v.cells)))) rfl rfl ?_)
  intro b wb hb hb1 hEb hblk
  have hAb := Ext.agr hEb hA
  refine SeqOps.put 2 rfl rfl rfl (O.assign (v := (.slice none 0 0)) rfl rfl ?_)
  refine SeqOps.nil ?_
  refine hK1 _ _ ?_
  try clear hK1 K1
  refine W.seq fun K2 hK2 => ?_
  refine W.region_any (by kernel_rfl) (by kernel_rfl) [3, 4, 5, 6, 7, 8, 9, 10, 11, 12, 13, 2] rfl (fun a b => Ext a b) (fun _ => Chg.refl _ _) (fun h k => Chg.trans h k) [
      (fun (u : Value) (_ : World) => u = Value.pointer (some ⟨b, 0, none⟩)),
      (fun (u : Value) (_ : World) => u = Value.int .i64 v.epoch),
      (fun (u : Value) (w : World) => RB (hfOf w) u (be8 x.epoch)),
      (fun (u : Value) (_ : World) => u = Value.pointer (some ⟨b, 1, none⟩)),
      (fun (u : Value) (_ : World) => u = v.members),
      (fun (u : Value) (w : World) => RB (hfOf w) u (eInts x.members)),
      (fun (u : Value) (_ : World) => u = Value.pointer (some ⟨b, 2, none⟩)),
      (fun (u : Value) (_ : World) => u = v.seats),
      (fun (u : Value) (w : World) => RB (hfOf w) u (join (x.seats.map eInts))),
      (fun (u : Value) (w : World) => RBB (hfOf w) u [be8 x.epoch, eInts x.members, join (x.seats.map eInts)]),
      (fun (u : Value) (w : World) => OwnB H w wb.heap.size u (join [be8 x.epoch, eInts x.members, join (x.seats.map eInts)])),
      (fun (u : Value) (w : World) => OwnB H w wb.heap.size u (join [be8 x.epoch, eInts x.members, join (x.seats.map eInts)]))
    ] ⟨fun _ _ _ _ h => h, fun _ _ _ _ h => h, fun _ _ _ hE h => RB.mono h (Ext.hle hE), fun _ _ _ _ h => h, fun _ _ _ _ h => h, fun _ _ _ hE h => RB.mono h (Ext.hle hE), fun _ _ _ _ h => h, fun _ _ _ _ h => h, fun _ _ _ hE h => RB.mono h (Ext.hle hE), fun _ _ _ hE h => RBB.mono h (Ext.hle hE), fun _ _ _ hE h => Own.ext h hE, fun _ _ _ hE h => Own.ext h hE, trivial⟩ ⟨?_, ?_, ?_, ?_, ?_, ?_, ?_, ?_, ?_, ?_, ?_, ?_, trivial⟩ ?_
  · intro g w1 hR hf hd
    have h1 : g 1 = .pointer (some ⟨b, 0, none⟩) := hf 1 (by decide)
    exact StepT.plain rfl (O.fieldAddr (a := ⟨b, 0, none⟩) (v := Value.pointer (some ⟨b, 0, none⟩)) rfl h1 Tryz.underlying55 rfl (by kernel_rfl) rfl ⟨Chg.refl _ _, rfl⟩)
  · intro g w1 hR hf hd
    have h1 : (fun (u : Value) (_ : World) => u = Value.pointer (some ⟨b, 0, none⟩)) (g 3) w1 := hd.1 rfl
    have hblk1 := Ext.blk hR (show wb.drew.heap[b]? = _ from hblk)
    exact StepT.plain rfl (O.loadBlk1 (b := b) (off := 0) (v := Value.int .i64 v.epoch) rfl h1 hblk1 Tryz.underlying3 rfl rfl ⟨Chg.refl _ _, rfl⟩)
  · intro g w1 hR hf hd
    have h1 : (fun (u : Value) (_ : World) => u = Value.int .i64 v.epoch) (g 4) w1 := hd.1 rfl
    have hA1 := Ext.agr hR (show Agr H wb.drew from hAb)
    refine StepT.plain rfl (O.call (fid := 45) (cap := #[]) (args := [Value.int .i64 v.epoch]) rfl rfl (by show [g 4] = _; rw [h1]) Tryz.func45 rfl rfl ?_)
    refine Calls.mono (num_int_calls (n := v.epoch) hA1 (by rw [r.epoch.1]; exact r.epoch.2.1) (by rw [r.epoch.1]; exact r.epoch.2.2)) ?_
    rintro e w2 ⟨v2, rfl, own2, hE2⟩
    refine ⟨v2, rfl, hE2, ?_⟩
    show RB (hfOf w2) v2 (be8 x.epoch)
    rw [← r.epoch.1]; exact own2.rb
  · intro g w1 hR hf hd
    have h1 : g 1 = .pointer (some ⟨b, 0, none⟩) := hf 1 (by decide)
    exact StepT.plain rfl (O.fieldAddr (a := ⟨b, 0, none⟩) (v := Value.pointer (some ⟨b, 1, none⟩)) rfl h1 Tryz.underlying55 rfl (by kernel_rfl) rfl ⟨Chg.refl _ _, rfl⟩)
  · intro g w1 hR hf hd
    have h1 : (fun (u : Value) (_ : World) => u = Value.pointer (some ⟨b, 1, none⟩)) (g 6) w1 := hd.1 rfl
    have hblk1 := Ext.blk hR (show wb.drew.heap[b]? = _ from hblk)
    exact StepT.plain rfl (O.loadBlk1 (b := b) (off := 1) (v := v.members) rfl h1 hblk1 Tryz.underlying40 rfl rfl ⟨Chg.refl _ _, rfl⟩)
  · intro g w1 hR hf hd
    have h1 : (fun (u : Value) (_ : World) => u = v.members) (g 7) w1 := hd.1 rfl
    have hA1 := Ext.agr hR (show Agr H wb.drew from hAb)
    refine StepT.plain rfl (O.call (fid := 59) (cap := #[]) (args := [v.members]) rfl rfl (by show [g 7] = _; rw [h1]) Tryz.func59 rfl rfl ?_)
    refine Calls.mono (nums_calls hA1 r.members hpl_members) ?_
    rintro e w2 ⟨v2, rfl, own2, hE2⟩
    refine ⟨v2, rfl, hE2, ?_⟩
    show RB (hfOf w2) v2 (eInts x.members)
    exact own2.rb
  · intro g w1 hR hf hd
    have h1 : g 1 = .pointer (some ⟨b, 0, none⟩) := hf 1 (by decide)
    exact StepT.plain rfl (O.fieldAddr (a := ⟨b, 0, none⟩) (v := Value.pointer (some ⟨b, 2, none⟩)) rfl h1 Tryz.underlying55 rfl (by kernel_rfl) rfl ⟨Chg.refl _ _, rfl⟩)
  · intro g w1 hR hf hd
    have h1 : (fun (u : Value) (_ : World) => u = Value.pointer (some ⟨b, 2, none⟩)) (g 9) w1 := hd.1 rfl
    have hblk1 := Ext.blk hR (show wb.drew.heap[b]? = _ from hblk)
    exact StepT.plain rfl (O.loadBlk1 (b := b) (off := 2) (v := v.seats) rfl h1 hblk1 Tryz.underlying53 rfl rfl ⟨Chg.refl _ _, rfl⟩)
  · intro g w1 hR hf hd
    have h1 : (fun (u : Value) (_ : World) => u = v.seats) (g 10) w1 := hd.1 rfl
    have hA1 := Ext.agr hR (show Agr H wb.drew from hAb)
    refine StepT.plain rfl (O.call (fid := 60) (cap := #[]) (args := [v.seats, (.func (.func 59) #[] #[])]) rfl rfl (by show [g 10, (.func (.func 59) #[] #[])] = _; rw [h1]) Tryz.func60 rfl rfl ?_)
    refine Calls.mono (list_sint_calls hA1 r.seats hpl_seats) ?_
    rintro e w2 ⟨v2, rfl, own2, hE2⟩
    refine ⟨v2, rfl, hE2, ?_⟩
    show RB (hfOf w2) v2 (join (x.seats.map eInts))
    exact own2.rb
  · intro g w1 hR hf hd
    have hA1 := Ext.agr hR (show Agr H wb.drew from hAb)
    have p5 : (fun (u : Value) (w : World) => RB (hfOf w) u (be8 x.epoch)) (g 5) w1 := hd.1 rfl
    have p8 : (fun (u : Value) (w : World) => RB (hfOf w) u (eInts x.members)) (g 8) w1 := hd.2.1 rfl
    have p11 : (fun (u : Value) (w : World) => RB (hfOf w) u (join (x.seats.map eInts))) (g 11) w1 := hd.2.2.1 rfl
    refine StepT.plain rfl (O.buildSlice (vs := [g 5, g 8, g 11]) rfl rfl rfl Tryz.underlying133 inf22 (fun u hu => cells_size_one ((All2.one (H := hfOf w1) (vs := [g 5, g 8, g 11]) (ps := [be8 x.epoch, eInts x.members, join (x.seats.map eInts)]) (.cons p5 (.cons p8 (.cons p11 (.nil))))) u hu)) (by decide) ?_)
    intro b2 w2 hb2 hb21 hE2 hblk2
    exact ⟨hE2, rbb_of_blk (ps := [be8 x.epoch, eInts x.members, join (x.seats.map eInts)]) hblk2 (.cons (RB.mono p5 (Ext.hle hE2)) (.cons (RB.mono p8 (Ext.hle hE2)) (.cons (RB.mono p11 (Ext.hle hE2)) (.nil)))) rfl (by decide)⟩
  · intro g w1 hR hf hd
    have h1 : (fun (u : Value) (w : World) => RBB (hfOf w) u [be8 x.epoch, eInts x.members, join (x.seats.map eInts)]) (g 12) w1 := hd.1 rfl
    have hA1 := Ext.agr hR (show Agr H wb.drew from hAb)
    refine StepT.plain rfl (O.call (fid := 44) (cap := #[]) (args := [g 12]) rfl rfl rfl Tryz.func44 rfl rfl ?_)
    refine Calls.mono (Join_calls (Agr.hf w1) h1 hlen) ?_
    rintro e w2 ⟨v2, rfl, own2, hE2⟩
    exact ⟨v2, rfl, hE2, (own2.heap fun k hk => hA1.none (own2.base hk).1).lower hR.size⟩
  · intro g w1 hR hf hd
    have h1 : (fun (u : Value) (w : World) => OwnB H w wb.heap.size u (join [be8 x.epoch, eInts x.members, join (x.seats.map eInts)])) (g 13) w1 := hd.1 rfl
    exact StepT.plain rfl (O.assign (v := g 13) rfl rfl ⟨Chg.refl _ _, h1⟩)
  intro g w1 hR hf hall
  have own := hall.2.2.2.2.2.2.2.2.2.2.2.1
  refine hK2 _ _ ?_
  try clear hK2 K2
  refine W.ret ?_
  exact retQ_one rfl rfl ⟨_, rfl, own.lower hEb.size, hEb.trans (Chg.trans (Ext.drew wb) hR)⟩

theorem Tx_calls {H : Heap} {w : World} {v : VTx} {x : DTx} (hA : Agr H w) (r : RTx H v x) (hlen : (eTx x).length ≤ 35184372088832) : Calls Tryz.prog 57 #[.agg (List.toArray v.cells)] w (RetNew H w (eTx x)) := by
  refine calls_of_W (n := 35) Tryz.func57 rfl Tryz.ntmps57 (Nat.le_of_ble_eq_true rfl) ?_
  have hjl : (eTx x).length = _ := join_length _
  have hpl_facts : (join (x.facts.map eFact)).length ≤ 35184372088832 := by
    have h1 := elem_le_joinTail [be8 x.kind, be8 x.frm, be8 x.to_, be8 x.amount, be8 x.nonce, be8 x.dst, be8 x.deadline, digB x.id_, be8 x.member, join (x.facts.map eFact)] (join (x.facts.map eFact)) (show _ ∈ _ by rw [List.mem_iff_getElem?]; exact ⟨9, rfl⟩)
    rw [hjl] at hlen
    exact Nat.le_trans h1 (by omega)
  refine W.seq fun K1 hK1 => ?_
  refine W.region ?_
  refine SeqOps.put 1 rfl rfl rfl (O.box (v := (.agg (List.toArray (v.cells)))) rfl rfl ?_)
  intro b wb hb hb1 hEb hblk
  have hAb := Ext.agr hEb hA
  refine SeqOps.put 2 rfl rfl rfl (O.assign (v := (.slice none 0 0)) rfl rfl ?_)
  refine SeqOps.nil ?_
  refine hK1 _ _ ?_
  try clear hK1 K1
  refine W.seq fun K2 hK2 => ?_
  refine W.region_any (by kernel_rfl) (by kernel_rfl) [3, 4, 5, 6, 7, 8, 9, 10, 11, 12, 13, 14, 15, 16, 17, 18, 19, 20, 21, 22, 23, 24, 25, 26, 27, 28, 29, 30, 31, 32, 33, 34, 2] rfl (fun a b => Ext a b) (fun _ => Chg.refl _ _) (fun h k => Chg.trans h k) [
      (fun (u : Value) (_ : World) => u = Value.pointer (some ⟨b, 0, none⟩)),
      (fun (u : Value) (_ : World) => u = Value.int .i64 v.kind),
      (fun (u : Value) (w : World) => RB (hfOf w) u (be8 x.kind)),
      (fun (u : Value) (_ : World) => u = Value.pointer (some ⟨b, 1, none⟩)),
      (fun (u : Value) (_ : World) => u = Value.int .u64 v.frm),
      (fun (u : Value) (w : World) => RB (hfOf w) u (be8 x.frm)),
      (fun (u : Value) (_ : World) => u = Value.pointer (some ⟨b, 2, none⟩)),
      (fun (u : Value) (_ : World) => u = Value.int .u64 v.to_),
      (fun (u : Value) (w : World) => RB (hfOf w) u (be8 x.to_)),
      (fun (u : Value) (_ : World) => u = Value.pointer (some ⟨b, 3, none⟩)),
      (fun (u : Value) (_ : World) => u = Value.int .u64 v.amount),
      (fun (u : Value) (w : World) => RB (hfOf w) u (be8 x.amount)),
      (fun (u : Value) (_ : World) => u = Value.pointer (some ⟨b, 4, none⟩)),
      (fun (u : Value) (_ : World) => u = Value.int .u64 v.nonce),
      (fun (u : Value) (w : World) => RB (hfOf w) u (be8 x.nonce)),
      (fun (u : Value) (_ : World) => u = Value.pointer (some ⟨b, 5, none⟩)),
      (fun (u : Value) (_ : World) => u = Value.int .i64 v.dst),
      (fun (u : Value) (w : World) => RB (hfOf w) u (be8 x.dst)),
      (fun (u : Value) (_ : World) => u = Value.pointer (some ⟨b, 6, none⟩)),
      (fun (u : Value) (_ : World) => u = Value.int .i64 v.deadline),
      (fun (u : Value) (w : World) => RB (hfOf w) u (be8 x.deadline)),
      (fun (u : Value) (_ : World) => u = Value.pointer (some ⟨b, 7, none⟩)),
      (fun (u : Value) (_ : World) => u = Value.agg (List.toArray (digC v.id_))),
      (fun (u : Value) (w : World) => RB (hfOf w) u (digB x.id_)),
      (fun (u : Value) (_ : World) => u = Value.pointer (some ⟨b, 39, none⟩)),
      (fun (u : Value) (_ : World) => u = Value.int .i64 v.member),
      (fun (u : Value) (w : World) => RB (hfOf w) u (be8 x.member)),
      (fun (u : Value) (_ : World) => u = Value.pointer (some ⟨b, 40, none⟩)),
      (fun (u : Value) (_ : World) => u = v.facts),
      (fun (u : Value) (w : World) => RB (hfOf w) u (join (x.facts.map eFact))),
      (fun (u : Value) (w : World) => RBB (hfOf w) u [be8 x.kind, be8 x.frm, be8 x.to_, be8 x.amount, be8 x.nonce, be8 x.dst, be8 x.deadline, digB x.id_, be8 x.member, join (x.facts.map eFact)]),
      (fun (u : Value) (w : World) => OwnB H w wb.heap.size u (join [be8 x.kind, be8 x.frm, be8 x.to_, be8 x.amount, be8 x.nonce, be8 x.dst, be8 x.deadline, digB x.id_, be8 x.member, join (x.facts.map eFact)])),
      (fun (u : Value) (w : World) => OwnB H w wb.heap.size u (join [be8 x.kind, be8 x.frm, be8 x.to_, be8 x.amount, be8 x.nonce, be8 x.dst, be8 x.deadline, digB x.id_, be8 x.member, join (x.facts.map eFact)]))
    ] ⟨fun _ _ _ _ h => h, fun _ _ _ _ h => h, fun _ _ _ hE h => RB.mono h (Ext.hle hE), fun _ _ _ _ h => h, fun _ _ _ _ h => h, fun _ _ _ hE h => RB.mono h (Ext.hle hE), fun _ _ _ _ h => h, fun _ _ _ _ h => h, fun _ _ _ hE h => RB.mono h (Ext.hle hE), fun _ _ _ _ h => h, fun _ _ _ _ h => h, fun _ _ _ hE h => RB.mono h (Ext.hle hE), fun _ _ _ _ h => h, fun _ _ _ _ h => h, fun _ _ _ hE h => RB.mono h (Ext.hle hE), fun _ _ _ _ h => h, fun _ _ _ _ h => h, fun _ _ _ hE h => RB.mono h (Ext.hle hE), fun _ _ _ _ h => h, fun _ _ _ _ h => h, fun _ _ _ hE h => RB.mono h (Ext.hle hE), fun _ _ _ _ h => h, fun _ _ _ _ h => h, fun _ _ _ hE h => RB.mono h (Ext.hle hE), fun _ _ _ _ h => h, fun _ _ _ _ h => h, fun _ _ _ hE h => RB.mono h (Ext.hle hE), fun _ _ _ _ h => h, fun _ _ _ _ h => h, fun _ _ _ hE h => RB.mono h (Ext.hle hE), fun _ _ _ hE h => RBB.mono h (Ext.hle hE), fun _ _ _ hE h => Own.ext h hE, fun _ _ _ hE h => Own.ext h hE, trivial⟩ ⟨?_, ?_, ?_, ?_, ?_, ?_, ?_, ?_, ?_, ?_, ?_, ?_, ?_, ?_, ?_, ?_, ?_, ?_, ?_, ?_, ?_, ?_, ?_, ?_, ?_, ?_, ?_, ?_, ?_, ?_, ?_, ?_, ?_, trivial⟩ ?_
  · intro g w1 hR hf hd
    have h1 : g 1 = .pointer (some ⟨b, 0, none⟩) := hf 1 (by decide)
    exact StepT.plain rfl (O.fieldAddr (a := ⟨b, 0, none⟩) (v := Value.pointer (some ⟨b, 0, none⟩)) rfl h1 Tryz.underlying82 rfl (by kernel_rfl) rfl ⟨Chg.refl _ _, rfl⟩)
  · intro g w1 hR hf hd
    have h1 : (fun (u : Value) (_ : World) => u = Value.pointer (some ⟨b, 0, none⟩)) (g 3) w1 := hd.1 rfl
    have hblk1 := Ext.blk hR (show wb.drew.heap[b]? = _ from hblk)
    exact StepT.plain rfl (O.loadBlk1 (b := b) (off := 0) (v := Value.int .i64 v.kind) rfl h1 hblk1 Tryz.underlying3 rfl rfl ⟨Chg.refl _ _, rfl⟩)
  · intro g w1 hR hf hd
    have h1 : (fun (u : Value) (_ : World) => u = Value.int .i64 v.kind) (g 4) w1 := hd.1 rfl
    have hA1 := Ext.agr hR (show Agr H wb.drew from hAb)
    refine StepT.plain rfl (O.call (fid := 45) (cap := #[]) (args := [Value.int .i64 v.kind]) rfl rfl (by show [g 4] = _; rw [h1]) Tryz.func45 rfl rfl ?_)
    refine Calls.mono (num_int_calls (n := v.kind) hA1 (by rw [r.kind.1]; exact r.kind.2.1) (by rw [r.kind.1]; exact r.kind.2.2)) ?_
    rintro e w2 ⟨v2, rfl, own2, hE2⟩
    refine ⟨v2, rfl, hE2, ?_⟩
    show RB (hfOf w2) v2 (be8 x.kind)
    rw [← r.kind.1]; exact own2.rb
  · intro g w1 hR hf hd
    have h1 : g 1 = .pointer (some ⟨b, 0, none⟩) := hf 1 (by decide)
    exact StepT.plain rfl (O.fieldAddr (a := ⟨b, 0, none⟩) (v := Value.pointer (some ⟨b, 1, none⟩)) rfl h1 Tryz.underlying82 rfl (by kernel_rfl) rfl ⟨Chg.refl _ _, rfl⟩)
  · intro g w1 hR hf hd
    have h1 : (fun (u : Value) (_ : World) => u = Value.pointer (some ⟨b, 1, none⟩)) (g 6) w1 := hd.1 rfl
    have hblk1 := Ext.blk hR (show wb.drew.heap[b]? = _ from hblk)
    exact StepT.plain rfl (O.loadBlk1 (b := b) (off := 1) (v := Value.int .u64 v.frm) rfl h1 hblk1 Tryz.underlying79 rfl rfl ⟨Chg.refl _ _, rfl⟩)
  · intro g w1 hR hf hd
    have h1 : (fun (u : Value) (_ : World) => u = Value.int .u64 v.frm) (g 7) w1 := hd.1 rfl
    have hA1 := Ext.agr hR (show Agr H wb.drew from hAb)
    refine StepT.plain rfl (O.call (fid := 104) (cap := #[]) (args := [Value.int .u64 v.frm]) rfl rfl (by show [g 7] = _; rw [h1]) Tryz.func104 rfl rfl ?_)
    refine Calls.mono (num_uint64_calls (n := v.frm) hA1 (by rw [r.frm.1]; exact r.frm.2.1) (by rw [r.frm.1]; exact r.frm.2.2)) ?_
    rintro e w2 ⟨v2, rfl, own2, hE2⟩
    refine ⟨v2, rfl, hE2, ?_⟩
    show RB (hfOf w2) v2 (be8 x.frm)
    rw [← r.frm.1]; exact own2.rb
  · intro g w1 hR hf hd
    have h1 : g 1 = .pointer (some ⟨b, 0, none⟩) := hf 1 (by decide)
    exact StepT.plain rfl (O.fieldAddr (a := ⟨b, 0, none⟩) (v := Value.pointer (some ⟨b, 2, none⟩)) rfl h1 Tryz.underlying82 rfl (by kernel_rfl) rfl ⟨Chg.refl _ _, rfl⟩)
  · intro g w1 hR hf hd
    have h1 : (fun (u : Value) (_ : World) => u = Value.pointer (some ⟨b, 2, none⟩)) (g 9) w1 := hd.1 rfl
    have hblk1 := Ext.blk hR (show wb.drew.heap[b]? = _ from hblk)
    exact StepT.plain rfl (O.loadBlk1 (b := b) (off := 2) (v := Value.int .u64 v.to_) rfl h1 hblk1 Tryz.underlying79 rfl rfl ⟨Chg.refl _ _, rfl⟩)
  · intro g w1 hR hf hd
    have h1 : (fun (u : Value) (_ : World) => u = Value.int .u64 v.to_) (g 10) w1 := hd.1 rfl
    have hA1 := Ext.agr hR (show Agr H wb.drew from hAb)
    refine StepT.plain rfl (O.call (fid := 104) (cap := #[]) (args := [Value.int .u64 v.to_]) rfl rfl (by show [g 10] = _; rw [h1]) Tryz.func104 rfl rfl ?_)
    refine Calls.mono (num_uint64_calls (n := v.to_) hA1 (by rw [r.to_.1]; exact r.to_.2.1) (by rw [r.to_.1]; exact r.to_.2.2)) ?_
    rintro e w2 ⟨v2, rfl, own2, hE2⟩
    refine ⟨v2, rfl, hE2, ?_⟩
    show RB (hfOf w2) v2 (be8 x.to_)
    rw [← r.to_.1]; exact own2.rb
  · intro g w1 hR hf hd
    have h1 : g 1 = .pointer (some ⟨b, 0, none⟩) := hf 1 (by decide)
    exact StepT.plain rfl (O.fieldAddr (a := ⟨b, 0, none⟩) (v := Value.pointer (some ⟨b, 3, none⟩)) rfl h1 Tryz.underlying82 rfl (by kernel_rfl) rfl ⟨Chg.refl _ _, rfl⟩)
  · intro g w1 hR hf hd
    have h1 : (fun (u : Value) (_ : World) => u = Value.pointer (some ⟨b, 3, none⟩)) (g 12) w1 := hd.1 rfl
    have hblk1 := Ext.blk hR (show wb.drew.heap[b]? = _ from hblk)
    exact StepT.plain rfl (O.loadBlk1 (b := b) (off := 3) (v := Value.int .u64 v.amount) rfl h1 hblk1 Tryz.underlying79 rfl rfl ⟨Chg.refl _ _, rfl⟩)
  · intro g w1 hR hf hd
    have h1 : (fun (u : Value) (_ : World) => u = Value.int .u64 v.amount) (g 13) w1 := hd.1 rfl
    have hA1 := Ext.agr hR (show Agr H wb.drew from hAb)
    refine StepT.plain rfl (O.call (fid := 104) (cap := #[]) (args := [Value.int .u64 v.amount]) rfl rfl (by show [g 13] = _; rw [h1]) Tryz.func104 rfl rfl ?_)
    refine Calls.mono (num_uint64_calls (n := v.amount) hA1 (by rw [r.amount.1]; exact r.amount.2.1) (by rw [r.amount.1]; exact r.amount.2.2)) ?_
    rintro e w2 ⟨v2, rfl, own2, hE2⟩
    refine ⟨v2, rfl, hE2, ?_⟩
    show RB (hfOf w2) v2 (be8 x.amount)
    rw [← r.amount.1]; exact own2.rb
  · intro g w1 hR hf hd
    have h1 : g 1 = .pointer (some ⟨b, 0, none⟩) := hf 1 (by decide)
    exact StepT.plain rfl (O.fieldAddr (a := ⟨b, 0, none⟩) (v := Value.pointer (some ⟨b, 4, none⟩)) rfl h1 Tryz.underlying82 rfl (by kernel_rfl) rfl ⟨Chg.refl _ _, rfl⟩)
  · intro g w1 hR hf hd
    have h1 : (fun (u : Value) (_ : World) => u = Value.pointer (some ⟨b, 4, none⟩)) (g 15) w1 := hd.1 rfl
    have hblk1 := Ext.blk hR (show wb.drew.heap[b]? = _ from hblk)
    exact StepT.plain rfl (O.loadBlk1 (b := b) (off := 4) (v := Value.int .u64 v.nonce) rfl h1 hblk1 Tryz.underlying79 rfl rfl ⟨Chg.refl _ _, rfl⟩)
  · intro g w1 hR hf hd
    have h1 : (fun (u : Value) (_ : World) => u = Value.int .u64 v.nonce) (g 16) w1 := hd.1 rfl
    have hA1 := Ext.agr hR (show Agr H wb.drew from hAb)
    refine StepT.plain rfl (O.call (fid := 104) (cap := #[]) (args := [Value.int .u64 v.nonce]) rfl rfl (by show [g 16] = _; rw [h1]) Tryz.func104 rfl rfl ?_)
    refine Calls.mono (num_uint64_calls (n := v.nonce) hA1 (by rw [r.nonce.1]; exact r.nonce.2.1) (by rw [r.nonce.1]; exact r.nonce.2.2)) ?_
    rintro e w2 ⟨v2, rfl, own2, hE2⟩
    refine ⟨v2, rfl, hE2, ?_⟩
    show RB (hfOf w2) v2 (be8 x.nonce)
    rw [← r.nonce.1]; exact own2.rb
  · intro g w1 hR hf hd
    have h1 : g 1 = .pointer (some ⟨b, 0, none⟩) := hf 1 (by decide)
    exact StepT.plain rfl (O.fieldAddr (a := ⟨b, 0, none⟩) (v := Value.pointer (some ⟨b, 5, none⟩)) rfl h1 Tryz.underlying82 rfl (by kernel_rfl) rfl ⟨Chg.refl _ _, rfl⟩)
  · intro g w1 hR hf hd
    have h1 : (fun (u : Value) (_ : World) => u = Value.pointer (some ⟨b, 5, none⟩)) (g 18) w1 := hd.1 rfl
    have hblk1 := Ext.blk hR (show wb.drew.heap[b]? = _ from hblk)
    exact StepT.plain rfl (O.loadBlk1 (b := b) (off := 5) (v := Value.int .i64 v.dst) rfl h1 hblk1 Tryz.underlying3 rfl rfl ⟨Chg.refl _ _, rfl⟩)
  · intro g w1 hR hf hd
    have h1 : (fun (u : Value) (_ : World) => u = Value.int .i64 v.dst) (g 19) w1 := hd.1 rfl
    have hA1 := Ext.agr hR (show Agr H wb.drew from hAb)
    refine StepT.plain rfl (O.call (fid := 45) (cap := #[]) (args := [Value.int .i64 v.dst]) rfl rfl (by show [g 19] = _; rw [h1]) Tryz.func45 rfl rfl ?_)
    refine Calls.mono (num_int_calls (n := v.dst) hA1 (by rw [r.dst.1]; exact r.dst.2.1) (by rw [r.dst.1]; exact r.dst.2.2)) ?_
    rintro e w2 ⟨v2, rfl, own2, hE2⟩
    refine ⟨v2, rfl, hE2, ?_⟩
    show RB (hfOf w2) v2 (be8 x.dst)
    rw [← r.dst.1]; exact own2.rb
  · intro g w1 hR hf hd
    have h1 : g 1 = .pointer (some ⟨b, 0, none⟩) := hf 1 (by decide)
    exact StepT.plain rfl (O.fieldAddr (a := ⟨b, 0, none⟩) (v := Value.pointer (some ⟨b, 6, none⟩)) rfl h1 Tryz.underlying82 rfl (by kernel_rfl) rfl ⟨Chg.refl _ _, rfl⟩)
  · intro g w1 hR hf hd
    have h1 : (fun (u : Value) (_ : World) => u = Value.pointer (some ⟨b, 6, none⟩)) (g 21) w1 := hd.1 rfl
    have hblk1 := Ext.blk hR (show wb.drew.heap[b]? = _ from hblk)
    exact StepT.plain rfl (O.loadBlk1 (b := b) (off := 6) (v := Value.int .i64 v.deadline) rfl h1 hblk1 Tryz.underlying2 rfl rfl ⟨Chg.refl _ _, rfl⟩)
  · intro g w1 hR hf hd
    have h1 : (fun (u : Value) (_ : World) => u = Value.int .i64 v.deadline) (g 22) w1 := hd.1 rfl
    have hA1 := Ext.agr hR (show Agr H wb.drew from hAb)
    refine StepT.plain rfl (O.call (fid := 46) (cap := #[]) (args := [Value.int .i64 v.deadline]) rfl rfl (by show [g 22] = _; rw [h1]) Tryz.func46 rfl rfl ?_)
    refine Calls.mono (num_int64_calls (n := v.deadline) hA1 (by rw [r.deadline.1]; exact r.deadline.2.1) (by rw [r.deadline.1]; exact r.deadline.2.2)) ?_
    rintro e w2 ⟨v2, rfl, own2, hE2⟩
    refine ⟨v2, rfl, hE2, ?_⟩
    show RB (hfOf w2) v2 (be8 x.deadline)
    rw [← r.deadline.1]; exact own2.rb
  · intro g w1 hR hf hd
    have h1 : g 1 = .pointer (some ⟨b, 0, none⟩) := hf 1 (by decide)
    exact StepT.plain rfl (O.fieldAddr (a := ⟨b, 0, none⟩) (v := Value.pointer (some ⟨b, 7, none⟩)) rfl h1 Tryz.underlying82 rfl (by kernel_rfl) rfl ⟨Chg.refl _ _, rfl⟩)
  · intro g w1 hR hf hd
    have h1 : (fun (u : Value) (_ : World) => u = Value.pointer (some ⟨b, 7, none⟩)) (g 24) w1 := hd.1 rfl
    have hblk1 := Ext.blk hR (show wb.drew.heap[b]? = _ from hblk)
    exact StepT.plain rfl (O.loadBlk (b := b) (off := 7) (cs := digC v.id_) rfl h1 hblk1 Tryz.underlying29 rfl sz29 rfl ⟨Chg.refl _ _, rfl⟩)
  · intro g w1 hR hf hd
    have h1 : (fun (u : Value) (_ : World) => u = Value.agg (List.toArray (digC v.id_))) (g 25) w1 := hd.1 rfl
    have hA1 := Ext.agr hR (show Agr H wb.drew from hAb)
    refine StepT.plain rfl (O.call (fid := 47) (cap := #[]) (args := [Value.agg (List.toArray (digC v.id_))]) rfl rfl (by show [g 25] = _; rw [h1]) Tryz.func47 rfl rfl ?_)
    refine Calls.mono (digest_calls v.id_) ?_
    rintro e w2 ⟨v2, rfl, rb2, hE2⟩
    refine ⟨v2, rfl, hE2, ?_⟩
    show RB (hfOf w2) v2 (digB x.id_)
    rw [← r.id_]; exact rb2
  · intro g w1 hR hf hd
    have h1 : g 1 = .pointer (some ⟨b, 0, none⟩) := hf 1 (by decide)
    exact StepT.plain rfl (O.fieldAddr (a := ⟨b, 0, none⟩) (v := Value.pointer (some ⟨b, 39, none⟩)) rfl h1 Tryz.underlying82 rfl (by kernel_rfl) rfl ⟨Chg.refl _ _, rfl⟩)
  · intro g w1 hR hf hd
    have h1 : (fun (u : Value) (_ : World) => u = Value.pointer (some ⟨b, 39, none⟩)) (g 27) w1 := hd.1 rfl
    have hblk1 := Ext.blk hR (show wb.drew.heap[b]? = _ from hblk)
    exact StepT.plain rfl (O.loadBlk1 (b := b) (off := 39) (v := Value.int .i64 v.member) rfl h1 hblk1 Tryz.underlying3 rfl rfl ⟨Chg.refl _ _, rfl⟩)
  · intro g w1 hR hf hd
    have h1 : (fun (u : Value) (_ : World) => u = Value.int .i64 v.member) (g 28) w1 := hd.1 rfl
    have hA1 := Ext.agr hR (show Agr H wb.drew from hAb)
    refine StepT.plain rfl (O.call (fid := 45) (cap := #[]) (args := [Value.int .i64 v.member]) rfl rfl (by show [g 28] = _; rw [h1]) Tryz.func45 rfl rfl ?_)
    refine Calls.mono (num_int_calls (n := v.member) hA1 (by rw [r.member.1]; exact r.member.2.1) (by rw [r.member.1]; exact r.member.2.2)) ?_
    rintro e w2 ⟨v2, rfl, own2, hE2⟩
    refine ⟨v2, rfl, hE2, ?_⟩
    show RB (hfOf w2) v2 (be8 x.member)
    rw [← r.member.1]; exact own2.rb
  · intro g w1 hR hf hd
    have h1 : g 1 = .pointer (some ⟨b, 0, none⟩) := hf 1 (by decide)
    exact StepT.plain rfl (O.fieldAddr (a := ⟨b, 0, none⟩) (v := Value.pointer (some ⟨b, 40, none⟩)) rfl h1 Tryz.underlying82 rfl (by kernel_rfl) rfl ⟨Chg.refl _ _, rfl⟩)
  · intro g w1 hR hf hd
    have h1 : (fun (u : Value) (_ : World) => u = Value.pointer (some ⟨b, 40, none⟩)) (g 30) w1 := hd.1 rfl
    have hblk1 := Ext.blk hR (show wb.drew.heap[b]? = _ from hblk)
    exact StepT.plain rfl (O.loadBlk1 (b := b) (off := 40) (v := v.facts) rfl h1 hblk1 Tryz.underlying80 rfl rfl ⟨Chg.refl _ _, rfl⟩)
  · intro g w1 hR hf hd
    have h1 : (fun (u : Value) (_ : World) => u = v.facts) (g 31) w1 := hd.1 rfl
    have hA1 := Ext.agr hR (show Agr H wb.drew from hAb)
    refine StepT.plain rfl (O.call (fid := 105) (cap := #[]) (args := [v.facts, (.func (.func 10) #[] #[])]) rfl rfl (by show [g 31, (.func (.func 10) #[] #[])] = _; rw [h1]) Tryz.func105 rfl rfl ?_)
    refine Calls.mono (list_Fact_calls hA1 r.facts hpl_facts) ?_
    rintro e w2 ⟨v2, rfl, own2, hE2⟩
    refine ⟨v2, rfl, hE2, ?_⟩
    show RB (hfOf w2) v2 (join (x.facts.map eFact))
    exact own2.rb
  · intro g w1 hR hf hd
    have hA1 := Ext.agr hR (show Agr H wb.drew from hAb)
    have p5 : (fun (u : Value) (w : World) => RB (hfOf w) u (be8 x.kind)) (g 5) w1 := hd.1 rfl
    have p8 : (fun (u : Value) (w : World) => RB (hfOf w) u (be8 x.frm)) (g 8) w1 := hd.2.1 rfl
    have p11 : (fun (u : Value) (w : World) => RB (hfOf w) u (be8 x.to_)) (g 11) w1 := hd.2.2.1 rfl
    have p14 : (fun (u : Value) (w : World) => RB (hfOf w) u (be8 x.amount)) (g 14) w1 := hd.2.2.2.1 rfl
    have p17 : (fun (u : Value) (w : World) => RB (hfOf w) u (be8 x.nonce)) (g 17) w1 := hd.2.2.2.2.1 rfl
    have p20 : (fun (u : Value) (w : World) => RB (hfOf w) u (be8 x.dst)) (g 20) w1 := hd.2.2.2.2.2.1 rfl
    have p23 : (fun (u : Value) (w : World) => RB (hfOf w) u (be8 x.deadline)) (g 23) w1 := hd.2.2.2.2.2.2.1 rfl
    have p26 : (fun (u : Value) (w : World) => RB (hfOf w) u (digB x.id_)) (g 26) w1 := hd.2.2.2.2.2.2.2.1 rfl
    have p29 : (fun (u : Value) (w : World) => RB (hfOf w) u (be8 x.member)) (g 29) w1 := hd.2.2.2.2.2.2.2.2.1 rfl
    have p32 : (fun (u : Value) (w : World) => RB (hfOf w) u (join (x.facts.map eFact))) (g 32) w1 := hd.2.2.2.2.2.2.2.2.2.1 rfl
    refine StepT.plain rfl (O.buildSlice (vs := [g 5, g 8, g 11, g 14, g 17, g 20, g 23, g 26, g 29, g 32]) rfl rfl rfl Tryz.underlying133 inf22 (fun u hu => cells_size_one ((All2.one (H := hfOf w1) (vs := [g 5, g 8, g 11, g 14, g 17, g 20, g 23, g 26, g 29, g 32]) (ps := [be8 x.kind, be8 x.frm, be8 x.to_, be8 x.amount, be8 x.nonce, be8 x.dst, be8 x.deadline, digB x.id_, be8 x.member, join (x.facts.map eFact)]) (.cons p5 (.cons p8 (.cons p11 (.cons p14 (.cons p17 (.cons p20 (.cons p23 (.cons p26 (.cons p29 (.cons p32 (.nil)))))))))))) u hu)) (by decide) ?_)
    intro b2 w2 hb2 hb21 hE2 hblk2
    exact ⟨hE2, rbb_of_blk (ps := [be8 x.kind, be8 x.frm, be8 x.to_, be8 x.amount, be8 x.nonce, be8 x.dst, be8 x.deadline, digB x.id_, be8 x.member, join (x.facts.map eFact)]) hblk2 (.cons (RB.mono p5 (Ext.hle hE2)) (.cons (RB.mono p8 (Ext.hle hE2)) (.cons (RB.mono p11 (Ext.hle hE2)) (.cons (RB.mono p14 (Ext.hle hE2)) (.cons (RB.mono p17 (Ext.hle hE2)) (.cons (RB.mono p20 (Ext.hle hE2)) (.cons (RB.mono p23 (Ext.hle hE2)) (.cons (RB.mono p26 (Ext.hle hE2)) (.cons (RB.mono p29 (Ext.hle hE2)) (.cons (RB.mono p32 (Ext.hle hE2)) (.nil))))))))))) rfl (by decide)⟩
  · intro g w1 hR hf hd
    have h1 : (fun (u : Value) (w : World) => RBB (hfOf w) u [be8 x.kind, be8 x.frm, be8 x.to_, be8 x.amount, be8 x.nonce, be8 x.dst, be8 x.deadline, digB x.id_, be8 x.member, join (x.facts.map eFact)]) (g 33) w1 := hd.1 rfl
    have hA1 := Ext.agr hR (show Agr H wb.drew from hAb)
    refine StepT.plain rfl (O.call (fid := 44) (cap := #[]) (args := [g 33]) rfl rfl rfl Tryz.func44 rfl rfl ?_)
    refine Calls.mono (Join_calls (Agr.hf w1) h1 hlen) ?_
    rintro e w2 ⟨v2, rfl, own2, hE2⟩
    exact ⟨v2, rfl, hE2, (own2.heap fun k hk => hA1.none (own2.base hk).1).lower hR.size⟩
  · intro g w1 hR hf hd
    have h1 : (fun (u : Value) (w : World) => OwnB H w wb.heap.size u (join [be8 x.kind, be8 x.frm, be8 x.to_, be8 x.amount, be8 x.nonce, be8 x.dst, be8 x.deadline, digB x.id_, be8 x.member, join (x.facts.map eFact)])) (g 34) w1 := hd.1 rfl
    exact StepT.plain rfl (O.assign (v := g 34) rfl rfl ⟨Chg.refl _ _, h1⟩)
  intro g w1 hR hf hall
  have own := hall.2.2.2.2.2.2.2.2.2.2.2.2.2.2.2.2.2.2.2.2.2.2.2.2.2.2.2.2.2.2.2.2.1
  refine hK2 _ _ ?_
  try clear hK2 K2
  refine W.ret ?_
  exact retQ_one rfl rfl ⟨_, rfl, own.lower hEb.size, hEb.trans (Chg.trans (Ext.drew wb) hR)⟩

theorem list_Tx_calls {H : Heap} {w : World} {v : Value} {xs : List DTx} (hA : Agr H w) (r : RL 41 cTx H v xs) (hlen : (join (xs.map eTx)).length ≤ 35184372088832) : Calls Tryz.prog 56 #[v, .func (.func 57) #[] #[]] w (RetNew H w (join (xs.map eTx))) := by
  obtain ⟨ao, cap, rfl⟩ := r.form
  have hjl := join_length (xs.map eTx)
  have hge := joinTail_ge (xs.map eTx)
  rw [List.length_map] at hge
  refine calls_of_W (n := 23) Tryz.func56 rfl Tryz.ntmps56 (Nat.le_of_ble_eq_true rfl) ?_
  refine W.seq fun K1 hK1 => ?_
  refine W.region ?_
  refine SeqOps.put 4 rfl rfl rfl (O.assign (v := (.slice none 0 0)) rfl rfl ?_)
  refine SeqOps.nil ?_
  refine hK1 _ _ ?_
  try clear hK1 K1
  refine W.seq fun K2 hK2 => ?_
  refine W.region ?_
  refine SeqOps.put 5 rfl rfl rfl (O.assign (v := (.slice none 0 0)) rfl rfl ?_)
  refine SeqOps.nil ?_
  refine hK2 _ _ ?_
  try clear hK2 K2
  refine W.seq fun K3 hK3 => ?_
  refine W.seq fun K4 hK4 => ?_
  refine W.region ?_
  refine SeqOps.put 8 rfl rfl rfl (O.move (v := (.slice ao xs.length cap)) rfl rfl ?_)
  refine SeqOps.put 9 rfl rfl rfl (O.lenSlice (ad := ao) (n := xs.length) (c := cap) rfl rfl Tryz.underlying34 ?_)
  refine SeqOps.put 10 rfl rfl rfl (O.move (v := (.int .i64 (0))) rfl rfl ?_)
  refine SeqOps.nil ?_
  refine hK4 _ _ ?_
  try clear hK4 K4
  refine W.block ?_
  refine W.loop [1, 5, 8, 9, 10] (fun vals wk => ∃ H' all vs, ∃ k : Nat, vals = [.func (.func 57) #[] #[], all, .slice ao xs.length cap, .int .i64 (xs.length : Int), .int .i64 (k : Int)] ∧ k ≤ xs.length ∧ St H w NoX H' wk ∧ Own H' wk w.heap.size 22 1 all k vs ∧ All2 (RB H') vs ((xs.take k).map eTx)) (fun vals _ => xs.length - (intOf (vals.getD 4 undef)).toNat) ⟨H, _, [], 0, rfl, Nat.zero_le _, St.start _ hA, Own.nil _ _ _ _ _, .nil⟩ ?_
  rintro g _ wk ⟨H', all, vs, k, rfl, hk, st, own, h2⟩
  rcases Nat.lt_or_ge k xs.length with hlt | hge2
  · have hpl := elem_le_joinTail (xs.map eTx) (eTx xs[k]) (List.mem_map.2 ⟨_, by simp, rfl⟩)
    have hr' := RL.mono (R := cTx) cTx.mono r st.le
    obtain ⟨ad, cs, rfl, hcl, hre, hone, hcell⟩ := RL.elem hr' hlt
    replace hcell := hcell (by decide)
    obtain ⟨q, rfl, hre⟩ := hre
    refine W.seq fun K5 hK5 => ?_
    refine W.region ?_
    refine SeqOps.put 11 rfl rfl rfl (O.cmp (a := (k : Int)) (b := (xs.length : Int)) (r := true) rfl rfl rfl (by simp [cmpI]; omega) ?_)
    refine SeqOps.nil ?_
    refine hK5 _ _ ?_
    try clear hK5 K5
    refine W.seq fun K6 hK6 => ?_
    refine W.cond_true rfl ?_
    refine W.skip ?_
    refine hK6 _ _ ?_
    try clear hK6 K6
    refine W.seq fun K7 hK7 => ?_
    refine W.block ?_
    refine W.seq fun K8 hK8 => ?_
    refine W.region ?_
    refine SeqOps.put 12 rfl rfl rfl (O.indexAddr (a := ad) (len := xs.length) (cap := cap) (i := (k : Int)) (sz := 41) (v := .pointer (some (ad.add (k * 41)))) rfl rfl rfl Tryz.underlying34 sz82 (by omega) (by omega) (by simp) ?_)
    refine SeqOps.put 13 rfl rfl rfl (O.loadAgg (a := ad.add (k * 41)) (cs := q.cells) rfl rfl Tryz.underlying82 rfl sz82 (fun j u hu => st.agr.cell (hcell j u hu)) ?_)
    refine SeqOps.put 7 rfl rfl rfl (O.alloc rfl zr82 ?_)
    intro bx wa hbx hbx1 hEa hblk0
    refine SeqOps.eff rfl rfl (O.store (b := bx) (off := 0) (v := .agg (List.toArray q.cells)) (n := 41) (c' := q.cells.toArray) rfl rfl rfl hblk0 sz82 rfl (by decide) (VTx.one hre.ok) rfl ?_)
    intro wb hCb hblk
    have hEb : Ext wk wb := hEa.trans_new hCb fun i hi => .inl (by omega)
    refine SeqOps.nil ?_
    refine hK8 _ _ ?_
    try clear hK8 K8
    refine W.region ?_
    refine SeqOps.put 14 rfl rfl rfl (O.move (v := all) rfl rfl ?_)
    refine SeqOps.put 15 rfl rfl rfl (O.move (v := (.func (.func 57) #[] #[])) rfl rfl ?_)
    refine SeqOps.put 16 rfl rfl rfl (O.loadBlk (b := bx) (off := 0) (cs := q.cells) rfl rfl hblk Tryz.underlying82 rfl sz82 rfl ?_)
    have st1 := st.new hEb
    refine SeqOps.put 17 rfl rfl rfl (O.call (fid := 57) (cap := #[]) (args := [(.agg (List.toArray (q.cells)))]) rfl rfl rfl Tryz.func57 rfl rfl ?_)
    refine Calls.mono (Tx_calls st1.agr hre (by omega)) ?_
    rintro e w2 ⟨o2, rfl, own2, hE2⟩
    have st2 := st1.new hE2
    obtain ⟨H2, hle2, st3, hsame, rb2⟩ := own2.freeze st2 (st1.chg.size)
    have own3 : Own H2 w2 w.heap.size 22 1 all k vs := ((own.ext hEb).ext hE2).heap fun j hj => by rw [hsame j fun e => by have h1 := (own.base hj).2; have h2 := (own2.base e).1; have h3 := hEb.size; omega]; exact own.out j hj
    obtain ⟨aoe, cape, rfl⟩ := RS.form rb2
    refine ⟨_, rfl, ?_⟩
    refine SeqOps.put 18 rfl rfl rfl (O.buildSlice (vs := [(.slice aoe (eTx xs[k]).length cape)]) rfl rfl rfl Tryz.underlying133 inf22 (by intro v hv; simp at hv; subst hv; rfl) (by decide) ?_)
    intro b3 w3 hb3 hb31 hE3 hblk3
    have st4 := st3.new hE3
    refine SeqOps.put 19 rfl rfl rfl (O.append (H := H2) (B := w.heap.size) (v := all) (vx := .slice (some ⟨b3, 0, none⟩) 1 1) (m := 1) (xs := vs) (news := [(.slice aoe (eTx xs[k]).length cape)]) rfl rfl rfl Tryz.underlying133 inf22 rfl (own3.ext hE3) (Own.ofBlk (H := fun _ => none) (B := 0) (s := 1) (xs := [(.slice aoe (eTx xs[k]).length cape)]) hblk3 (Nat.zero_le _) rfl rfl (by decide) (by intro u hu; simp at hu; subst hu; rfl)).rsw rfl (by omega) (by omega) st4.chg.size st4.agr ?_)
    intro o4 w4 own4 hC4
    refine SeqOps.put 5 rfl rfl rfl (O.assign (v := o4) rfl rfl ?_)
    refine SeqOps.nil ?_
    refine hK7 _ _ ?_
    try clear hK7 K7
    refine W.region ?_
    refine SeqOps.put 20 rfl rfl rfl (O.arith (a := (k : Int)) (b := 1) (r := (k : Int) + 1) (c := (k : Int) + 1) rfl rfl rfl rfl (by exact wrap_i64 (by omega) (by omega)) ?_)
    refine SeqOps.put 10 rfl rfl rfl (O.move (v := (.int .i64 ((k : Int) + 1))) rfl rfl ?_)
    refine SeqOps.nil ?_
    refine ⟨⟨H2, o4, _, k + 1, rfl, by omega, st4.step hC4 fun i hi => ⟨.inl ((own3.ext hE3).base hi).1, own3.out i hi⟩, own4, ?_⟩, by show xs.length - ((k + 1 : Nat) : Int).toNat < xs.length - ((k : Nat) : Int).toNat; omega⟩
    rw [List.take_succ_eq_append_getElem hlt, List.map_append]
    exact (h2.imp fun _ _ h => h.mono hle2).snoc rb2
  have hkn : k = xs.length := by omega
  refine W.seq fun K9 hK9 => ?_
  refine W.region ?_
  refine SeqOps.put 11 rfl rfl rfl (O.cmp (a := (k : Int)) (b := (xs.length : Int)) (r := false) rfl rfl rfl (by simp [cmpI]; omega) ?_)
  refine SeqOps.nil ?_
  refine hK9 _ _ ?_
  try clear hK9 K9
  refine W.seq fun K10 hK10 => ?_
  refine W.cond_false rfl ?_
  refine W.exit ?_
  refine hK3 _ _ ?_
  try clear hK3 K3
  refine W.seq fun K11 hK11 => ?_
  refine W.region ?_
  refine SeqOps.put 21 rfl rfl rfl (O.move (v := all) rfl rfl ?_)
  subst hkn
  rw [List.take_length] at h2
  obtain ⟨H3, hle3, st3, _, rs3⟩ := own.freeze st (Nat.le_refl _)
  refine SeqOps.put 22 rfl rfl rfl (O.call (fid := 44) (cap := #[]) (args := [all]) rfl rfl rfl Tryz.func44 rfl rfl ?_)
  refine Calls.mono (Join_calls st3.agr ⟨vs, h2.imp fun _ _ h => h.mono hle3, by rw [List.length_map]; exact rs3⟩ hlen) ?_
  rintro e w5 ⟨o5, rfl, own5, hE5⟩
  refine ⟨_, rfl, ?_⟩
  refine SeqOps.put 4 rfl rfl rfl (O.assign (v := o5) rfl rfl ?_)
  refine SeqOps.nil ?_
  refine hK11 _ _ ?_
  try clear hK11 K11
  refine W.ret ?_
  refine retQ_one rfl rfl ⟨o5, rfl, (own5.heap fun j hj => hA.none (Nat.le_trans st.chg.size (own5.base hj).1)).lower st.chg.size, st.chg.trans hE5⟩

theorem Block_calls {H : Heap} {w : World} {v : VBlock} {x : DBlock} (hA : Agr H w) (r : RBlock H v x) (hlen : (eBlock x).length ≤ 35184372088832) : Calls Tryz.prog 49 #[.agg (List.toArray v.cells)] w (RetNew H w (eBlock x)) := by
  refine calls_of_W (n := 20) Tryz.func49 rfl Tryz.ntmps49 (Nat.le_of_ble_eq_true rfl) ?_
  have hjl : (eBlock x).length = _ := join_length _
  have hpl_header : (eHeader x.header).length ≤ 35184372088832 := by
    have h1 := elem_le_joinTail [eHeader x.header, eQC x.justify, join (x.handover.map eCommit), join (x.txs.map eTx), eSig x.sig] (eHeader x.header) (show _ ∈ _ by rw [List.mem_iff_getElem?]; exact ⟨0, rfl⟩)
    rw [hjl] at hlen
    exact Nat.le_trans h1 (by omega)
  have hpl_justify : (eQC x.justify).length ≤ 35184372088832 := by
    have h1 := elem_le_joinTail [eHeader x.header, eQC x.justify, join (x.handover.map eCommit), join (x.txs.map eTx), eSig x.sig] (eQC x.justify) (show _ ∈ _ by rw [List.mem_iff_getElem?]; exact ⟨1, rfl⟩)
    rw [hjl] at hlen
    exact Nat.le_trans h1 (by omega)
  have hpl_handover : (join (x.handover.map eCommit)).length ≤ 35184372088832 := by
    have h1 := elem_le_joinTail [eHeader x.header, eQC x.justify, join (x.handover.map eCommit), join (x.txs.map eTx), eSig x.sig] (join (x.handover.map eCommit)) (show _ ∈ _ by rw [List.mem_iff_getElem?]; exact ⟨2, rfl⟩)
    rw [hjl] at hlen
    exact Nat.le_trans h1 (by omega)
  have hpl_txs : (join (x.txs.map eTx)).length ≤ 35184372088832 := by
    have h1 := elem_le_joinTail [eHeader x.header, eQC x.justify, join (x.handover.map eCommit), join (x.txs.map eTx), eSig x.sig] (join (x.txs.map eTx)) (show _ ∈ _ by rw [List.mem_iff_getElem?]; exact ⟨3, rfl⟩)
    rw [hjl] at hlen
    exact Nat.le_trans h1 (by omega)
  have hpl_sig : (eSig x.sig).length ≤ 35184372088832 := by
    have h1 := elem_le_joinTail [eHeader x.header, eQC x.justify, join (x.handover.map eCommit), join (x.txs.map eTx), eSig x.sig] (eSig x.sig) (show _ ∈ _ by rw [List.mem_iff_getElem?]; exact ⟨4, rfl⟩)
    rw [hjl] at hlen
    exact Nat.le_trans h1 (by omega)
  refine W.seq fun K1 hK1 => ?_
  refine W.region ?_
  refine SeqOps.put 1 rfl rfl rfl (O.box (v := (.agg (List.toArray (v.cells)))) rfl rfl ?_)
  intro b wb hb hb1 hEb hblk
  have hAb := Ext.agr hEb hA
  refine SeqOps.put 2 rfl rfl rfl (O.assign (v := (.slice none 0 0)) rfl rfl ?_)
  refine SeqOps.nil ?_
  refine hK1 _ _ ?_
  try clear hK1 K1
  refine W.seq fun K2 hK2 => ?_
  refine W.region_any (by kernel_rfl) (by kernel_rfl) [3, 4, 5, 6, 7, 8, 9, 10, 11, 12, 13, 14, 15, 16, 17, 18, 19, 2] rfl (fun a b => Ext a b) (fun _ => Chg.refl _ _) (fun h k => Chg.trans h k) [
      (fun (u : Value) (_ : World) => u = Value.pointer (some ⟨b, 0, none⟩)),
      (fun (u : Value) (_ : World) => u = Value.agg (List.toArray v.header.cells)),
      (fun (u : Value) (w : World) => RB (hfOf w) u (eHeader x.header)),
      (fun (u : Value) (_ : World) => u = Value.pointer (some ⟨b, 101, none⟩)),
      (fun (u : Value) (_ : World) => u = Value.agg (List.toArray v.justify.cells)),
      (fun (u : Value) (w : World) => RB (hfOf w) u (eQC x.justify)),
      (fun (u : Value) (_ : World) => u = Value.pointer (some ⟨b, 138, none⟩)),
      (fun (u : Value) (_ : World) => u = v.handover),
      (fun (u : Value) (w : World) => RB (hfOf w) u (join (x.handover.map eCommit))),
      (fun (u : Value) (_ : World) => u = Value.pointer (some ⟨b, 139, none⟩)),
      (fun (u : Value) (_ : World) => u = v.txs),
      (fun (u : Value) (w : World) => RB (hfOf w) u (join (x.txs.map eTx))),
      (fun (u : Value) (_ : World) => u = Value.pointer (some ⟨b, 140, none⟩)),
      (fun (u : Value) (_ : World) => u = Value.agg (List.toArray v.sig.cells)),
      (fun (u : Value) (w : World) => RB (hfOf w) u (eSig x.sig)),
      (fun (u : Value) (w : World) => RBB (hfOf w) u [eHeader x.header, eQC x.justify, join (x.handover.map eCommit), join (x.txs.map eTx), eSig x.sig]),
      (fun (u : Value) (w : World) => OwnB H w wb.heap.size u (join [eHeader x.header, eQC x.justify, join (x.handover.map eCommit), join (x.txs.map eTx), eSig x.sig])),
      (fun (u : Value) (w : World) => OwnB H w wb.heap.size u (join [eHeader x.header, eQC x.justify, join (x.handover.map eCommit), join (x.txs.map eTx), eSig x.sig]))
    ] ⟨fun _ _ _ _ h => h, fun _ _ _ _ h => h, fun _ _ _ hE h => RB.mono h (Ext.hle hE), fun _ _ _ _ h => h, fun _ _ _ _ h => h, fun _ _ _ hE h => RB.mono h (Ext.hle hE), fun _ _ _ _ h => h, fun _ _ _ _ h => h, fun _ _ _ hE h => RB.mono h (Ext.hle hE), fun _ _ _ _ h => h, fun _ _ _ _ h => h, fun _ _ _ hE h => RB.mono h (Ext.hle hE), fun _ _ _ _ h => h, fun _ _ _ _ h => h, fun _ _ _ hE h => RB.mono h (Ext.hle hE), fun _ _ _ hE h => RBB.mono h (Ext.hle hE), fun _ _ _ hE h => Own.ext h hE, fun _ _ _ hE h => Own.ext h hE, trivial⟩ ⟨?_, ?_, ?_, ?_, ?_, ?_, ?_, ?_, ?_, ?_, ?_, ?_, ?_, ?_, ?_, ?_, ?_, ?_, trivial⟩ ?_
  · intro g w1 hR hf hd
    have h1 : g 1 = .pointer (some ⟨b, 0, none⟩) := hf 1 (by decide)
    exact StepT.plain rfl (O.fieldAddr (a := ⟨b, 0, none⟩) (v := Value.pointer (some ⟨b, 0, none⟩)) rfl h1 Tryz.underlying91 rfl (by kernel_rfl) rfl ⟨Chg.refl _ _, rfl⟩)
  · intro g w1 hR hf hd
    have h1 : (fun (u : Value) (_ : World) => u = Value.pointer (some ⟨b, 0, none⟩)) (g 3) w1 := hd.1 rfl
    have hblk1 := Ext.blk hR (show wb.drew.heap[b]? = _ from hblk)
    exact StepT.plain rfl (O.loadBlk (b := b) (off := 0) (cs := v.header.cells) rfl h1 hblk1 Tryz.underlying59 rfl sz59 rfl ⟨Chg.refl _ _, rfl⟩)
  · intro g w1 hR hf hd
    have h1 : (fun (u : Value) (_ : World) => u = Value.agg (List.toArray v.header.cells)) (g 4) w1 := hd.1 rfl
    have hA1 := Ext.agr hR (show Agr H wb.drew from hAb)
    refine StepT.plain rfl (O.call (fid := 100) (cap := #[]) (args := [Value.agg (List.toArray v.header.cells)]) rfl rfl (by show [g 4] = _; rw [h1]) Tryz.func100 rfl rfl ?_)
    refine Calls.mono (Header_calls hA1 r.header hpl_header) ?_
    rintro e w2 ⟨v2, rfl, own2, hE2⟩
    refine ⟨v2, rfl, hE2, ?_⟩
    show RB (hfOf w2) v2 (eHeader x.header)
    exact own2.rb
  · intro g w1 hR hf hd
    have h1 : g 1 = .pointer (some ⟨b, 0, none⟩) := hf 1 (by decide)
    exact StepT.plain rfl (O.fieldAddr (a := ⟨b, 0, none⟩) (v := Value.pointer (some ⟨b, 101, none⟩)) rfl h1 Tryz.underlying91 rfl (by kernel_rfl) rfl ⟨Chg.refl _ _, rfl⟩)
  · intro g w1 hR hf hd
    have h1 : (fun (u : Value) (_ : World) => u = Value.pointer (some ⟨b, 101, none⟩)) (g 6) w1 := hd.1 rfl
    have hblk1 := Ext.blk hR (show wb.drew.heap[b]? = _ from hblk)
    exact StepT.plain rfl (O.loadBlk (b := b) (off := 101) (cs := v.justify.cells) rfl h1 hblk1 Tryz.underlying43 rfl sz43 rfl ⟨Chg.refl _ _, rfl⟩)
  · intro g w1 hR hf hd
    have h1 : (fun (u : Value) (_ : World) => u = Value.agg (List.toArray v.justify.cells)) (g 7) w1 := hd.1 rfl
    have hA1 := Ext.agr hR (show Agr H wb.drew from hAb)
    refine StepT.plain rfl (O.call (fid := 101) (cap := #[]) (args := [Value.agg (List.toArray v.justify.cells)]) rfl rfl (by show [g 7] = _; rw [h1]) Tryz.func101 rfl rfl ?_)
    refine Calls.mono (QC_calls hA1 r.justify hpl_justify) ?_
    rintro e w2 ⟨v2, rfl, own2, hE2⟩
    refine ⟨v2, rfl, hE2, ?_⟩
    show RB (hfOf w2) v2 (eQC x.justify)
    exact own2.rb
  · intro g w1 hR hf hd
    have h1 : g 1 = .pointer (some ⟨b, 0, none⟩) := hf 1 (by decide)
    exact StepT.plain rfl (O.fieldAddr (a := ⟨b, 0, none⟩) (v := Value.pointer (some ⟨b, 138, none⟩)) rfl h1 Tryz.underlying91 rfl (by kernel_rfl) rfl ⟨Chg.refl _ _, rfl⟩)
  · intro g w1 hR hf hd
    have h1 : (fun (u : Value) (_ : World) => u = Value.pointer (some ⟨b, 138, none⟩)) (g 9) w1 := hd.1 rfl
    have hblk1 := Ext.blk hR (show wb.drew.heap[b]? = _ from hblk)
    exact StepT.plain rfl (O.loadBlk1 (b := b) (off := 138) (v := v.handover) rfl h1 hblk1 Tryz.underlying33 rfl rfl ⟨Chg.refl _ _, rfl⟩)
  · intro g w1 hR hf hd
    have h1 : (fun (u : Value) (_ : World) => u = v.handover) (g 10) w1 := hd.1 rfl
    have hA1 := Ext.agr hR (show Agr H wb.drew from hAb)
    refine StepT.plain rfl (O.call (fid := 54) (cap := #[]) (args := [v.handover, (.func (.func 55) #[] #[])]) rfl rfl (by show [g 10, (.func (.func 55) #[] #[])] = _; rw [h1]) Tryz.func54 rfl rfl ?_)
    refine Calls.mono (list_Commit_calls hA1 r.handover hpl_handover) ?_
    rintro e w2 ⟨v2, rfl, own2, hE2⟩
    refine ⟨v2, rfl, hE2, ?_⟩
    show RB (hfOf w2) v2 (join (x.handover.map eCommit))
    exact own2.rb
  · intro g w1 hR hf hd
    have h1 : g 1 = .pointer (some ⟨b, 0, none⟩) := hf 1 (by decide)
    exact StepT.plain rfl (O.fieldAddr (a := ⟨b, 0, none⟩) (v := Value.pointer (some ⟨b, 139, none⟩)) rfl h1 Tryz.underlying91 rfl (by kernel_rfl) rfl ⟨Chg.refl _ _, rfl⟩)
  · intro g w1 hR hf hd
    have h1 : (fun (u : Value) (_ : World) => u = Value.pointer (some ⟨b, 139, none⟩)) (g 12) w1 := hd.1 rfl
    have hblk1 := Ext.blk hR (show wb.drew.heap[b]? = _ from hblk)
    exact StepT.plain rfl (O.loadBlk1 (b := b) (off := 139) (v := v.txs) rfl h1 hblk1 Tryz.underlying34 rfl rfl ⟨Chg.refl _ _, rfl⟩)
  · intro g w1 hR hf hd
    have h1 : (fun (u : Value) (_ : World) => u = v.txs) (g 13) w1 := hd.1 rfl
    have hA1 := Ext.agr hR (show Agr H wb.drew from hAb)
    refine StepT.plain rfl (O.call (fid := 56) (cap := #[]) (args := [v.txs, (.func (.func 57) #[] #[])]) rfl rfl (by show [g 13, (.func (.func 57) #[] #[])] = _; rw [h1]) Tryz.func56 rfl rfl ?_)
    refine Calls.mono (list_Tx_calls hA1 r.txs hpl_txs) ?_
    rintro e w2 ⟨v2, rfl, own2, hE2⟩
    refine ⟨v2, rfl, hE2, ?_⟩
    show RB (hfOf w2) v2 (join (x.txs.map eTx))
    exact own2.rb
  · intro g w1 hR hf hd
    have h1 : g 1 = .pointer (some ⟨b, 0, none⟩) := hf 1 (by decide)
    exact StepT.plain rfl (O.fieldAddr (a := ⟨b, 0, none⟩) (v := Value.pointer (some ⟨b, 140, none⟩)) rfl h1 Tryz.underlying91 rfl (by kernel_rfl) rfl ⟨Chg.refl _ _, rfl⟩)
  · intro g w1 hR hf hd
    have h1 : (fun (u : Value) (_ : World) => u = Value.pointer (some ⟨b, 140, none⟩)) (g 15) w1 := hd.1 rfl
    have hblk1 := Ext.blk hR (show wb.drew.heap[b]? = _ from hblk)
    exact StepT.plain rfl (O.loadBlk (b := b) (off := 140) (cs := v.sig.cells) rfl h1 hblk1 Tryz.underlying89 rfl sz89 rfl ⟨Chg.refl _ _, rfl⟩)
  · intro g w1 hR hf hd
    have h1 : (fun (u : Value) (_ : World) => u = Value.agg (List.toArray v.sig.cells)) (g 16) w1 := hd.1 rfl
    have hA1 := Ext.agr hR (show Agr H wb.drew from hAb)
    refine StepT.plain rfl (O.call (fid := 102) (cap := #[]) (args := [Value.agg (List.toArray v.sig.cells)]) rfl rfl (by show [g 16] = _; rw [h1]) Tryz.func102 rfl rfl ?_)
    refine Calls.mono (Sig_calls hA1 r.sig hpl_sig) ?_
    rintro e w2 ⟨v2, rfl, own2, hE2⟩
    refine ⟨v2, rfl, hE2, ?_⟩
    show RB (hfOf w2) v2 (eSig x.sig)
    exact own2.rb
  · intro g w1 hR hf hd
    have hA1 := Ext.agr hR (show Agr H wb.drew from hAb)
    have p5 : (fun (u : Value) (w : World) => RB (hfOf w) u (eHeader x.header)) (g 5) w1 := hd.1 rfl
    have p8 : (fun (u : Value) (w : World) => RB (hfOf w) u (eQC x.justify)) (g 8) w1 := hd.2.1 rfl
    have p11 : (fun (u : Value) (w : World) => RB (hfOf w) u (join (x.handover.map eCommit))) (g 11) w1 := hd.2.2.1 rfl
    have p14 : (fun (u : Value) (w : World) => RB (hfOf w) u (join (x.txs.map eTx))) (g 14) w1 := hd.2.2.2.1 rfl
    have p17 : (fun (u : Value) (w : World) => RB (hfOf w) u (eSig x.sig)) (g 17) w1 := hd.2.2.2.2.1 rfl
    refine StepT.plain rfl (O.buildSlice (vs := [g 5, g 8, g 11, g 14, g 17]) rfl rfl rfl Tryz.underlying133 inf22 (fun u hu => cells_size_one ((All2.one (H := hfOf w1) (vs := [g 5, g 8, g 11, g 14, g 17]) (ps := [eHeader x.header, eQC x.justify, join (x.handover.map eCommit), join (x.txs.map eTx), eSig x.sig]) (.cons p5 (.cons p8 (.cons p11 (.cons p14 (.cons p17 (.nil))))))) u hu)) (by decide) ?_)
    intro b2 w2 hb2 hb21 hE2 hblk2
    exact ⟨hE2, rbb_of_blk (ps := [eHeader x.header, eQC x.justify, join (x.handover.map eCommit), join (x.txs.map eTx), eSig x.sig]) hblk2 (.cons (RB.mono p5 (Ext.hle hE2)) (.cons (RB.mono p8 (Ext.hle hE2)) (.cons (RB.mono p11 (Ext.hle hE2)) (.cons (RB.mono p14 (Ext.hle hE2)) (.cons (RB.mono p17 (Ext.hle hE2)) (.nil)))))) rfl (by decide)⟩
  · intro g w1 hR hf hd
    have h1 : (fun (u : Value) (w : World) => RBB (hfOf w) u [eHeader x.header, eQC x.justify, join (x.handover.map eCommit), join (x.txs.map eTx), eSig x.sig]) (g 18) w1 := hd.1 rfl
    have hA1 := Ext.agr hR (show Agr H wb.drew from hAb)
    refine StepT.plain rfl (O.call (fid := 44) (cap := #[]) (args := [g 18]) rfl rfl rfl Tryz.func44 rfl rfl ?_)
    refine Calls.mono (Join_calls (Agr.hf w1) h1 hlen) ?_
    rintro e w2 ⟨v2, rfl, own2, hE2⟩
    exact ⟨v2, rfl, hE2, (own2.heap fun k hk => hA1.none (own2.base hk).1).lower hR.size⟩
  · intro g w1 hR hf hd
    have h1 : (fun (u : Value) (w : World) => OwnB H w wb.heap.size u (join [eHeader x.header, eQC x.justify, join (x.handover.map eCommit), join (x.txs.map eTx), eSig x.sig])) (g 19) w1 := hd.1 rfl
    exact StepT.plain rfl (O.assign (v := g 19) rfl rfl ⟨Chg.refl _ _, h1⟩)
  intro g w1 hR hf hall
  have own := hall.2.2.2.2.2.2.2.2.2.2.2.2.2.2.2.2.2.1
  refine hK2 _ _ ?_
  try clear hK2 K2
  refine W.ret ?_
  exact retQ_one rfl rfl ⟨_, rfl, own.lower hEb.size, hEb.trans (Chg.trans (Ext.drew wb) hR)⟩

theorem list_Block_calls {H : Heap} {w : World} {v : Value} {xs : List DBlock} (hA : Agr H w) (r : RL 173 cBlock H v xs) (hlen : (join (xs.map eBlock)).length ≤ 35184372088832) : Calls Tryz.prog 48 #[v, .func (.func 49) #[] #[]] w (RetNew H w (join (xs.map eBlock))) := by
  obtain ⟨ao, cap, rfl⟩ := r.form
  have hjl := join_length (xs.map eBlock)
  have hge := joinTail_ge (xs.map eBlock)
  rw [List.length_map] at hge
  refine calls_of_W (n := 23) Tryz.func48 rfl Tryz.ntmps48 (Nat.le_of_ble_eq_true rfl) ?_
  refine W.seq fun K1 hK1 => ?_
  refine W.region ?_
  refine SeqOps.put 4 rfl rfl rfl (O.assign (v := (.slice none 0 0)) rfl rfl ?_)
  refine SeqOps.nil ?_
  refine hK1 _ _ ?_
  try clear hK1 K1
  refine W.seq fun K2 hK2 => ?_
  refine W.region ?_
  refine SeqOps.put 5 rfl rfl rfl (O.assign (v := (.slice none 0 0)) rfl rfl ?_)
  refine SeqOps.nil ?_
  refine hK2 _ _ ?_
  try clear hK2 K2
  refine W.seq fun K3 hK3 => ?_
  refine W.seq fun K4 hK4 => ?_
  refine W.region ?_
  refine SeqOps.put 8 rfl rfl rfl (O.move (v := (.slice ao xs.length cap)) rfl rfl ?_)
  refine SeqOps.put 9 rfl rfl rfl (O.lenSlice (ad := ao) (n := xs.length) (c := cap) rfl rfl Tryz.underlying30 ?_)
  refine SeqOps.put 10 rfl rfl rfl (O.move (v := (.int .i64 (0))) rfl rfl ?_)
  refine SeqOps.nil ?_
  refine hK4 _ _ ?_
  try clear hK4 K4
  refine W.block ?_
  refine W.loop [1, 5, 8, 9, 10] (fun vals wk => ∃ H' all vs, ∃ k : Nat, vals = [.func (.func 49) #[] #[], all, .slice ao xs.length cap, .int .i64 (xs.length : Int), .int .i64 (k : Int)] ∧ k ≤ xs.length ∧ St H w NoX H' wk ∧ Own H' wk w.heap.size 22 1 all k vs ∧ All2 (RB H') vs ((xs.take k).map eBlock)) (fun vals _ => xs.length - (intOf (vals.getD 4 undef)).toNat) ⟨H, _, [], 0, rfl, Nat.zero_le _, St.start _ hA, Own.nil _ _ _ _ _, .nil⟩ ?_
  rintro g _ wk ⟨H', all, vs, k, rfl, hk, st, own, h2⟩
  rcases Nat.lt_or_ge k xs.length with hlt | hge2
  · have hpl := elem_le_joinTail (xs.map eBlock) (eBlock xs[k]) (List.mem_map.2 ⟨_, by simp, rfl⟩)
    have hr' := RL.mono (R := cBlock) cBlock.mono r st.le
    obtain ⟨ad, cs, rfl, hcl, hre, hone, hcell⟩ := RL.elem hr' hlt
    replace hcell := hcell (by decide)
    obtain ⟨q, rfl, hre⟩ := hre
    refine W.seq fun K5 hK5 => ?_
    refine W.region ?_
    refine SeqOps.put 11 rfl rfl rfl (O.cmp (a := (k : Int)) (b := (xs.length : Int)) (r := true) rfl rfl rfl (by simp [cmpI]; omega) ?_)
    refine SeqOps.nil ?_
    refine hK5 _ _ ?_
    try clear hK5 K5
    refine W.seq fun K6 hK6 => ?_
    refine W.cond_true rfl ?_
    refine W.skip ?_
    refine hK6 _ _ ?_
    try clear hK6 K6
    refine W.seq fun K7 hK7 => ?_
    refine W.block ?_
    refine W.seq fun K8 hK8 => ?_
    refine W.region ?_
    refine SeqOps.put 12 rfl rfl rfl (O.indexAddr (a := ad) (len := xs.length) (cap := cap) (i := (k : Int)) (sz := 173) (v := .pointer (some (ad.add (k * 173)))) rfl rfl rfl Tryz.underlying30 sz91 (by omega) (by omega) (by simp) ?_)
    refine SeqOps.put 13 rfl rfl rfl (O.loadAgg (a := ad.add (k * 173)) (cs := q.cells) rfl rfl Tryz.underlying91 rfl sz91 (fun j u hu => st.agr.cell (hcell j u hu)) ?_)
    refine SeqOps.put 7 rfl rfl rfl (O.alloc rfl zr91 ?_)
    intro bx wa hbx hbx1 hEa hblk0
    refine SeqOps.eff rfl rfl (O.store (b := bx) (off := 0) (v := .agg (List.toArray q.cells)) (n := 173) (c' := q.cells.toArray) rfl rfl rfl hblk0 sz91 rfl (by decide) (VBlock.one hre.ok) rfl ?_)
    intro wb hCb hblk
    have hEb : Ext wk wb := hEa.trans_new hCb fun i hi => .inl (by omega)
    refine SeqOps.nil ?_
    refine hK8 _ _ ?_
    try clear hK8 K8
    refine W.region ?_
    refine SeqOps.put 14 rfl rfl rfl (O.move (v := all) rfl rfl ?_)
    refine SeqOps.put 15 rfl rfl rfl (O.move (v := (.func (.func 49) #[] #[])) rfl rfl ?_)
    refine SeqOps.put 16 rfl rfl rfl (O.loadBlk (b := bx) (off := 0) (cs := q.cells) rfl rfl hblk Tryz.underlying91 rfl sz91 rfl ?_)
    have st1 := st.new hEb
    refine SeqOps.put 17 rfl rfl rfl (O.call (fid := 49) (cap := #[]) (args := [(.agg (List.toArray (q.cells)))]) rfl rfl rfl Tryz.func49 rfl rfl ?_)
    refine Calls.mono (Block_calls st1.agr hre (by omega)) ?_
    rintro e w2 ⟨o2, rfl, own2, hE2⟩
    have st2 := st1.new hE2
    obtain ⟨H2, hle2, st3, hsame, rb2⟩ := own2.freeze st2 (st1.chg.size)
    have own3 : Own H2 w2 w.heap.size 22 1 all k vs := ((own.ext hEb).ext hE2).heap fun j hj => by rw [hsame j fun e => by have h1 := (own.base hj).2; have h2 := (own2.base e).1; have h3 := hEb.size; omega]; exact own.out j hj
    obtain ⟨aoe, cape, rfl⟩ := RS.form rb2
    refine ⟨_, rfl, ?_⟩
    refine SeqOps.put 18 rfl rfl rfl (O.buildSlice (vs := [(.slice aoe (eBlock xs[k]).length cape)]) rfl rfl rfl Tryz.underlying133 inf22 (by intro v hv; simp at hv; subst hv; rfl) (by decide) ?_)
    intro b3 w3 hb3 hb31 hE3 hblk3
    have st4 := st3.new hE3
    refine SeqOps.put 19 rfl rfl rfl (O.append (H := H2) (B := w.heap.size) (v := all) (vx := .slice (some ⟨b3, 0, none⟩) 1 1) (m := 1) (xs := vs) (news := [(.slice aoe (eBlock xs[k]).length cape)]) rfl rfl rfl Tryz.underlying133 inf22 rfl (own3.ext hE3) (Own.ofBlk (H := fun _ => none) (B := 0) (s := 1) (xs := [(.slice aoe (eBlock xs[k]).length cape)]) hblk3 (Nat.zero_le _) rfl rfl (by decide) (by intro u hu; simp at hu; subst hu; rfl)).rsw rfl (by omega) (by omega) st4.chg.size st4.agr ?_)
    intro o4 w4 own4 hC4
    refine SeqOps.put 5 rfl rfl rfl (O.assign (v := o4) rfl rfl ?_)
    refine SeqOps.nil ?_
    refine hK7 _ _ ?_
    try clear hK7 K7
    refine W.region ?_
    refine SeqOps.put 20 rfl rfl rfl (O.arith (a := (k : Int)) (b := 1) (r := (k : Int) + 1) (c := (k : Int) + 1) rfl rfl rfl rfl (by exact wrap_i64 (by omega) (by omega)) ?_)
    refine SeqOps.put 10 rfl rfl rfl (O.move (v := (.int .i64 ((k : Int) + 1))) rfl rfl ?_)
    refine SeqOps.nil ?_
    refine ⟨⟨H2, o4, _, k + 1, rfl, by omega, st4.step hC4 fun i hi => ⟨.inl ((own3.ext hE3).base hi).1, own3.out i hi⟩, own4, ?_⟩, by show xs.length - ((k + 1 : Nat) : Int).toNat < xs.length - ((k : Nat) : Int).toNat; omega⟩
    rw [List.take_succ_eq_append_getElem hlt, List.map_append]
    exact (h2.imp fun _ _ h => h.mono hle2).snoc rb2
  have hkn : k = xs.length := by omega
  refine W.seq fun K9 hK9 => ?_
  refine W.region ?_
  refine SeqOps.put 11 rfl rfl rfl (O.cmp (a := (k : Int)) (b := (xs.length : Int)) (r := false) rfl rfl rfl (by simp [cmpI]; omega) ?_)
  refine SeqOps.nil ?_
  refine hK9 _ _ ?_
  try clear hK9 K9
  refine W.seq fun K10 hK10 => ?_
  refine W.cond_false rfl ?_
  refine W.exit ?_
  refine hK3 _ _ ?_
  try clear hK3 K3
  refine W.seq fun K11 hK11 => ?_
  refine W.region ?_
  refine SeqOps.put 21 rfl rfl rfl (O.move (v := all) rfl rfl ?_)
  subst hkn
  rw [List.take_length] at h2
  obtain ⟨H3, hle3, st3, _, rs3⟩ := own.freeze st (Nat.le_refl _)
  refine SeqOps.put 22 rfl rfl rfl (O.call (fid := 44) (cap := #[]) (args := [all]) rfl rfl rfl Tryz.func44 rfl rfl ?_)
  refine Calls.mono (Join_calls st3.agr ⟨vs, h2.imp fun _ _ h => h.mono hle3, by rw [List.length_map]; exact rs3⟩ hlen) ?_
  rintro e w5 ⟨o5, rfl, own5, hE5⟩
  refine ⟨_, rfl, ?_⟩
  refine SeqOps.put 4 rfl rfl rfl (O.assign (v := o5) rfl rfl ?_)
  refine SeqOps.nil ?_
  refine hK11 _ _ ?_
  try clear hK11 K11
  refine W.ret ?_
  refine retQ_one rfl rfl ⟨o5, rfl, (own5.heap fun j hj => hA.none (Nat.le_trans st.chg.size (own5.base hj).1)).lower st.chg.size, st.chg.trans hE5⟩

theorem Vote_calls {H : Heap} {w : World} {v : VVote} {x : DVote} (hA : Agr H w) (r : RVote H v x) (hlen : (eVote x).length ≤ 35184372088832) : Calls Tryz.prog 51 #[.agg (List.toArray v.cells)] w (RetNew H w (eVote x)) := by
  refine calls_of_W (n := 23) Tryz.func51 rfl Tryz.ntmps51 (Nat.le_of_ble_eq_true rfl) ?_
  have hjl : (eVote x).length = _ := join_length _
  have hpl_sig : (eSig x.sig).length ≤ 35184372088832 := by
    have h1 := elem_le_joinTail [be8 x.chain, be8 x.epoch, be8 x.view, digB x.block, be8 x.signer, eSig x.sig] (eSig x.sig) (show _ ∈ _ by rw [List.mem_iff_getElem?]; exact ⟨5, rfl⟩)
    rw [hjl] at hlen
    exact Nat.le_trans h1 (by omega)
  refine W.seq fun K1 hK1 => ?_
  refine W.region ?_
  refine SeqOps.put 1 rfl rfl rfl (O.box (v := (.agg (List.toArray (v.cells)))) rfl rfl ?_)
  intro b wb hb hb1 hEb hblk
  have hAb := Ext.agr hEb hA
  refine SeqOps.put 2 rfl rfl rfl (O.assign (v := (.slice none 0 0)) rfl rfl ?_)
  refine SeqOps.nil ?_
  refine hK1 _ _ ?_
  try clear hK1 K1
  refine W.seq fun K2 hK2 => ?_
  refine W.region_any (by kernel_rfl) (by kernel_rfl) [3, 4, 5, 6, 7, 8, 9, 10, 11, 12, 13, 14, 15, 16, 17, 18, 19, 20, 21, 22, 2] rfl (fun a b => Ext a b) (fun _ => Chg.refl _ _) (fun h k => Chg.trans h k) [
      (fun (u : Value) (_ : World) => u = Value.pointer (some ⟨b, 0, none⟩)),
      (fun (u : Value) (_ : World) => u = Value.int .i64 v.chain),
      (fun (u : Value) (w : World) => RB (hfOf w) u (be8 x.chain)),
      (fun (u : Value) (_ : World) => u = Value.pointer (some ⟨b, 1, none⟩)),
      (fun (u : Value) (_ : World) => u = Value.int .i64 v.epoch),
      (fun (u : Value) (w : World) => RB (hfOf w) u (be8 x.epoch)),
      (fun (u : Value) (_ : World) => u = Value.pointer (some ⟨b, 2, none⟩)),
      (fun (u : Value) (_ : World) => u = Value.int .i64 v.view),
      (fun (u : Value) (w : World) => RB (hfOf w) u (be8 x.view)),
      (fun (u : Value) (_ : World) => u = Value.pointer (some ⟨b, 3, none⟩)),
      (fun (u : Value) (_ : World) => u = Value.agg (List.toArray (digC v.block))),
      (fun (u : Value) (w : World) => RB (hfOf w) u (digB x.block)),
      (fun (u : Value) (_ : World) => u = Value.pointer (some ⟨b, 35, none⟩)),
      (fun (u : Value) (_ : World) => u = Value.int .i64 v.signer),
      (fun (u : Value) (w : World) => RB (hfOf w) u (be8 x.signer)),
      (fun (u : Value) (_ : World) => u = Value.pointer (some ⟨b, 36, none⟩)),
      (fun (u : Value) (_ : World) => u = Value.agg (List.toArray v.sig.cells)),
      (fun (u : Value) (w : World) => RB (hfOf w) u (eSig x.sig)),
      (fun (u : Value) (w : World) => RBB (hfOf w) u [be8 x.chain, be8 x.epoch, be8 x.view, digB x.block, be8 x.signer, eSig x.sig]),
      (fun (u : Value) (w : World) => OwnB H w wb.heap.size u (join [be8 x.chain, be8 x.epoch, be8 x.view, digB x.block, be8 x.signer, eSig x.sig])),
      (fun (u : Value) (w : World) => OwnB H w wb.heap.size u (join [be8 x.chain, be8 x.epoch, be8 x.view, digB x.block, be8 x.signer, eSig x.sig]))
    ] ⟨fun _ _ _ _ h => h, fun _ _ _ _ h => h, fun _ _ _ hE h => RB.mono h (Ext.hle hE), fun _ _ _ _ h => h, fun _ _ _ _ h => h, fun _ _ _ hE h => RB.mono h (Ext.hle hE), fun _ _ _ _ h => h, fun _ _ _ _ h => h, fun _ _ _ hE h => RB.mono h (Ext.hle hE), fun _ _ _ _ h => h, fun _ _ _ _ h => h, fun _ _ _ hE h => RB.mono h (Ext.hle hE), fun _ _ _ _ h => h, fun _ _ _ _ h => h, fun _ _ _ hE h => RB.mono h (Ext.hle hE), fun _ _ _ _ h => h, fun _ _ _ _ h => h, fun _ _ _ hE h => RB.mono h (Ext.hle hE), fun _ _ _ hE h => RBB.mono h (Ext.hle hE), fun _ _ _ hE h => Own.ext h hE, fun _ _ _ hE h => Own.ext h hE, trivial⟩ ⟨?_, ?_, ?_, ?_, ?_, ?_, ?_, ?_, ?_, ?_, ?_, ?_, ?_, ?_, ?_, ?_, ?_, ?_, ?_, ?_, ?_, trivial⟩ ?_
  · intro g w1 hR hf hd
    have h1 : g 1 = .pointer (some ⟨b, 0, none⟩) := hf 1 (by decide)
    exact StepT.plain rfl (O.fieldAddr (a := ⟨b, 0, none⟩) (v := Value.pointer (some ⟨b, 0, none⟩)) rfl h1 Tryz.underlying98 rfl (by kernel_rfl) rfl ⟨Chg.refl _ _, rfl⟩)
  · intro g w1 hR hf hd
    have h1 : (fun (u : Value) (_ : World) => u = Value.pointer (some ⟨b, 0, none⟩)) (g 3) w1 := hd.1 rfl
    have hblk1 := Ext.blk hR (show wb.drew.heap[b]? = _ from hblk)
    exact StepT.plain rfl (O.loadBlk1 (b := b) (off := 0) (v := Value.int .i64 v.chain) rfl h1 hblk1 Tryz.underlying3 rfl rfl ⟨Chg.refl _ _, rfl⟩)
  · intro g w1 hR hf hd
    have h1 : (fun (u : Value) (_ : World) => u = Value.int .i64 v.chain) (g 4) w1 := hd.1 rfl
    have hA1 := Ext.agr hR (show Agr H wb.drew from hAb)
    refine StepT.plain rfl (O.call (fid := 45) (cap := #[]) (args := [Value.int .i64 v.chain]) rfl rfl (by show [g 4] = _; rw [h1]) Tryz.func45 rfl rfl ?_)
    refine Calls.mono (num_int_calls (n := v.chain) hA1 (by rw [r.chain.1]; exact r.chain.2.1) (by rw [r.chain.1]; exact r.chain.2.2)) ?_
    rintro e w2 ⟨v2, rfl, own2, hE2⟩
    refine ⟨v2, rfl, hE2, ?_⟩
    show RB (hfOf w2) v2 (be8 x.chain)
    rw [← r.chain.1]; exact own2.rb
  · intro g w1 hR hf hd
    have h1 : g 1 = .pointer (some ⟨b, 0, none⟩) := hf 1 (by decide)
    exact StepT.plain rfl (O.fieldAddr (a := ⟨b, 0, none⟩) (v := Value.pointer (some ⟨b, 1, none⟩)) rfl h1 Tryz.underlying98 rfl (by kernel_rfl) rfl ⟨Chg.refl _ _, rfl⟩)
  · intro g w1 hR hf hd
    have h1 : (fun (u : Value) (_ : World) => u = Value.pointer (some ⟨b, 1, none⟩)) (g 6) w1 := hd.1 rfl
    have hblk1 := Ext.blk hR (show wb.drew.heap[b]? = _ from hblk)
    exact StepT.plain rfl (O.loadBlk1 (b := b) (off := 1) (v := Value.int .i64 v.epoch) rfl h1 hblk1 Tryz.underlying3 rfl rfl ⟨Chg.refl _ _, rfl⟩)
  · intro g w1 hR hf hd
    have h1 : (fun (u : Value) (_ : World) => u = Value.int .i64 v.epoch) (g 7) w1 := hd.1 rfl
    have hA1 := Ext.agr hR (show Agr H wb.drew from hAb)
    refine StepT.plain rfl (O.call (fid := 45) (cap := #[]) (args := [Value.int .i64 v.epoch]) rfl rfl (by show [g 7] = _; rw [h1]) Tryz.func45 rfl rfl ?_)
    refine Calls.mono (num_int_calls (n := v.epoch) hA1 (by rw [r.epoch.1]; exact r.epoch.2.1) (by rw [r.epoch.1]; exact r.epoch.2.2)) ?_
    rintro e w2 ⟨v2, rfl, own2, hE2⟩
    refine ⟨v2, rfl, hE2, ?_⟩
    show RB (hfOf w2) v2 (be8 x.epoch)
    rw [← r.epoch.1]; exact own2.rb
  · intro g w1 hR hf hd
    have h1 : g 1 = .pointer (some ⟨b, 0, none⟩) := hf 1 (by decide)
    exact StepT.plain rfl (O.fieldAddr (a := ⟨b, 0, none⟩) (v := Value.pointer (some ⟨b, 2, none⟩)) rfl h1 Tryz.underlying98 rfl (by kernel_rfl) rfl ⟨Chg.refl _ _, rfl⟩)
  · intro g w1 hR hf hd
    have h1 : (fun (u : Value) (_ : World) => u = Value.pointer (some ⟨b, 2, none⟩)) (g 9) w1 := hd.1 rfl
    have hblk1 := Ext.blk hR (show wb.drew.heap[b]? = _ from hblk)
    exact StepT.plain rfl (O.loadBlk1 (b := b) (off := 2) (v := Value.int .i64 v.view) rfl h1 hblk1 Tryz.underlying2 rfl rfl ⟨Chg.refl _ _, rfl⟩)
  · intro g w1 hR hf hd
    have h1 : (fun (u : Value) (_ : World) => u = Value.int .i64 v.view) (g 10) w1 := hd.1 rfl
    have hA1 := Ext.agr hR (show Agr H wb.drew from hAb)
    refine StepT.plain rfl (O.call (fid := 46) (cap := #[]) (args := [Value.int .i64 v.view]) rfl rfl (by show [g 10] = _; rw [h1]) Tryz.func46 rfl rfl ?_)
    refine Calls.mono (num_int64_calls (n := v.view) hA1 (by rw [r.view.1]; exact r.view.2.1) (by rw [r.view.1]; exact r.view.2.2)) ?_
    rintro e w2 ⟨v2, rfl, own2, hE2⟩
    refine ⟨v2, rfl, hE2, ?_⟩
    show RB (hfOf w2) v2 (be8 x.view)
    rw [← r.view.1]; exact own2.rb
  · intro g w1 hR hf hd
    have h1 : g 1 = .pointer (some ⟨b, 0, none⟩) := hf 1 (by decide)
    exact StepT.plain rfl (O.fieldAddr (a := ⟨b, 0, none⟩) (v := Value.pointer (some ⟨b, 3, none⟩)) rfl h1 Tryz.underlying98 rfl (by kernel_rfl) rfl ⟨Chg.refl _ _, rfl⟩)
  · intro g w1 hR hf hd
    have h1 : (fun (u : Value) (_ : World) => u = Value.pointer (some ⟨b, 3, none⟩)) (g 12) w1 := hd.1 rfl
    have hblk1 := Ext.blk hR (show wb.drew.heap[b]? = _ from hblk)
    exact StepT.plain rfl (O.loadBlk (b := b) (off := 3) (cs := digC v.block) rfl h1 hblk1 Tryz.underlying29 rfl sz29 rfl ⟨Chg.refl _ _, rfl⟩)
  · intro g w1 hR hf hd
    have h1 : (fun (u : Value) (_ : World) => u = Value.agg (List.toArray (digC v.block))) (g 13) w1 := hd.1 rfl
    have hA1 := Ext.agr hR (show Agr H wb.drew from hAb)
    refine StepT.plain rfl (O.call (fid := 47) (cap := #[]) (args := [Value.agg (List.toArray (digC v.block))]) rfl rfl (by show [g 13] = _; rw [h1]) Tryz.func47 rfl rfl ?_)
    refine Calls.mono (digest_calls v.block) ?_
    rintro e w2 ⟨v2, rfl, rb2, hE2⟩
    refine ⟨v2, rfl, hE2, ?_⟩
    show RB (hfOf w2) v2 (digB x.block)
    rw [← r.block]; exact rb2
  · intro g w1 hR hf hd
    have h1 : g 1 = .pointer (some ⟨b, 0, none⟩) := hf 1 (by decide)
    exact StepT.plain rfl (O.fieldAddr (a := ⟨b, 0, none⟩) (v := Value.pointer (some ⟨b, 35, none⟩)) rfl h1 Tryz.underlying98 rfl (by kernel_rfl) rfl ⟨Chg.refl _ _, rfl⟩)
  · intro g w1 hR hf hd
    have h1 : (fun (u : Value) (_ : World) => u = Value.pointer (some ⟨b, 35, none⟩)) (g 15) w1 := hd.1 rfl
    have hblk1 := Ext.blk hR (show wb.drew.heap[b]? = _ from hblk)
    exact StepT.plain rfl (O.loadBlk1 (b := b) (off := 35) (v := Value.int .i64 v.signer) rfl h1 hblk1 Tryz.underlying3 rfl rfl ⟨Chg.refl _ _, rfl⟩)
  · intro g w1 hR hf hd
    have h1 : (fun (u : Value) (_ : World) => u = Value.int .i64 v.signer) (g 16) w1 := hd.1 rfl
    have hA1 := Ext.agr hR (show Agr H wb.drew from hAb)
    refine StepT.plain rfl (O.call (fid := 45) (cap := #[]) (args := [Value.int .i64 v.signer]) rfl rfl (by show [g 16] = _; rw [h1]) Tryz.func45 rfl rfl ?_)
    refine Calls.mono (num_int_calls (n := v.signer) hA1 (by rw [r.signer.1]; exact r.signer.2.1) (by rw [r.signer.1]; exact r.signer.2.2)) ?_
    rintro e w2 ⟨v2, rfl, own2, hE2⟩
    refine ⟨v2, rfl, hE2, ?_⟩
    show RB (hfOf w2) v2 (be8 x.signer)
    rw [← r.signer.1]; exact own2.rb
  · intro g w1 hR hf hd
    have h1 : g 1 = .pointer (some ⟨b, 0, none⟩) := hf 1 (by decide)
    exact StepT.plain rfl (O.fieldAddr (a := ⟨b, 0, none⟩) (v := Value.pointer (some ⟨b, 36, none⟩)) rfl h1 Tryz.underlying98 rfl (by kernel_rfl) rfl ⟨Chg.refl _ _, rfl⟩)
  · intro g w1 hR hf hd
    have h1 : (fun (u : Value) (_ : World) => u = Value.pointer (some ⟨b, 36, none⟩)) (g 18) w1 := hd.1 rfl
    have hblk1 := Ext.blk hR (show wb.drew.heap[b]? = _ from hblk)
    exact StepT.plain rfl (O.loadBlk (b := b) (off := 36) (cs := v.sig.cells) rfl h1 hblk1 Tryz.underlying89 rfl sz89 rfl ⟨Chg.refl _ _, rfl⟩)
  · intro g w1 hR hf hd
    have h1 : (fun (u : Value) (_ : World) => u = Value.agg (List.toArray v.sig.cells)) (g 19) w1 := hd.1 rfl
    have hA1 := Ext.agr hR (show Agr H wb.drew from hAb)
    refine StepT.plain rfl (O.call (fid := 102) (cap := #[]) (args := [Value.agg (List.toArray v.sig.cells)]) rfl rfl (by show [g 19] = _; rw [h1]) Tryz.func102 rfl rfl ?_)
    refine Calls.mono (Sig_calls hA1 r.sig hpl_sig) ?_
    rintro e w2 ⟨v2, rfl, own2, hE2⟩
    refine ⟨v2, rfl, hE2, ?_⟩
    show RB (hfOf w2) v2 (eSig x.sig)
    exact own2.rb
  · intro g w1 hR hf hd
    have hA1 := Ext.agr hR (show Agr H wb.drew from hAb)
    have p5 : (fun (u : Value) (w : World) => RB (hfOf w) u (be8 x.chain)) (g 5) w1 := hd.1 rfl
    have p8 : (fun (u : Value) (w : World) => RB (hfOf w) u (be8 x.epoch)) (g 8) w1 := hd.2.1 rfl
    have p11 : (fun (u : Value) (w : World) => RB (hfOf w) u (be8 x.view)) (g 11) w1 := hd.2.2.1 rfl
    have p14 : (fun (u : Value) (w : World) => RB (hfOf w) u (digB x.block)) (g 14) w1 := hd.2.2.2.1 rfl
    have p17 : (fun (u : Value) (w : World) => RB (hfOf w) u (be8 x.signer)) (g 17) w1 := hd.2.2.2.2.1 rfl
    have p20 : (fun (u : Value) (w : World) => RB (hfOf w) u (eSig x.sig)) (g 20) w1 := hd.2.2.2.2.2.1 rfl
    refine StepT.plain rfl (O.buildSlice (vs := [g 5, g 8, g 11, g 14, g 17, g 20]) rfl rfl rfl Tryz.underlying133 inf22 (fun u hu => cells_size_one ((All2.one (H := hfOf w1) (vs := [g 5, g 8, g 11, g 14, g 17, g 20]) (ps := [be8 x.chain, be8 x.epoch, be8 x.view, digB x.block, be8 x.signer, eSig x.sig]) (.cons p5 (.cons p8 (.cons p11 (.cons p14 (.cons p17 (.cons p20 (.nil)))))))) u hu)) (by decide) ?_)
    intro b2 w2 hb2 hb21 hE2 hblk2
    exact ⟨hE2, rbb_of_blk (ps := [be8 x.chain, be8 x.epoch, be8 x.view, digB x.block, be8 x.signer, eSig x.sig]) hblk2 (.cons (RB.mono p5 (Ext.hle hE2)) (.cons (RB.mono p8 (Ext.hle hE2)) (.cons (RB.mono p11 (Ext.hle hE2)) (.cons (RB.mono p14 (Ext.hle hE2)) (.cons (RB.mono p17 (Ext.hle hE2)) (.cons (RB.mono p20 (Ext.hle hE2)) (.nil))))))) rfl (by decide)⟩
  · intro g w1 hR hf hd
    have h1 : (fun (u : Value) (w : World) => RBB (hfOf w) u [be8 x.chain, be8 x.epoch, be8 x.view, digB x.block, be8 x.signer, eSig x.sig]) (g 21) w1 := hd.1 rfl
    have hA1 := Ext.agr hR (show Agr H wb.drew from hAb)
    refine StepT.plain rfl (O.call (fid := 44) (cap := #[]) (args := [g 21]) rfl rfl rfl Tryz.func44 rfl rfl ?_)
    refine Calls.mono (Join_calls (Agr.hf w1) h1 hlen) ?_
    rintro e w2 ⟨v2, rfl, own2, hE2⟩
    exact ⟨v2, rfl, hE2, (own2.heap fun k hk => hA1.none (own2.base hk).1).lower hR.size⟩
  · intro g w1 hR hf hd
    have h1 : (fun (u : Value) (w : World) => OwnB H w wb.heap.size u (join [be8 x.chain, be8 x.epoch, be8 x.view, digB x.block, be8 x.signer, eSig x.sig])) (g 22) w1 := hd.1 rfl
    exact StepT.plain rfl (O.assign (v := g 22) rfl rfl ⟨Chg.refl _ _, h1⟩)
  intro g w1 hR hf hall
  have own := hall.2.2.2.2.2.2.2.2.2.2.2.2.2.2.2.2.2.2.2.2.1
  refine hK2 _ _ ?_
  try clear hK2 K2
  refine W.ret ?_
  exact retQ_one rfl rfl ⟨_, rfl, own.lower hEb.size, hEb.trans (Chg.trans (Ext.drew wb) hR)⟩

theorem list_Vote_calls {H : Heap} {w : World} {v : Value} {xs : List DVote} (hA : Agr H w) (r : RL 69 cVote H v xs) (hlen : (join (xs.map eVote)).length ≤ 35184372088832) : Calls Tryz.prog 50 #[v, .func (.func 51) #[] #[]] w (RetNew H w (join (xs.map eVote))) := by
  obtain ⟨ao, cap, rfl⟩ := r.form
  have hjl := join_length (xs.map eVote)
  have hge := joinTail_ge (xs.map eVote)
  rw [List.length_map] at hge
  refine calls_of_W (n := 23) Tryz.func50 rfl Tryz.ntmps50 (Nat.le_of_ble_eq_true rfl) ?_
  refine W.seq fun K1 hK1 => ?_
  refine W.region ?_
  refine SeqOps.put 4 rfl rfl rfl (O.assign (v := (.slice none 0 0)) rfl rfl ?_)
  refine SeqOps.nil ?_
  refine hK1 _ _ ?_
  try clear hK1 K1
  refine W.seq fun K2 hK2 => ?_
  refine W.region ?_
  refine SeqOps.put 5 rfl rfl rfl (O.assign (v := (.slice none 0 0)) rfl rfl ?_)
  refine SeqOps.nil ?_
  refine hK2 _ _ ?_
  try clear hK2 K2
  refine W.seq fun K3 hK3 => ?_
  refine W.seq fun K4 hK4 => ?_
  refine W.region ?_
  refine SeqOps.put 8 rfl rfl rfl (O.move (v := (.slice ao xs.length cap)) rfl rfl ?_)
  refine SeqOps.put 9 rfl rfl rfl (O.lenSlice (ad := ao) (n := xs.length) (c := cap) rfl rfl Tryz.underlying31 ?_)
  refine SeqOps.put 10 rfl rfl rfl (O.move (v := (.int .i64 (0))) rfl rfl ?_)
  refine SeqOps.nil ?_
  refine hK4 _ _ ?_
  try clear hK4 K4
  refine W.block ?_
  refine W.loop [1, 5, 8, 9, 10] (fun vals wk => ∃ H' all vs, ∃ k : Nat, vals = [.func (.func 51) #[] #[], all, .slice ao xs.length cap, .int .i64 (xs.length : Int), .int .i64 (k : Int)] ∧ k ≤ xs.length ∧ St H w NoX H' wk ∧ Own H' wk w.heap.size 22 1 all k vs ∧ All2 (RB H') vs ((xs.take k).map eVote)) (fun vals _ => xs.length - (intOf (vals.getD 4 undef)).toNat) ⟨H, _, [], 0, rfl, Nat.zero_le _, St.start _ hA, Own.nil _ _ _ _ _, .nil⟩ ?_
  rintro g _ wk ⟨H', all, vs, k, rfl, hk, st, own, h2⟩
  rcases Nat.lt_or_ge k xs.length with hlt | hge2
  · have hpl := elem_le_joinTail (xs.map eVote) (eVote xs[k]) (List.mem_map.2 ⟨_, by simp, rfl⟩)
    have hr' := RL.mono (R := cVote) cVote.mono r st.le
    obtain ⟨ad, cs, rfl, hcl, hre, hone, hcell⟩ := RL.elem hr' hlt
    replace hcell := hcell (by decide)
    obtain ⟨q, rfl, hre⟩ := hre
    refine W.seq fun K5 hK5 => ?_
    refine W.region ?_
    refine SeqOps.put 11 rfl rfl rfl (O.cmp (a := (k : Int)) (b := (xs.length : Int)) (r := true) rfl rfl rfl (by simp [cmpI]; omega) ?_)
    refine SeqOps.nil ?_
    refine hK5 _ _ ?_
    try clear hK5 K5
    refine W.seq fun K6 hK6 => ?_
    refine W.cond_true rfl ?_
    refine W.skip ?_
    refine hK6 _ _ ?_
    try clear hK6 K6
    refine W.seq fun K7 hK7 => ?_
    refine W.block ?_
    refine W.seq fun K8 hK8 => ?_
    refine W.region ?_
    refine SeqOps.put 12 rfl rfl rfl (O.indexAddr (a := ad) (len := xs.length) (cap := cap) (i := (k : Int)) (sz := 69) (v := .pointer (some (ad.add (k * 69)))) rfl rfl rfl Tryz.underlying31 sz98 (by omega) (by omega) (by simp) ?_)
    refine SeqOps.put 13 rfl rfl rfl (O.loadAgg (a := ad.add (k * 69)) (cs := q.cells) rfl rfl Tryz.underlying98 rfl sz98 (fun j u hu => st.agr.cell (hcell j u hu)) ?_)
    refine SeqOps.put 7 rfl rfl rfl (O.alloc rfl zr98 ?_)
    intro bx wa hbx hbx1 hEa hblk0
    refine SeqOps.eff rfl rfl (O.store (b := bx) (off := 0) (v := .agg (List.toArray q.cells)) (n := 69) (c' := q.cells.toArray) rfl rfl rfl hblk0 sz98 rfl (by decide) (VVote.one hre.ok) rfl ?_)
    intro wb hCb hblk
    have hEb : Ext wk wb := hEa.trans_new hCb fun i hi => .inl (by omega)
    refine SeqOps.nil ?_
    refine hK8 _ _ ?_
    try clear hK8 K8
    refine W.region ?_
    refine SeqOps.put 14 rfl rfl rfl (O.move (v := all) rfl rfl ?_)
    refine SeqOps.put 15 rfl rfl rfl (O.move (v := (.func (.func 51) #[] #[])) rfl rfl ?_)
    refine SeqOps.put 16 rfl rfl rfl (O.loadBlk (b := bx) (off := 0) (cs := q.cells) rfl rfl hblk Tryz.underlying98 rfl sz98 rfl ?_)
    have st1 := st.new hEb
    refine SeqOps.put 17 rfl rfl rfl (O.call (fid := 51) (cap := #[]) (args := [(.agg (List.toArray (q.cells)))]) rfl rfl rfl Tryz.func51 rfl rfl ?_)
    refine Calls.mono (Vote_calls st1.agr hre (by omega)) ?_
    rintro e w2 ⟨o2, rfl, own2, hE2⟩
    have st2 := st1.new hE2
    obtain ⟨H2, hle2, st3, hsame, rb2⟩ := own2.freeze st2 (st1.chg.size)
    have own3 : Own H2 w2 w.heap.size 22 1 all k vs := ((own.ext hEb).ext hE2).heap fun j hj => by rw [hsame j fun e => by have h1 := (own.base hj).2; have h2 := (own2.base e).1; have h3 := hEb.size; omega]; exact own.out j hj
    obtain ⟨aoe, cape, rfl⟩ := RS.form rb2
    refine ⟨_, rfl, ?_⟩
    refine SeqOps.put 18 rfl rfl rfl (O.buildSlice (vs := [(.slice aoe (eVote xs[k]).length cape)]) rfl rfl rfl Tryz.underlying133 inf22 (by intro v hv; simp at hv; subst hv; rfl) (by decide) ?_)
    intro b3 w3 hb3 hb31 hE3 hblk3
    have st4 := st3.new hE3
    refine SeqOps.put 19 rfl rfl rfl (O.append (H := H2) (B := w.heap.size) (v := all) (vx := .slice (some ⟨b3, 0, none⟩) 1 1) (m := 1) (xs := vs) (news := [(.slice aoe (eVote xs[k]).length cape)]) rfl rfl rfl Tryz.underlying133 inf22 rfl (own3.ext hE3) (Own.ofBlk (H := fun _ => none) (B := 0) (s := 1) (xs := [(.slice aoe (eVote xs[k]).length cape)]) hblk3 (Nat.zero_le _) rfl rfl (by decide) (by intro u hu; simp at hu; subst hu; rfl)).rsw rfl (by omega) (by omega) st4.chg.size st4.agr ?_)
    intro o4 w4 own4 hC4
    refine SeqOps.put 5 rfl rfl rfl (O.assign (v := o4) rfl rfl ?_)
    refine SeqOps.nil ?_
    refine hK7 _ _ ?_
    try clear hK7 K7
    refine W.region ?_
    refine SeqOps.put 20 rfl rfl rfl (O.arith (a := (k : Int)) (b := 1) (r := (k : Int) + 1) (c := (k : Int) + 1) rfl rfl rfl rfl (by exact wrap_i64 (by omega) (by omega)) ?_)
    refine SeqOps.put 10 rfl rfl rfl (O.move (v := (.int .i64 ((k : Int) + 1))) rfl rfl ?_)
    refine SeqOps.nil ?_
    refine ⟨⟨H2, o4, _, k + 1, rfl, by omega, st4.step hC4 fun i hi => ⟨.inl ((own3.ext hE3).base hi).1, own3.out i hi⟩, own4, ?_⟩, by show xs.length - ((k + 1 : Nat) : Int).toNat < xs.length - ((k : Nat) : Int).toNat; omega⟩
    rw [List.take_succ_eq_append_getElem hlt, List.map_append]
    exact (h2.imp fun _ _ h => h.mono hle2).snoc rb2
  have hkn : k = xs.length := by omega
  refine W.seq fun K9 hK9 => ?_
  refine W.region ?_
  refine SeqOps.put 11 rfl rfl rfl (O.cmp (a := (k : Int)) (b := (xs.length : Int)) (r := false) rfl rfl rfl (by simp [cmpI]; omega) ?_)
  refine SeqOps.nil ?_
  refine hK9 _ _ ?_
  try clear hK9 K9
  refine W.seq fun K10 hK10 => ?_
  refine W.cond_false rfl ?_
  refine W.exit ?_
  refine hK3 _ _ ?_
  try clear hK3 K3
  refine W.seq fun K11 hK11 => ?_
  refine W.region ?_
  refine SeqOps.put 21 rfl rfl rfl (O.move (v := all) rfl rfl ?_)
  subst hkn
  rw [List.take_length] at h2
  obtain ⟨H3, hle3, st3, _, rs3⟩ := own.freeze st (Nat.le_refl _)
  refine SeqOps.put 22 rfl rfl rfl (O.call (fid := 44) (cap := #[]) (args := [all]) rfl rfl rfl Tryz.func44 rfl rfl ?_)
  refine Calls.mono (Join_calls st3.agr ⟨vs, h2.imp fun _ _ h => h.mono hle3, by rw [List.length_map]; exact rs3⟩ hlen) ?_
  rintro e w5 ⟨o5, rfl, own5, hE5⟩
  refine ⟨_, rfl, ?_⟩
  refine SeqOps.put 4 rfl rfl rfl (O.assign (v := o5) rfl rfl ?_)
  refine SeqOps.nil ?_
  refine hK11 _ _ ?_
  try clear hK11 K11
  refine W.ret ?_
  refine retQ_one rfl rfl ⟨o5, rfl, (own5.heap fun j hj => hA.none (Nat.le_trans st.chg.size (own5.base hj).1)).lower st.chg.size, st.chg.trans hE5⟩

theorem Timeout_calls {H : Heap} {w : World} {v : VTimeout} {x : DTimeout} (hA : Agr H w) (r : RTimeout H v x) (hlen : (eTimeout x).length ≤ 35184372088832) : Calls Tryz.prog 53 #[.agg (List.toArray v.cells)] w (RetNew H w (eTimeout x)) := by
  refine calls_of_W (n := 23) Tryz.func53 rfl Tryz.ntmps53 (Nat.le_of_ble_eq_true rfl) ?_
  have hjl : (eTimeout x).length = _ := join_length _
  have hpl_high : (eQC x.high).length ≤ 35184372088832 := by
    have h1 := elem_le_joinTail [be8 x.chain, be8 x.epoch, be8 x.view, eQC x.high, be8 x.signer, eSig x.sig] (eQC x.high) (show _ ∈ _ by rw [List.mem_iff_getElem?]; exact ⟨3, rfl⟩)
    rw [hjl] at hlen
    exact Nat.le_trans h1 (by omega)
  have hpl_sig : (eSig x.sig).length ≤ 35184372088832 := by
    have h1 := elem_le_joinTail [be8 x.chain, be8 x.epoch, be8 x.view, eQC x.high, be8 x.signer, eSig x.sig] (eSig x.sig) (show _ ∈ _ by rw [List.mem_iff_getElem?]; exact ⟨5, rfl⟩)
    rw [hjl] at hlen
    exact Nat.le_trans h1 (by omega)
  refine W.seq fun K1 hK1 => ?_
  refine W.region ?_
  refine SeqOps.put 1 rfl rfl rfl (O.box (v := (.agg (List.toArray (v.cells)))) rfl rfl ?_)
  intro b wb hb hb1 hEb hblk
  have hAb := Ext.agr hEb hA
  refine SeqOps.put 2 rfl rfl rfl (O.assign (v := (.slice none 0 0)) rfl rfl ?_)
  refine SeqOps.nil ?_
  refine hK1 _ _ ?_
  try clear hK1 K1
  refine W.seq fun K2 hK2 => ?_
  refine W.region_any (by kernel_rfl) (by kernel_rfl) [3, 4, 5, 6, 7, 8, 9, 10, 11, 12, 13, 14, 15, 16, 17, 18, 19, 20, 21, 22, 2] rfl (fun a b => Ext a b) (fun _ => Chg.refl _ _) (fun h k => Chg.trans h k) [
      (fun (u : Value) (_ : World) => u = Value.pointer (some ⟨b, 0, none⟩)),
      (fun (u : Value) (_ : World) => u = Value.int .i64 v.chain),
      (fun (u : Value) (w : World) => RB (hfOf w) u (be8 x.chain)),
      (fun (u : Value) (_ : World) => u = Value.pointer (some ⟨b, 1, none⟩)),
      (fun (u : Value) (_ : World) => u = Value.int .i64 v.epoch),
      (fun (u : Value) (w : World) => RB (hfOf w) u (be8 x.epoch)),
      (fun (u : Value) (_ : World) => u = Value.pointer (some ⟨b, 2, none⟩)),
      (fun (u : Value) (_ : World) => u = Value.int .i64 v.view),
      (fun (u : Value) (w : World) => RB (hfOf w) u (be8 x.view)),
      (fun (u : Value) (_ : World) => u = Value.pointer (some ⟨b, 3, none⟩)),
      (fun (u : Value) (_ : World) => u = Value.agg (List.toArray v.high.cells)),
      (fun (u : Value) (w : World) => RB (hfOf w) u (eQC x.high)),
      (fun (u : Value) (_ : World) => u = Value.pointer (some ⟨b, 40, none⟩)),
      (fun (u : Value) (_ : World) => u = Value.int .i64 v.signer),
      (fun (u : Value) (w : World) => RB (hfOf w) u (be8 x.signer)),
      (fun (u : Value) (_ : World) => u = Value.pointer (some ⟨b, 41, none⟩)),
      (fun (u : Value) (_ : World) => u = Value.agg (List.toArray v.sig.cells)),
      (fun (u : Value) (w : World) => RB (hfOf w) u (eSig x.sig)),
      (fun (u : Value) (w : World) => RBB (hfOf w) u [be8 x.chain, be8 x.epoch, be8 x.view, eQC x.high, be8 x.signer, eSig x.sig]),
      (fun (u : Value) (w : World) => OwnB H w wb.heap.size u (join [be8 x.chain, be8 x.epoch, be8 x.view, eQC x.high, be8 x.signer, eSig x.sig])),
      (fun (u : Value) (w : World) => OwnB H w wb.heap.size u (join [be8 x.chain, be8 x.epoch, be8 x.view, eQC x.high, be8 x.signer, eSig x.sig]))
    ] ⟨fun _ _ _ _ h => h, fun _ _ _ _ h => h, fun _ _ _ hE h => RB.mono h (Ext.hle hE), fun _ _ _ _ h => h, fun _ _ _ _ h => h, fun _ _ _ hE h => RB.mono h (Ext.hle hE), fun _ _ _ _ h => h, fun _ _ _ _ h => h, fun _ _ _ hE h => RB.mono h (Ext.hle hE), fun _ _ _ _ h => h, fun _ _ _ _ h => h, fun _ _ _ hE h => RB.mono h (Ext.hle hE), fun _ _ _ _ h => h, fun _ _ _ _ h => h, fun _ _ _ hE h => RB.mono h (Ext.hle hE), fun _ _ _ _ h => h, fun _ _ _ _ h => h, fun _ _ _ hE h => RB.mono h (Ext.hle hE), fun _ _ _ hE h => RBB.mono h (Ext.hle hE), fun _ _ _ hE h => Own.ext h hE, fun _ _ _ hE h => Own.ext h hE, trivial⟩ ⟨?_, ?_, ?_, ?_, ?_, ?_, ?_, ?_, ?_, ?_, ?_, ?_, ?_, ?_, ?_, ?_, ?_, ?_, ?_, ?_, ?_, trivial⟩ ?_
  · intro g w1 hR hf hd
    have h1 : g 1 = .pointer (some ⟨b, 0, none⟩) := hf 1 (by decide)
    exact StepT.plain rfl (O.fieldAddr (a := ⟨b, 0, none⟩) (v := Value.pointer (some ⟨b, 0, none⟩)) rfl h1 Tryz.underlying105 rfl (by kernel_rfl) rfl ⟨Chg.refl _ _, rfl⟩)
  · intro g w1 hR hf hd
    have h1 : (fun (u : Value) (_ : World) => u = Value.pointer (some ⟨b, 0, none⟩)) (g 3) w1 := hd.1 rfl
    have hblk1 := Ext.blk hR (show wb.drew.heap[b]? = _ from hblk)
    exact StepT.plain rfl (O.loadBlk1 (b := b) (off := 0) (v := Value.int .i64 v.chain) rfl h1 hblk1 Tryz.underlying3 rfl rfl ⟨Chg.refl _ _, rfl⟩)
  · intro g w1 hR hf hd
    have h1 : (fun (u : Value) (_ : World) => u = Value.int .i64 v.chain) (g 4) w1 := hd.1 rfl
    have hA1 := Ext.agr hR (show Agr H wb.drew from hAb)
    refine StepT.plain rfl (O.call (fid := 45) (cap := #[]) (args := [Value.int .i64 v.chain]) rfl rfl (by show [g 4] = _; rw [h1]) Tryz.func45 rfl rfl ?_)
    refine Calls.mono (num_int_calls (n := v.chain) hA1 (by rw [r.chain.1]; exact r.chain.2.1) (by rw [r.chain.1]; exact r.chain.2.2)) ?_
    rintro e w2 ⟨v2, rfl, own2, hE2⟩
    refine ⟨v2, rfl, hE2, ?_⟩
    show RB (hfOf w2) v2 (be8 x.chain)
    rw [← r.chain.1]; exact own2.rb
  · intro g w1 hR hf hd
    have h1 : g 1 = .pointer (some ⟨b, 0, none⟩) := hf 1 (by decide)
    exact StepT.plain rfl (O.fieldAddr (a := ⟨b, 0, none⟩) (v := Value.pointer (some ⟨b, 1, none⟩)) rfl h1 Tryz.underlying105 rfl (by kernel_rfl) rfl ⟨Chg.refl _ _, rfl⟩)
  · intro g w1 hR hf hd
    have h1 : (fun (u : Value) (_ : World) => u = Value.pointer (some ⟨b, 1, none⟩)) (g 6) w1 := hd.1 rfl
    have hblk1 := Ext.blk hR (show wb.drew.heap[b]? = _ from hblk)
    exact StepT.plain rfl (O.loadBlk1 (b := b) (off := 1) (v := Value.int .i64 v.epoch) rfl h1 hblk1 Tryz.underlying3 rfl rfl ⟨Chg.refl _ _, rfl⟩)
  · intro g w1 hR hf hd
    have h1 : (fun (u : Value) (_ : World) => u = Value.int .i64 v.epoch) (g 7) w1 := hd.1 rfl
    have hA1 := Ext.agr hR (show Agr H wb.drew from hAb)
    refine StepT.plain rfl (O.call (fid := 45) (cap := #[]) (args := [Value.int .i64 v.epoch]) rfl rfl (by show [g 7] = _; rw [h1]) Tryz.func45 rfl rfl ?_)
    refine Calls.mono (num_int_calls (n := v.epoch) hA1 (by rw [r.epoch.1]; exact r.epoch.2.1) (by rw [r.epoch.1]; exact r.epoch.2.2)) ?_
    rintro e w2 ⟨v2, rfl, own2, hE2⟩
    refine ⟨v2, rfl, hE2, ?_⟩
    show RB (hfOf w2) v2 (be8 x.epoch)
    rw [← r.epoch.1]; exact own2.rb
  · intro g w1 hR hf hd
    have h1 : g 1 = .pointer (some ⟨b, 0, none⟩) := hf 1 (by decide)
    exact StepT.plain rfl (O.fieldAddr (a := ⟨b, 0, none⟩) (v := Value.pointer (some ⟨b, 2, none⟩)) rfl h1 Tryz.underlying105 rfl (by kernel_rfl) rfl ⟨Chg.refl _ _, rfl⟩)
  · intro g w1 hR hf hd
    have h1 : (fun (u : Value) (_ : World) => u = Value.pointer (some ⟨b, 2, none⟩)) (g 9) w1 := hd.1 rfl
    have hblk1 := Ext.blk hR (show wb.drew.heap[b]? = _ from hblk)
    exact StepT.plain rfl (O.loadBlk1 (b := b) (off := 2) (v := Value.int .i64 v.view) rfl h1 hblk1 Tryz.underlying2 rfl rfl ⟨Chg.refl _ _, rfl⟩)
  · intro g w1 hR hf hd
    have h1 : (fun (u : Value) (_ : World) => u = Value.int .i64 v.view) (g 10) w1 := hd.1 rfl
    have hA1 := Ext.agr hR (show Agr H wb.drew from hAb)
    refine StepT.plain rfl (O.call (fid := 46) (cap := #[]) (args := [Value.int .i64 v.view]) rfl rfl (by show [g 10] = _; rw [h1]) Tryz.func46 rfl rfl ?_)
    refine Calls.mono (num_int64_calls (n := v.view) hA1 (by rw [r.view.1]; exact r.view.2.1) (by rw [r.view.1]; exact r.view.2.2)) ?_
    rintro e w2 ⟨v2, rfl, own2, hE2⟩
    refine ⟨v2, rfl, hE2, ?_⟩
    show RB (hfOf w2) v2 (be8 x.view)
    rw [← r.view.1]; exact own2.rb
  · intro g w1 hR hf hd
    have h1 : g 1 = .pointer (some ⟨b, 0, none⟩) := hf 1 (by decide)
    exact StepT.plain rfl (O.fieldAddr (a := ⟨b, 0, none⟩) (v := Value.pointer (some ⟨b, 3, none⟩)) rfl h1 Tryz.underlying105 rfl (by kernel_rfl) rfl ⟨Chg.refl _ _, rfl⟩)
  · intro g w1 hR hf hd
    have h1 : (fun (u : Value) (_ : World) => u = Value.pointer (some ⟨b, 3, none⟩)) (g 12) w1 := hd.1 rfl
    have hblk1 := Ext.blk hR (show wb.drew.heap[b]? = _ from hblk)
    exact StepT.plain rfl (O.loadBlk (b := b) (off := 3) (cs := v.high.cells) rfl h1 hblk1 Tryz.underlying43 rfl sz43 rfl ⟨Chg.refl _ _, rfl⟩)
  · intro g w1 hR hf hd
    have h1 : (fun (u : Value) (_ : World) => u = Value.agg (List.toArray v.high.cells)) (g 13) w1 := hd.1 rfl
    have hA1 := Ext.agr hR (show Agr H wb.drew from hAb)
    refine StepT.plain rfl (O.call (fid := 101) (cap := #[]) (args := [Value.agg (List.toArray v.high.cells)]) rfl rfl (by show [g 13] = _; rw [h1]) Tryz.func101 rfl rfl ?_)
    refine Calls.mono (QC_calls hA1 r.high hpl_high) ?_
    rintro e w2 ⟨v2, rfl, own2, hE2⟩
    refine ⟨v2, rfl, hE2, ?_⟩
    show RB (hfOf w2) v2 (eQC x.high)
    exact own2.rb
  · intro g w1 hR hf hd
    have h1 : g 1 = .pointer (some ⟨b, 0, none⟩) := hf 1 (by decide)
    exact StepT.plain rfl (O.fieldAddr (a := ⟨b, 0, none⟩) (v := Value.pointer (some ⟨b, 40, none⟩)) rfl h1 Tryz.underlying105 rfl (by kernel_rfl) rfl ⟨Chg.refl _ _, rfl⟩)
  · intro g w1 hR hf hd
    have h1 : (fun (u : Value) (_ : World) => u = Value.pointer (some ⟨b, 40, none⟩)) (g 15) w1 := hd.1 rfl
    have hblk1 := Ext.blk hR (show wb.drew.heap[b]? = _ from hblk)
    exact StepT.plain rfl (O.loadBlk1 (b := b) (off := 40) (v := Value.int .i64 v.signer) rfl h1 hblk1 Tryz.underlying3 rfl rfl ⟨Chg.refl _ _, rfl⟩)
  · intro g w1 hR hf hd
    have h1 : (fun (u : Value) (_ : World) => u = Value.int .i64 v.signer) (g 16) w1 := hd.1 rfl
    have hA1 := Ext.agr hR (show Agr H wb.drew from hAb)
    refine StepT.plain rfl (O.call (fid := 45) (cap := #[]) (args := [Value.int .i64 v.signer]) rfl rfl (by show [g 16] = _; rw [h1]) Tryz.func45 rfl rfl ?_)
    refine Calls.mono (num_int_calls (n := v.signer) hA1 (by rw [r.signer.1]; exact r.signer.2.1) (by rw [r.signer.1]; exact r.signer.2.2)) ?_
    rintro e w2 ⟨v2, rfl, own2, hE2⟩
    refine ⟨v2, rfl, hE2, ?_⟩
    show RB (hfOf w2) v2 (be8 x.signer)
    rw [← r.signer.1]; exact own2.rb
  · intro g w1 hR hf hd
    have h1 : g 1 = .pointer (some ⟨b, 0, none⟩) := hf 1 (by decide)
    exact StepT.plain rfl (O.fieldAddr (a := ⟨b, 0, none⟩) (v := Value.pointer (some ⟨b, 41, none⟩)) rfl h1 Tryz.underlying105 rfl (by kernel_rfl) rfl ⟨Chg.refl _ _, rfl⟩)
  · intro g w1 hR hf hd
    have h1 : (fun (u : Value) (_ : World) => u = Value.pointer (some ⟨b, 41, none⟩)) (g 18) w1 := hd.1 rfl
    have hblk1 := Ext.blk hR (show wb.drew.heap[b]? = _ from hblk)
    exact StepT.plain rfl (O.loadBlk (b := b) (off := 41) (cs := v.sig.cells) rfl h1 hblk1 Tryz.underlying89 rfl sz89 rfl ⟨Chg.refl _ _, rfl⟩)
  · intro g w1 hR hf hd
    have h1 : (fun (u : Value) (_ : World) => u = Value.agg (List.toArray v.sig.cells)) (g 19) w1 := hd.1 rfl
    have hA1 := Ext.agr hR (show Agr H wb.drew from hAb)
    refine StepT.plain rfl (O.call (fid := 102) (cap := #[]) (args := [Value.agg (List.toArray v.sig.cells)]) rfl rfl (by show [g 19] = _; rw [h1]) Tryz.func102 rfl rfl ?_)
    refine Calls.mono (Sig_calls hA1 r.sig hpl_sig) ?_
    rintro e w2 ⟨v2, rfl, own2, hE2⟩
    refine ⟨v2, rfl, hE2, ?_⟩
    show RB (hfOf w2) v2 (eSig x.sig)
    exact own2.rb
  · intro g w1 hR hf hd
    have hA1 := Ext.agr hR (show Agr H wb.drew from hAb)
    have p5 : (fun (u : Value) (w : World) => RB (hfOf w) u (be8 x.chain)) (g 5) w1 := hd.1 rfl
    have p8 : (fun (u : Value) (w : World) => RB (hfOf w) u (be8 x.epoch)) (g 8) w1 := hd.2.1 rfl
    have p11 : (fun (u : Value) (w : World) => RB (hfOf w) u (be8 x.view)) (g 11) w1 := hd.2.2.1 rfl
    have p14 : (fun (u : Value) (w : World) => RB (hfOf w) u (eQC x.high)) (g 14) w1 := hd.2.2.2.1 rfl
    have p17 : (fun (u : Value) (w : World) => RB (hfOf w) u (be8 x.signer)) (g 17) w1 := hd.2.2.2.2.1 rfl
    have p20 : (fun (u : Value) (w : World) => RB (hfOf w) u (eSig x.sig)) (g 20) w1 := hd.2.2.2.2.2.1 rfl
    refine StepT.plain rfl (O.buildSlice (vs := [g 5, g 8, g 11, g 14, g 17, g 20]) rfl rfl rfl Tryz.underlying133 inf22 (fun u hu => cells_size_one ((All2.one (H := hfOf w1) (vs := [g 5, g 8, g 11, g 14, g 17, g 20]) (ps := [be8 x.chain, be8 x.epoch, be8 x.view, eQC x.high, be8 x.signer, eSig x.sig]) (.cons p5 (.cons p8 (.cons p11 (.cons p14 (.cons p17 (.cons p20 (.nil)))))))) u hu)) (by decide) ?_)
    intro b2 w2 hb2 hb21 hE2 hblk2
    exact ⟨hE2, rbb_of_blk (ps := [be8 x.chain, be8 x.epoch, be8 x.view, eQC x.high, be8 x.signer, eSig x.sig]) hblk2 (.cons (RB.mono p5 (Ext.hle hE2)) (.cons (RB.mono p8 (Ext.hle hE2)) (.cons (RB.mono p11 (Ext.hle hE2)) (.cons (RB.mono p14 (Ext.hle hE2)) (.cons (RB.mono p17 (Ext.hle hE2)) (.cons (RB.mono p20 (Ext.hle hE2)) (.nil))))))) rfl (by decide)⟩
  · intro g w1 hR hf hd
    have h1 : (fun (u : Value) (w : World) => RBB (hfOf w) u [be8 x.chain, be8 x.epoch, be8 x.view, eQC x.high, be8 x.signer, eSig x.sig]) (g 21) w1 := hd.1 rfl
    have hA1 := Ext.agr hR (show Agr H wb.drew from hAb)
    refine StepT.plain rfl (O.call (fid := 44) (cap := #[]) (args := [g 21]) rfl rfl rfl Tryz.func44 rfl rfl ?_)
    refine Calls.mono (Join_calls (Agr.hf w1) h1 hlen) ?_
    rintro e w2 ⟨v2, rfl, own2, hE2⟩
    exact ⟨v2, rfl, hE2, (own2.heap fun k hk => hA1.none (own2.base hk).1).lower hR.size⟩
  · intro g w1 hR hf hd
    have h1 : (fun (u : Value) (w : World) => OwnB H w wb.heap.size u (join [be8 x.chain, be8 x.epoch, be8 x.view, eQC x.high, be8 x.signer, eSig x.sig])) (g 22) w1 := hd.1 rfl
    exact StepT.plain rfl (O.assign (v := g 22) rfl rfl ⟨Chg.refl _ _, h1⟩)
  intro g w1 hR hf hall
  have own := hall.2.2.2.2.2.2.2.2.2.2.2.2.2.2.2.2.2.2.2.2.1
  refine hK2 _ _ ?_
  try clear hK2 K2
  refine W.ret ?_
  exact retQ_one rfl rfl ⟨_, rfl, own.lower hEb.size, hEb.trans (Chg.trans (Ext.drew wb) hR)⟩

theorem list_Timeout_calls {H : Heap} {w : World} {v : Value} {xs : List DTimeout} (hA : Agr H w) (r : RL 74 cTimeout H v xs) (hlen : (join (xs.map eTimeout)).length ≤ 35184372088832) : Calls Tryz.prog 52 #[v, .func (.func 53) #[] #[]] w (RetNew H w (join (xs.map eTimeout))) := by
  obtain ⟨ao, cap, rfl⟩ := r.form
  have hjl := join_length (xs.map eTimeout)
  have hge := joinTail_ge (xs.map eTimeout)
  rw [List.length_map] at hge
  refine calls_of_W (n := 23) Tryz.func52 rfl Tryz.ntmps52 (Nat.le_of_ble_eq_true rfl) ?_
  refine W.seq fun K1 hK1 => ?_
  refine W.region ?_
  refine SeqOps.put 4 rfl rfl rfl (O.assign (v := (.slice none 0 0)) rfl rfl ?_)
  refine SeqOps.nil ?_
  refine hK1 _ _ ?_
  try clear hK1 K1
  refine W.seq fun K2 hK2 => ?_
  refine W.region ?_
  refine SeqOps.put 5 rfl rfl rfl (O.assign (v := (.slice none 0 0)) rfl rfl ?_)
  refine SeqOps.nil ?_
  refine hK2 _ _ ?_
  try clear hK2 K2
  refine W.seq fun K3 hK3 => ?_
  refine W.seq fun K4 hK4 => ?_
  refine W.region ?_
  refine SeqOps.put 8 rfl rfl rfl (O.move (v := (.slice ao xs.length cap)) rfl rfl ?_)
  refine SeqOps.put 9 rfl rfl rfl (O.lenSlice (ad := ao) (n := xs.length) (c := cap) rfl rfl Tryz.underlying32 ?_)
  refine SeqOps.put 10 rfl rfl rfl (O.move (v := (.int .i64 (0))) rfl rfl ?_)
  refine SeqOps.nil ?_
  refine hK4 _ _ ?_
  try clear hK4 K4
  refine W.block ?_
  refine W.loop [1, 5, 8, 9, 10] (fun vals wk => ∃ H' all vs, ∃ k : Nat, vals = [.func (.func 53) #[] #[], all, .slice ao xs.length cap, .int .i64 (xs.length : Int), .int .i64 (k : Int)] ∧ k ≤ xs.length ∧ St H w NoX H' wk ∧ Own H' wk w.heap.size 22 1 all k vs ∧ All2 (RB H') vs ((xs.take k).map eTimeout)) (fun vals _ => xs.length - (intOf (vals.getD 4 undef)).toNat) ⟨H, _, [], 0, rfl, Nat.zero_le _, St.start _ hA, Own.nil _ _ _ _ _, .nil⟩ ?_
  rintro g _ wk ⟨H', all, vs, k, rfl, hk, st, own, h2⟩
  rcases Nat.lt_or_ge k xs.length with hlt | hge2
  · have hpl := elem_le_joinTail (xs.map eTimeout) (eTimeout xs[k]) (List.mem_map.2 ⟨_, by simp, rfl⟩)
    have hr' := RL.mono (R := cTimeout) cTimeout.mono r st.le
    obtain ⟨ad, cs, rfl, hcl, hre, hone, hcell⟩ := RL.elem hr' hlt
    replace hcell := hcell (by decide)
    obtain ⟨q, rfl, hre⟩ := hre
    refine W.seq fun K5 hK5 => ?_
    refine W.region ?_
    refine SeqOps.put 11 rfl rfl rfl (O.cmp (a := (k : Int)) (b := (xs.length : Int)) (r := true) rfl rfl rfl (by simp [cmpI]; omega) ?_)
    refine SeqOps.nil ?_
    refine hK5 _ _ ?_
    try clear hK5 K5
    refine W.seq fun K6 hK6 => ?_
    refine W.cond_true rfl ?_
    refine W.skip ?_
    refine hK6 _ _ ?_
    try clear hK6 K6
    refine W.seq fun K7 hK7 => ?_
    refine W.block ?_
    refine W.seq fun K8 hK8 => ?_
    refine W.region ?_
    refine SeqOps.put 12 rfl rfl rfl (O.indexAddr (a := ad) (len := xs.length) (cap := cap) (i := (k : Int)) (sz := 74) (v := .pointer (some (ad.add (k * 74)))) rfl rfl rfl Tryz.underlying32 sz105 (by omega) (by omega) (by simp) ?_)
    refine SeqOps.put 13 rfl rfl rfl (O.loadAgg (a := ad.add (k * 74)) (cs := q.cells) rfl rfl Tryz.underlying105 rfl sz105 (fun j u hu => st.agr.cell (hcell j u hu)) ?_)
    refine SeqOps.put 7 rfl rfl rfl (O.alloc rfl zr105 ?_)
    intro bx wa hbx hbx1 hEa hblk0
    refine SeqOps.eff rfl rfl (O.store (b := bx) (off := 0) (v := .agg (List.toArray q.cells)) (n := 74) (c' := q.cells.toArray) rfl rfl rfl hblk0 sz105 rfl (by decide) (VTimeout.one hre.ok) rfl ?_)
    intro wb hCb hblk
    have hEb : Ext wk wb := hEa.trans_new hCb fun i hi => .inl (by omega)
    refine SeqOps.nil ?_
    refine hK8 _ _ ?_
    try clear hK8 K8
    refine W.region ?_
    refine SeqOps.put 14 rfl rfl rfl (O.move (v := all) rfl rfl ?_)
    refine SeqOps.put 15 rfl rfl rfl (O.move (v := (.func (.func 53) #[] #[])) rfl rfl ?_)
    refine SeqOps.put 16 rfl rfl rfl (O.loadBlk (b := bx) (off := 0) (cs := q.cells) rfl rfl hblk Tryz.underlying105 rfl sz105 rfl ?_)
    have st1 := st.new hEb
    refine SeqOps.put 17 rfl rfl rfl (O.call (fid := 53) (cap := #[]) (args := [(.agg (List.toArray (q.cells)))]) rfl rfl rfl Tryz.func53 rfl rfl ?_)
    refine Calls.mono (Timeout_calls st1.agr hre (by omega)) ?_
    rintro e w2 ⟨o2, rfl, own2, hE2⟩
    have st2 := st1.new hE2
    obtain ⟨H2, hle2, st3, hsame, rb2⟩ := own2.freeze st2 (st1.chg.size)
    have own3 : Own H2 w2 w.heap.size 22 1 all k vs := ((own.ext hEb).ext hE2).heap fun j hj => by rw [hsame j fun e => by have h1 := (own.base hj).2; have h2 := (own2.base e).1; have h3 := hEb.size; omega]; exact own.out j hj
    obtain ⟨aoe, cape, rfl⟩ := RS.form rb2
    refine ⟨_, rfl, ?_⟩
    refine SeqOps.put 18 rfl rfl rfl (O.buildSlice (vs := [(.slice aoe (eTimeout xs[k]).length cape)]) rfl rfl rfl Tryz.underlying133 inf22 (by intro v hv; simp at hv; subst hv; rfl) (by decide) ?_)
    intro b3 w3 hb3 hb31 hE3 hblk3
    have st4 := st3.new hE3
    refine SeqOps.put 19 rfl rfl rfl (O.append (H := H2) (B := w.heap.size) (v := all) (vx := .slice (some ⟨b3, 0, none⟩) 1 1) (m := 1) (xs := vs) (news := [(.slice aoe (eTimeout xs[k]).length cape)]) rfl rfl rfl Tryz.underlying133 inf22 rfl (own3.ext hE3) (Own.ofBlk (H := fun _ => none) (B := 0) (s := 1) (xs := [(.slice aoe (eTimeout xs[k]).length cape)]) hblk3 (Nat.zero_le _) rfl rfl (by decide) (by intro u hu; simp at hu; subst hu; rfl)).rsw rfl (by omega) (by omega) st4.chg.size st4.agr ?_)
    intro o4 w4 own4 hC4
    refine SeqOps.put 5 rfl rfl rfl (O.assign (v := o4) rfl rfl ?_)
    refine SeqOps.nil ?_
    refine hK7 _ _ ?_
    try clear hK7 K7
    refine W.region ?_
    refine SeqOps.put 20 rfl rfl rfl (O.arith (a := (k : Int)) (b := 1) (r := (k : Int) + 1) (c := (k : Int) + 1) rfl rfl rfl rfl (by exact wrap_i64 (by omega) (by omega)) ?_)
    refine SeqOps.put 10 rfl rfl rfl (O.move (v := (.int .i64 ((k : Int) + 1))) rfl rfl ?_)
    refine SeqOps.nil ?_
    refine ⟨⟨H2, o4, _, k + 1, rfl, by omega, st4.step hC4 fun i hi => ⟨.inl ((own3.ext hE3).base hi).1, own3.out i hi⟩, own4, ?_⟩, by show xs.length - ((k + 1 : Nat) : Int).toNat < xs.length - ((k : Nat) : Int).toNat; omega⟩
    rw [List.take_succ_eq_append_getElem hlt, List.map_append]
    exact (h2.imp fun _ _ h => h.mono hle2).snoc rb2
  have hkn : k = xs.length := by omega
  refine W.seq fun K9 hK9 => ?_
  refine W.region ?_
  refine SeqOps.put 11 rfl rfl rfl (O.cmp (a := (k : Int)) (b := (xs.length : Int)) (r := false) rfl rfl rfl (by simp [cmpI]; omega) ?_)
  refine SeqOps.nil ?_
  refine hK9 _ _ ?_
  try clear hK9 K9
  refine W.seq fun K10 hK10 => ?_
  refine W.cond_false rfl ?_
  refine W.exit ?_
  refine hK3 _ _ ?_
  try clear hK3 K3
  refine W.seq fun K11 hK11 => ?_
  refine W.region ?_
  refine SeqOps.put 21 rfl rfl rfl (O.move (v := all) rfl rfl ?_)
  subst hkn
  rw [List.take_length] at h2
  obtain ⟨H3, hle3, st3, _, rs3⟩ := own.freeze st (Nat.le_refl _)
  refine SeqOps.put 22 rfl rfl rfl (O.call (fid := 44) (cap := #[]) (args := [all]) rfl rfl rfl Tryz.func44 rfl rfl ?_)
  refine Calls.mono (Join_calls st3.agr ⟨vs, h2.imp fun _ _ h => h.mono hle3, by rw [List.length_map]; exact rs3⟩ hlen) ?_
  rintro e w5 ⟨o5, rfl, own5, hE5⟩
  refine ⟨_, rfl, ?_⟩
  refine SeqOps.put 4 rfl rfl rfl (O.assign (v := o5) rfl rfl ?_)
  refine SeqOps.nil ?_
  refine hK11 _ _ ?_
  try clear hK11 K11
  refine W.ret ?_
  refine retQ_one rfl rfl ⟨o5, rfl, (own5.heap fun j hj => hA.none (Nat.le_trans st.chg.size (own5.base hj).1)).lower st.chg.size, st.chg.trans hE5⟩

theorem Message_calls {H : Heap} {w : World} {v : VMessage} {x : DMessage} (hA : Agr H w) (r : RMessage H v x) (hlen : (eMessage x).length ≤ 35184372088832) : Calls Tryz.prog 9 #[.agg (List.toArray v.cells)] w (RetNew H w (eMessage x)) := by
  refine calls_of_W (n := 32) Tryz.func9 rfl Tryz.ntmps9 (Nat.le_of_ble_eq_true rfl) ?_
  have hjl : (eMessage x).length = _ := join_length _
  have hpl_blocks : (join (x.blocks.map eBlock)).length ≤ 35184372088832 := by
    have h1 := elem_le_joinTail [be8 x.kind, be8 x.chain, be8 x.height, digB x.digest, join (x.blocks.map eBlock), join (x.votes.map eVote), join (x.timeouts.map eTimeout), join (x.commits.map eCommit), join (x.txs.map eTx)] (join (x.blocks.map eBlock)) (show _ ∈ _ by rw [List.mem_iff_getElem?]; exact ⟨4, rfl⟩)
    rw [hjl] at hlen
    exact Nat.le_trans h1 (by omega)
  have hpl_votes : (join (x.votes.map eVote)).length ≤ 35184372088832 := by
    have h1 := elem_le_joinTail [be8 x.kind, be8 x.chain, be8 x.height, digB x.digest, join (x.blocks.map eBlock), join (x.votes.map eVote), join (x.timeouts.map eTimeout), join (x.commits.map eCommit), join (x.txs.map eTx)] (join (x.votes.map eVote)) (show _ ∈ _ by rw [List.mem_iff_getElem?]; exact ⟨5, rfl⟩)
    rw [hjl] at hlen
    exact Nat.le_trans h1 (by omega)
  have hpl_timeouts : (join (x.timeouts.map eTimeout)).length ≤ 35184372088832 := by
    have h1 := elem_le_joinTail [be8 x.kind, be8 x.chain, be8 x.height, digB x.digest, join (x.blocks.map eBlock), join (x.votes.map eVote), join (x.timeouts.map eTimeout), join (x.commits.map eCommit), join (x.txs.map eTx)] (join (x.timeouts.map eTimeout)) (show _ ∈ _ by rw [List.mem_iff_getElem?]; exact ⟨6, rfl⟩)
    rw [hjl] at hlen
    exact Nat.le_trans h1 (by omega)
  have hpl_commits : (join (x.commits.map eCommit)).length ≤ 35184372088832 := by
    have h1 := elem_le_joinTail [be8 x.kind, be8 x.chain, be8 x.height, digB x.digest, join (x.blocks.map eBlock), join (x.votes.map eVote), join (x.timeouts.map eTimeout), join (x.commits.map eCommit), join (x.txs.map eTx)] (join (x.commits.map eCommit)) (show _ ∈ _ by rw [List.mem_iff_getElem?]; exact ⟨7, rfl⟩)
    rw [hjl] at hlen
    exact Nat.le_trans h1 (by omega)
  have hpl_txs : (join (x.txs.map eTx)).length ≤ 35184372088832 := by
    have h1 := elem_le_joinTail [be8 x.kind, be8 x.chain, be8 x.height, digB x.digest, join (x.blocks.map eBlock), join (x.votes.map eVote), join (x.timeouts.map eTimeout), join (x.commits.map eCommit), join (x.txs.map eTx)] (join (x.txs.map eTx)) (show _ ∈ _ by rw [List.mem_iff_getElem?]; exact ⟨8, rfl⟩)
    rw [hjl] at hlen
    exact Nat.le_trans h1 (by omega)
  refine W.seq fun K1 hK1 => ?_
  refine W.region ?_
  refine SeqOps.put 1 rfl rfl rfl (O.box (v := (.agg (List.toArray (v.cells)))) rfl rfl ?_)
  intro b wb hb hb1 hEb hblk
  have hAb := Ext.agr hEb hA
  refine SeqOps.put 2 rfl rfl rfl (O.assign (v := (.slice none 0 0)) rfl rfl ?_)
  refine SeqOps.nil ?_
  refine hK1 _ _ ?_
  try clear hK1 K1
  refine W.seq fun K2 hK2 => ?_
  refine W.region_any (by kernel_rfl) (by kernel_rfl) [3, 4, 5, 6, 7, 8, 9, 10, 11, 12, 13, 14, 15, 16, 17, 18, 19, 20, 21, 22, 23, 24, 25, 26, 27, 28, 29, 30, 31, 2] rfl (fun a b => Ext a b) (fun _ => Chg.refl _ _) (fun h k => Chg.trans h k) [
      (fun (u : Value) (_ : World) => u = Value.pointer (some ⟨b, 0, none⟩)),
      (fun (u : Value) (_ : World) => u = Value.int .i64 v.kind),
      (fun (u : Value) (w : World) => RB (hfOf w) u (be8 x.kind)),
      (fun (u : Value) (_ : World) => u = Value.pointer (some ⟨b, 1, none⟩)),
      (fun (u : Value) (_ : World) => u = Value.int .i64 v.chain),
      (fun (u : Value) (w : World) => RB (hfOf w) u (be8 x.chain)),
      (fun (u : Value) (_ : World) => u = Value.pointer (some ⟨b, 2, none⟩)),
      (fun (u : Value) (_ : World) => u = Value.int .i64 v.height),
      (fun (u : Value) (w : World) => RB (hfOf w) u (be8 x.height)),
      (fun (u : Value) (_ : World) => u = Value.pointer (some ⟨b, 3, none⟩)),
      (fun (u : Value) (_ : World) => u = Value.agg (List.toArray (digC v.digest))),
      (fun (u : Value) (w : World) => RB (hfOf w) u (digB x.digest)),
      (fun (u : Value) (_ : World) => u = Value.pointer (some ⟨b, 35, none⟩)),
      (fun (u : Value) (_ : World) => u = v.blocks),
      (fun (u : Value) (w : World) => RB (hfOf w) u (join (x.blocks.map eBlock))),
      (fun (u : Value) (_ : World) => u = Value.pointer (some ⟨b, 36, none⟩)),
      (fun (u : Value) (_ : World) => u = v.votes),
      (fun (u : Value) (w : World) => RB (hfOf w) u (join (x.votes.map eVote))),
      (fun (u : Value) (_ : World) => u = Value.pointer (some ⟨b, 37, none⟩)),
      (fun (u : Value) (_ : World) => u = v.timeouts),
      (fun (u : Value) (w : World) => RB (hfOf w) u (join (x.timeouts.map eTimeout))),
      (fun (u : Value) (_ : World) => u = Value.pointer (some ⟨b, 38, none⟩)),
      (fun (u : Value) (_ : World) => u = v.commits),
      (fun (u : Value) (w : World) => RB (hfOf w) u (join (x.commits.map eCommit))),
      (fun (u : Value) (_ : World) => u = Value.pointer (some ⟨b, 39, none⟩)),
      (fun (u : Value) (_ : World) => u = v.txs),
      (fun (u : Value) (w : World) => RB (hfOf w) u (join (x.txs.map eTx))),
      (fun (u : Value) (w : World) => RBB (hfOf w) u [be8 x.kind, be8 x.chain, be8 x.height, digB x.digest, join (x.blocks.map eBlock), join (x.votes.map eVote), join (x.timeouts.map eTimeout), join (x.commits.map eCommit), join (x.txs.map eTx)]),
      (fun (u : Value) (w : World) => OwnB H w wb.heap.size u (join [be8 x.kind, be8 x.chain, be8 x.height, digB x.digest, join (x.blocks.map eBlock), join (x.votes.map eVote), join (x.timeouts.map eTimeout), join (x.commits.map eCommit), join (x.txs.map eTx)])),
      (fun (u : Value) (w : World) => OwnB H w wb.heap.size u (join [be8 x.kind, be8 x.chain, be8 x.height, digB x.digest, join (x.blocks.map eBlock), join (x.votes.map eVote), join (x.timeouts.map eTimeout), join (x.commits.map eCommit), join (x.txs.map eTx)]))
    ] ⟨fun _ _ _ _ h => h, fun _ _ _ _ h => h, fun _ _ _ hE h => RB.mono h (Ext.hle hE), fun _ _ _ _ h => h, fun _ _ _ _ h => h, fun _ _ _ hE h => RB.mono h (Ext.hle hE), fun _ _ _ _ h => h, fun _ _ _ _ h => h, fun _ _ _ hE h => RB.mono h (Ext.hle hE), fun _ _ _ _ h => h, fun _ _ _ _ h => h, fun _ _ _ hE h => RB.mono h (Ext.hle hE), fun _ _ _ _ h => h, fun _ _ _ _ h => h, fun _ _ _ hE h => RB.mono h (Ext.hle hE), fun _ _ _ _ h => h, fun _ _ _ _ h => h, fun _ _ _ hE h => RB.mono h (Ext.hle hE), fun _ _ _ _ h => h, fun _ _ _ _ h => h, fun _ _ _ hE h => RB.mono h (Ext.hle hE), fun _ _ _ _ h => h, fun _ _ _ _ h => h, fun _ _ _ hE h => RB.mono h (Ext.hle hE), fun _ _ _ _ h => h, fun _ _ _ _ h => h, fun _ _ _ hE h => RB.mono h (Ext.hle hE), fun _ _ _ hE h => RBB.mono h (Ext.hle hE), fun _ _ _ hE h => Own.ext h hE, fun _ _ _ hE h => Own.ext h hE, trivial⟩ ⟨?_, ?_, ?_, ?_, ?_, ?_, ?_, ?_, ?_, ?_, ?_, ?_, ?_, ?_, ?_, ?_, ?_, ?_, ?_, ?_, ?_, ?_, ?_, ?_, ?_, ?_, ?_, ?_, ?_, ?_, trivial⟩ ?_
  · intro g w1 hR hf hd
    have h1 : g 1 = .pointer (some ⟨b, 0, none⟩) := hf 1 (by decide)
    exact StepT.plain rfl (O.fieldAddr (a := ⟨b, 0, none⟩) (v := Value.pointer (some ⟨b, 0, none⟩)) rfl h1 Tryz.underlying36 rfl (by kernel_rfl) rfl ⟨Chg.refl _ _, rfl⟩)
  · intro g w1 hR hf hd
    have h1 : (fun (u : Value) (_ : World) => u = Value.pointer (some ⟨b, 0, none⟩)) (g 3) w1 := hd.1 rfl
    have hblk1 := Ext.blk hR (show wb.drew.heap[b]? = _ from hblk)
    exact StepT.plain rfl (O.loadBlk1 (b := b) (off := 0) (v := Value.int .i64 v.kind) rfl h1 hblk1 Tryz.underlying3 rfl rfl ⟨Chg.refl _ _, rfl⟩)
  · intro g w1 hR hf hd
    have h1 : (fun (u : Value) (_ : World) => u = Value.int .i64 v.kind) (g 4) w1 := hd.1 rfl
    have hA1 := Ext.agr hR (show Agr H wb.drew from hAb)
    refine StepT.plain rfl (O.call (fid := 45) (cap := #[]) (args := [Value.int .i64 v.kind]) rfl rfl (by show [g 4] = _; rw [h1]) Tryz.func45 rfl rfl ?_)
    refine Calls.mono (num_int_calls (n := v.kind) hA1 (by rw [r.kind.1]; exact r.kind.2.1) (by rw [r.kind.1]; exact r.kind.2.2)) ?_
    rintro e w2 ⟨v2, rfl, own2, hE2⟩
    refine ⟨v2, rfl, hE2, ?_⟩
    show RB (hfOf w2) v2 (be8 x.kind)
    rw [← r.kind.1]; exact own2.rb
  · intro g w1 hR hf hd
    have h1 : g 1 = .pointer (some ⟨b, 0, none⟩) := hf 1 (by decide)
    exact StepT.plain rfl (O.fieldAddr (a := ⟨b, 0, none⟩) (v := Value.pointer (some ⟨b, 1, none⟩)) rfl h1 Tryz.underlying36 rfl (by kernel_rfl) rfl ⟨Chg.refl _ _, rfl⟩)
  · intro g w1 hR hf hd
    have h1 : (fun (u : Value) (_ : World) => u = Value.pointer (some ⟨b, 1, none⟩)) (g 6) w1 := hd.1 rfl
    have hblk1 := Ext.blk hR (show wb.drew.heap[b]? = _ from hblk)
    exact StepT.plain rfl (O.loadBlk1 (b := b) (off := 1) (v := Value.int .i64 v.chain) rfl h1 hblk1 Tryz.underlying3 rfl rfl ⟨Chg.refl _ _, rfl⟩)
  · intro g w1 hR hf hd
    have h1 : (fun (u : Value) (_ : World) => u = Value.int .i64 v.chain) (g 7) w1 := hd.1 rfl
    have hA1 := Ext.agr hR (show Agr H wb.drew from hAb)
    refine StepT.plain rfl (O.call (fid := 45) (cap := #[]) (args := [Value.int .i64 v.chain]) rfl rfl (by show [g 7] = _; rw [h1]) Tryz.func45 rfl rfl ?_)
    refine Calls.mono (num_int_calls (n := v.chain) hA1 (by rw [r.chain.1]; exact r.chain.2.1) (by rw [r.chain.1]; exact r.chain.2.2)) ?_
    rintro e w2 ⟨v2, rfl, own2, hE2⟩
    refine ⟨v2, rfl, hE2, ?_⟩
    show RB (hfOf w2) v2 (be8 x.chain)
    rw [← r.chain.1]; exact own2.rb
  · intro g w1 hR hf hd
    have h1 : g 1 = .pointer (some ⟨b, 0, none⟩) := hf 1 (by decide)
    exact StepT.plain rfl (O.fieldAddr (a := ⟨b, 0, none⟩) (v := Value.pointer (some ⟨b, 2, none⟩)) rfl h1 Tryz.underlying36 rfl (by kernel_rfl) rfl ⟨Chg.refl _ _, rfl⟩)
  · intro g w1 hR hf hd
    have h1 : (fun (u : Value) (_ : World) => u = Value.pointer (some ⟨b, 2, none⟩)) (g 9) w1 := hd.1 rfl
    have hblk1 := Ext.blk hR (show wb.drew.heap[b]? = _ from hblk)
    exact StepT.plain rfl (O.loadBlk1 (b := b) (off := 2) (v := Value.int .i64 v.height) rfl h1 hblk1 Tryz.underlying2 rfl rfl ⟨Chg.refl _ _, rfl⟩)
  · intro g w1 hR hf hd
    have h1 : (fun (u : Value) (_ : World) => u = Value.int .i64 v.height) (g 10) w1 := hd.1 rfl
    have hA1 := Ext.agr hR (show Agr H wb.drew from hAb)
    refine StepT.plain rfl (O.call (fid := 46) (cap := #[]) (args := [Value.int .i64 v.height]) rfl rfl (by show [g 10] = _; rw [h1]) Tryz.func46 rfl rfl ?_)
    refine Calls.mono (num_int64_calls (n := v.height) hA1 (by rw [r.height.1]; exact r.height.2.1) (by rw [r.height.1]; exact r.height.2.2)) ?_
    rintro e w2 ⟨v2, rfl, own2, hE2⟩
    refine ⟨v2, rfl, hE2, ?_⟩
    show RB (hfOf w2) v2 (be8 x.height)
    rw [← r.height.1]; exact own2.rb
  · intro g w1 hR hf hd
    have h1 : g 1 = .pointer (some ⟨b, 0, none⟩) := hf 1 (by decide)
    exact StepT.plain rfl (O.fieldAddr (a := ⟨b, 0, none⟩) (v := Value.pointer (some ⟨b, 3, none⟩)) rfl h1 Tryz.underlying36 rfl (by kernel_rfl) rfl ⟨Chg.refl _ _, rfl⟩)
  · intro g w1 hR hf hd
    have h1 : (fun (u : Value) (_ : World) => u = Value.pointer (some ⟨b, 3, none⟩)) (g 12) w1 := hd.1 rfl
    have hblk1 := Ext.blk hR (show wb.drew.heap[b]? = _ from hblk)
    exact StepT.plain rfl (O.loadBlk (b := b) (off := 3) (cs := digC v.digest) rfl h1 hblk1 Tryz.underlying29 rfl sz29 rfl ⟨Chg.refl _ _, rfl⟩)
  · intro g w1 hR hf hd
    have h1 : (fun (u : Value) (_ : World) => u = Value.agg (List.toArray (digC v.digest))) (g 13) w1 := hd.1 rfl
    have hA1 := Ext.agr hR (show Agr H wb.drew from hAb)
    refine StepT.plain rfl (O.call (fid := 47) (cap := #[]) (args := [Value.agg (List.toArray (digC v.digest))]) rfl rfl (by show [g 13] = _; rw [h1]) Tryz.func47 rfl rfl ?_)
    refine Calls.mono (digest_calls v.digest) ?_
    rintro e w2 ⟨v2, rfl, rb2, hE2⟩
    refine ⟨v2, rfl, hE2, ?_⟩
    show RB (hfOf w2) v2 (digB x.digest)
    rw [← r.digest]; exact rb2
  · intro g w1 hR hf hd
    have h1 : g 1 = .pointer (some ⟨b, 0, none⟩) := hf 1 (by decide)
    exact StepT.plain rfl (O.fieldAddr (a := ⟨b, 0, none⟩) (v := Value.pointer (some ⟨b, 35, none⟩)) rfl h1 Tryz.underlying36 rfl (by kernel_rfl) rfl ⟨Chg.refl _ _, rfl⟩)
  · intro g w1 hR hf hd
    have h1 : (fun (u : Value) (_ : World) => u = Value.pointer (some ⟨b, 35, none⟩)) (g 15) w1 := hd.1 rfl
    have hblk1 := Ext.blk hR (show wb.drew.heap[b]? = _ from hblk)
    exact StepT.plain rfl (O.loadBlk1 (b := b) (off := 35) (v := v.blocks) rfl h1 hblk1 Tryz.underlying30 rfl rfl ⟨Chg.refl _ _, rfl⟩)
  · intro g w1 hR hf hd
    have h1 : (fun (u : Value) (_ : World) => u = v.blocks) (g 16) w1 := hd.1 rfl
    have hA1 := Ext.agr hR (show Agr H wb.drew from hAb)
    refine StepT.plain rfl (O.call (fid := 48) (cap := #[]) (args := [v.blocks, (.func (.func 49) #[] #[])]) rfl rfl (by show [g 16, (.func (.func 49) #[] #[])] = _; rw [h1]) Tryz.func48 rfl rfl ?_)
    refine Calls.mono (list_Block_calls hA1 r.blocks hpl_blocks) ?_
    rintro e w2 ⟨v2, rfl, own2, hE2⟩
    refine ⟨v2, rfl, hE2, ?_⟩
    show RB (hfOf w2) v2 (join (x.blocks.map eBlock))
    exact own2.rb
  · intro g w1 hR hf hd
    have h1 : g 1 = .pointer (some ⟨b, 0, none⟩) := hf 1 (by decide)
    exact StepT.plain rfl (O.fieldAddr (a := ⟨b, 0, none⟩) (v := Value.pointer (some ⟨b, 36, none⟩)) rfl h1 Tryz.underlying36 rfl (by kernel_rfl) rfl ⟨Chg.refl _ _, rfl⟩)
  · intro g w1 hR hf hd
    have h1 : (fun (u : Value) (_ : World) => u = Value.pointer (some ⟨b, 36, none⟩)) (g 18) w1 := hd.1 rfl
    have hblk1 := Ext.blk hR (show wb.drew.heap[b]? = _ from hblk)
    exact StepT.plain rfl (O.loadBlk1 (b := b) (off := 36) (v := v.votes) rfl h1 hblk1 Tryz.underlying31 rfl rfl ⟨Chg.refl _ _, rfl⟩)
  · intro g w1 hR hf hd
    have h1 : (fun (u : Value) (_ : World) => u = v.votes) (g 19) w1 := hd.1 rfl
    have hA1 := Ext.agr hR (show Agr H wb.drew from hAb)
    refine StepT.plain rfl (O.call (fid := 50) (cap := #[]) (args := [v.votes, (.func (.func 51) #[] #[])]) rfl rfl (by show [g 19, (.func (.func 51) #[] #[])] = _; rw [h1]) Tryz.func50 rfl rfl ?_)
    refine Calls.mono (list_Vote_calls hA1 r.votes hpl_votes) ?_
    rintro e w2 ⟨v2, rfl, own2, hE2⟩
    refine ⟨v2, rfl, hE2, ?_⟩
    show RB (hfOf w2) v2 (join (x.votes.map eVote))
    exact own2.rb
  · intro g w1 hR hf hd
    have h1 : g 1 = .pointer (some ⟨b, 0, none⟩) := hf 1 (by decide)
    exact StepT.plain rfl (O.fieldAddr (a := ⟨b, 0, none⟩) (v := Value.pointer (some ⟨b, 37, none⟩)) rfl h1 Tryz.underlying36 rfl (by kernel_rfl) rfl ⟨Chg.refl _ _, rfl⟩)
  · intro g w1 hR hf hd
    have h1 : (fun (u : Value) (_ : World) => u = Value.pointer (some ⟨b, 37, none⟩)) (g 21) w1 := hd.1 rfl
    have hblk1 := Ext.blk hR (show wb.drew.heap[b]? = _ from hblk)
    exact StepT.plain rfl (O.loadBlk1 (b := b) (off := 37) (v := v.timeouts) rfl h1 hblk1 Tryz.underlying32 rfl rfl ⟨Chg.refl _ _, rfl⟩)
  · intro g w1 hR hf hd
    have h1 : (fun (u : Value) (_ : World) => u = v.timeouts) (g 22) w1 := hd.1 rfl
    have hA1 := Ext.agr hR (show Agr H wb.drew from hAb)
    refine StepT.plain rfl (O.call (fid := 52) (cap := #[]) (args := [v.timeouts, (.func (.func 53) #[] #[])]) rfl rfl (by show [g 22, (.func (.func 53) #[] #[])] = _; rw [h1]) Tryz.func52 rfl rfl ?_)
    refine Calls.mono (list_Timeout_calls hA1 r.timeouts hpl_timeouts) ?_
    rintro e w2 ⟨v2, rfl, own2, hE2⟩
    refine ⟨v2, rfl, hE2, ?_⟩
    show RB (hfOf w2) v2 (join (x.timeouts.map eTimeout))
    exact own2.rb
  · intro g w1 hR hf hd
    have h1 : g 1 = .pointer (some ⟨b, 0, none⟩) := hf 1 (by decide)
    exact StepT.plain rfl (O.fieldAddr (a := ⟨b, 0, none⟩) (v := Value.pointer (some ⟨b, 38, none⟩)) rfl h1 Tryz.underlying36 rfl (by kernel_rfl) rfl ⟨Chg.refl _ _, rfl⟩)
  · intro g w1 hR hf hd
    have h1 : (fun (u : Value) (_ : World) => u = Value.pointer (some ⟨b, 38, none⟩)) (g 24) w1 := hd.1 rfl
    have hblk1 := Ext.blk hR (show wb.drew.heap[b]? = _ from hblk)
    exact StepT.plain rfl (O.loadBlk1 (b := b) (off := 38) (v := v.commits) rfl h1 hblk1 Tryz.underlying33 rfl rfl ⟨Chg.refl _ _, rfl⟩)
  · intro g w1 hR hf hd
    have h1 : (fun (u : Value) (_ : World) => u = v.commits) (g 25) w1 := hd.1 rfl
    have hA1 := Ext.agr hR (show Agr H wb.drew from hAb)
    refine StepT.plain rfl (O.call (fid := 54) (cap := #[]) (args := [v.commits, (.func (.func 55) #[] #[])]) rfl rfl (by show [g 25, (.func (.func 55) #[] #[])] = _; rw [h1]) Tryz.func54 rfl rfl ?_)
    refine Calls.mono (list_Commit_calls hA1 r.commits hpl_commits) ?_
    rintro e w2 ⟨v2, rfl, own2, hE2⟩
    refine ⟨v2, rfl, hE2, ?_⟩
    show RB (hfOf w2) v2 (join (x.commits.map eCommit))
    exact own2.rb
  · intro g w1 hR hf hd
    have h1 : g 1 = .pointer (some ⟨b, 0, none⟩) := hf 1 (by decide)
    exact StepT.plain rfl (O.fieldAddr (a := ⟨b, 0, none⟩) (v := Value.pointer (some ⟨b, 39, none⟩)) rfl h1 Tryz.underlying36 rfl (by kernel_rfl) rfl ⟨Chg.refl _ _, rfl⟩)
  · intro g w1 hR hf hd
    have h1 : (fun (u : Value) (_ : World) => u = Value.pointer (some ⟨b, 39, none⟩)) (g 27) w1 := hd.1 rfl
    have hblk1 := Ext.blk hR (show wb.drew.heap[b]? = _ from hblk)
    exact StepT.plain rfl (O.loadBlk1 (b := b) (off := 39) (v := v.txs) rfl h1 hblk1 Tryz.underlying34 rfl rfl ⟨Chg.refl _ _, rfl⟩)
  · intro g w1 hR hf hd
    have h1 : (fun (u : Value) (_ : World) => u = v.txs) (g 28) w1 := hd.1 rfl
    have hA1 := Ext.agr hR (show Agr H wb.drew from hAb)
    refine StepT.plain rfl (O.call (fid := 56) (cap := #[]) (args := [v.txs, (.func (.func 57) #[] #[])]) rfl rfl (by show [g 28, (.func (.func 57) #[] #[])] = _; rw [h1]) Tryz.func56 rfl rfl ?_)
    refine Calls.mono (list_Tx_calls hA1 r.txs hpl_txs) ?_
    rintro e w2 ⟨v2, rfl, own2, hE2⟩
    refine ⟨v2, rfl, hE2, ?_⟩
    show RB (hfOf w2) v2 (join (x.txs.map eTx))
    exact own2.rb
  · intro g w1 hR hf hd
    have hA1 := Ext.agr hR (show Agr H wb.drew from hAb)
    have p5 : (fun (u : Value) (w : World) => RB (hfOf w) u (be8 x.kind)) (g 5) w1 := hd.1 rfl
    have p8 : (fun (u : Value) (w : World) => RB (hfOf w) u (be8 x.chain)) (g 8) w1 := hd.2.1 rfl
    have p11 : (fun (u : Value) (w : World) => RB (hfOf w) u (be8 x.height)) (g 11) w1 := hd.2.2.1 rfl
    have p14 : (fun (u : Value) (w : World) => RB (hfOf w) u (digB x.digest)) (g 14) w1 := hd.2.2.2.1 rfl
    have p17 : (fun (u : Value) (w : World) => RB (hfOf w) u (join (x.blocks.map eBlock))) (g 17) w1 := hd.2.2.2.2.1 rfl
    have p20 : (fun (u : Value) (w : World) => RB (hfOf w) u (join (x.votes.map eVote))) (g 20) w1 := hd.2.2.2.2.2.1 rfl
    have p23 : (fun (u : Value) (w : World) => RB (hfOf w) u (join (x.timeouts.map eTimeout))) (g 23) w1 := hd.2.2.2.2.2.2.1 rfl
    have p26 : (fun (u : Value) (w : World) => RB (hfOf w) u (join (x.commits.map eCommit))) (g 26) w1 := hd.2.2.2.2.2.2.2.1 rfl
    have p29 : (fun (u : Value) (w : World) => RB (hfOf w) u (join (x.txs.map eTx))) (g 29) w1 := hd.2.2.2.2.2.2.2.2.1 rfl
    refine StepT.plain rfl (O.buildSlice (vs := [g 5, g 8, g 11, g 14, g 17, g 20, g 23, g 26, g 29]) rfl rfl rfl Tryz.underlying133 inf22 (fun u hu => cells_size_one ((All2.one (H := hfOf w1) (vs := [g 5, g 8, g 11, g 14, g 17, g 20, g 23, g 26, g 29]) (ps := [be8 x.kind, be8 x.chain, be8 x.height, digB x.digest, join (x.blocks.map eBlock), join (x.votes.map eVote), join (x.timeouts.map eTimeout), join (x.commits.map eCommit), join (x.txs.map eTx)]) (.cons p5 (.cons p8 (.cons p11 (.cons p14 (.cons p17 (.cons p20 (.cons p23 (.cons p26 (.cons p29 (.nil))))))))))) u hu)) (by decide) ?_)
    intro b2 w2 hb2 hb21 hE2 hblk2
    exact ⟨hE2, rbb_of_blk (ps := [be8 x.kind, be8 x.chain, be8 x.height, digB x.digest, join (x.blocks.map eBlock), join (x.votes.map eVote), join (x.timeouts.map eTimeout), join (x.commits.map eCommit), join (x.txs.map eTx)]) hblk2 (.cons (RB.mono p5 (Ext.hle hE2)) (.cons (RB.mono p8 (Ext.hle hE2)) (.cons (RB.mono p11 (Ext.hle hE2)) (.cons (RB.mono p14 (Ext.hle hE2)) (.cons (RB.mono p17 (Ext.hle hE2)) (.cons (RB.mono p20 (Ext.hle hE2)) (.cons (RB.mono p23 (Ext.hle hE2)) (.cons (RB.mono p26 (Ext.hle hE2)) (.cons (RB.mono p29 (Ext.hle hE2)) (.nil)))))))))) rfl (by decide)⟩
  · intro g w1 hR hf hd
    have h1 : (fun (u : Value) (w : World) => RBB (hfOf w) u [be8 x.kind, be8 x.chain, be8 x.height, digB x.digest, join (x.blocks.map eBlock), join (x.votes.map eVote), join (x.timeouts.map eTimeout), join (x.commits.map eCommit), join (x.txs.map eTx)]) (g 30) w1 := hd.1 rfl
    have hA1 := Ext.agr hR (show Agr H wb.drew from hAb)
    refine StepT.plain rfl (O.call (fid := 44) (cap := #[]) (args := [g 30]) rfl rfl rfl Tryz.func44 rfl rfl ?_)
    refine Calls.mono (Join_calls (Agr.hf w1) h1 hlen) ?_
    rintro e w2 ⟨v2, rfl, own2, hE2⟩
    exact ⟨v2, rfl, hE2, (own2.heap fun k hk => hA1.none (own2.base hk).1).lower hR.size⟩
  · intro g w1 hR hf hd
    have h1 : (fun (u : Value) (w : World) => OwnB H w wb.heap.size u (join [be8 x.kind, be8 x.chain, be8 x.height, digB x.digest, join (x.blocks.map eBlock), join (x.votes.map eVote), join (x.timeouts.map eTimeout), join (x.commits.map eCommit), join (x.txs.map eTx)])) (g 31) w1 := hd.1 rfl
    exact StepT.plain rfl (O.assign (v := g 31) rfl rfl ⟨Chg.refl _ _, h1⟩)
  intro g w1 hR hf hall
  have own := hall.2.2.2.2.2.2.2.2.2.2.2.2.2.2.2.2.2.2.2.2.2.2.2.2.2.2.2.2.2.1
  refine hK2 _ _ ?_
  try clear hK2 K2
  refine W.ret ?_
  exact retQ_one rfl rfl ⟨_, rfl, own.lower hEb.size, hEb.trans (Chg.trans (Ext.drew wb) hR)⟩

end Go.Proofs.YtddpmpbngcbokaaGreatDoor

/- codec's readers, the second half. -/
import Derived.Test.YtddpmpbngcbokaaGreatDoorReadA
namespace Go.Proofs.YtddpmpbngcbokaaGreatDoor
open Go Go.RowKit
set_option maxRecDepth 100000
def wfFact (v : Value) : Prop := ∃ q : VFact, v = .agg (List.toArray q.cells) ∧ q.ok
def phFact (N : Heap) (v : Value) (y : DFact) : Prop := ∃ q : VFact, v = .agg (List.toArray q.cells) ∧ RFact N q y
set_option maxHeartbeats 1000000 in
theorem read_Fact_calls {a : Addr} {H : Heap} {w : World} {v : Value} {bs : List UInt8} (hA : Agr H w) (hG : hcell H ⟨1, 0, none⟩ = some (eS a)) (r : RB H v bs) (hlen : bs.length ≤ 1099511627776) :
    Calls Tryz.prog 43 #[v] w (RetRd a dFact wfFact phFact w bs) := by
  refine calls_of_W (n := 24) Tryz.func43 rfl Tryz.ntmps43 (Nat.le_of_ble_eq_true rfl) ?_
  refine W.seq fun K1 hK1 => ?_
  refine W.region ?_
  refine SeqOps.put 2 rfl rfl rfl (O.alloc rfl zr47 ?_)
  intro br w0 hbr hbr1 hE0 hk0
  refine SeqOps.put 3 rfl rfl rfl (O.assign (v := .nilIface) rfl rfl ?_)
  refine SeqOps.nil ?_
  refine hK1 _ _ ?_
  try clear hK1 K1
  refine W.seq fun K2 hK2 => ?_
  refine W.region ?_
  refine SeqOps.put 6 rfl rfl rfl (O.move (v := v) rfl rfl ?_)
  refine SeqOps.put 7 rfl rfl rfl (O.call (fid := 87) (cap := #[]) (args := [v, (.int .i64 (5)), (strOf [97, 32, 102, 97, 99, 116])]) rfl rfl rfl Tryz.func87 rfl rfl ?_)
  refine Calls.mono (split_calls (a := a) (n := 5) (Ext.agr hE0 hA) hG r hlen (by omega)) ?_
  rintro e w1 ⟨N0, bp, rem, okS, rfl, n0, hbp, hps, hrl, hok1, hok2, hrle⟩
  obtain ⟨b0, b1, b2, b3, b4, rfl⟩ : ∃ b0 b1 b2 b3 b4, rem = [b0, b1, b2, b3, b4] := by match rem, hrl with | [b0, b1, b2, b3, b4], _ => exact ⟨b0, b1, b2, b3, b4, rfl⟩
  have hbrp : br ≠ bp := by omega
  have hkr := Ext.blk n0.st.chg hk0
  have nn0 := ((New.start w NoX).new hE0).trans n0 (fun i hi => hi.elim)
  rw [Hm.nilL] at nn0
  have hr0 : N0 br = none := by rw [n0.st.low br hbr1]
  refine ⟨_, rfl, ?_⟩
  refine SeqOps.put 4 rfl rfl rfl (O.assign (v := (.pointer (some ⟨bp, 0, none⟩))) rfl rfl ?_)
  refine SeqOps.nil ?_
  refine hK2 _ _ ?_
  try clear hK2 K2
  refine W.seq fun K3 hK3 => ?_
  refine W.region ?_
  refine SeqOps.put 8 rfl rfl rfl (O.move (v := (.pointer (some ⟨bp, 0, none⟩))) rfl rfl ?_)
  refine SeqOps.put 9 rfl rfl rfl (O.call (fid := 96) (cap := #[]) (args := [(.pointer (some ⟨bp, 0, none⟩)), (.func (.func 77) #[] #[])]) rfl rfl rfl Tryz.func96 rfl rfl ?_)
  refine Calls.mono (one_Commit_calls hps (by have := hrle b0 (by simp); omega)) ?_
  rintro e wm1 ⟨M1, v0_, rfl, nm1, hM1, hp1, ⟨f0, rfl, hfok0, hy0⟩⟩
  have nn1 := nn0.trans nm1 (fun i hi => ⟨.inl (by subst hi; have := hE0.size; omega), by subst hi; exact hps.outN⟩)
  have hkr1 := nm1.st.chg.blk hkr hbrp
  have hr1 : Hm N0 M1 br = none := Hm.none hr0 (by rw [nm1.st.low br (blk_lt hkr)])
  have hle1 : Hle N0 (Hm N0 M1) := nn0.le1 nm1
  refine ⟨_, rfl, ?_⟩
  refine SeqOps.put 10 rfl rfl rfl (O.move (v := (.pointer (some ⟨bp, 0, none⟩))) rfl rfl ?_)
  refine SeqOps.put 11 rfl rfl rfl (O.call (fid := 90) (cap := #[]) (args := [(.pointer (some ⟨bp, 0, none⟩))]) rfl rfl rfl Tryz.func90 rfl rfl ?_)
  refine Calls.mono (pdigest_calls hp1) ?_
  rintro e wm2 ⟨M2, v1_, rfl, nm2, hM2, hp2, ⟨f1, rfl, hy1⟩⟩
  have nn2 := nn1.trans nm2 (fun i hi => ⟨.inl (by subst hi; have := hE0.size; omega), by subst hi; exact hp1.outN⟩)
  have hkr2 := nm2.st.chg.blk hkr1 hbrp
  have hr2 : Hm (Hm N0 M1) M2 br = none := Hm.none hr1 (by rw [nm2.st.low br (blk_lt hkr1)])
  have hle2 : Hle (Hm N0 M1) (Hm (Hm N0 M1) M2) := nn1.le1 nm2
  refine ⟨_, rfl, ?_⟩
  refine SeqOps.put 12 rfl rfl rfl (O.move (v := (.pointer (some ⟨bp, 0, none⟩))) rfl rfl ?_)
  refine SeqOps.put 13 rfl rfl rfl (O.call (fid := 97) (cap := #[]) (args := [(.pointer (some ⟨bp, 0, none⟩))]) rfl rfl rfl Tryz.func97 rfl rfl ?_)
  refine Calls.mono (pbytes_calls hp2 (by have := hrle b2 (by simp); omega)) ?_
  rintro e wm3 ⟨M3, v2_, rfl, nm3, hM3, hp3, hy2⟩
  obtain ⟨ao2, cap2, rfl⟩ := RS.form hy2
  have nn3 := nn2.trans nm3 (fun i hi => ⟨.inl (by subst hi; have := hE0.size; omega), by subst hi; exact hp2.outN⟩)
  have hkr3 := nm3.st.chg.blk hkr2 hbrp
  have hr3 : Hm (Hm (Hm N0 M1) M2) M3 br = none := Hm.none hr2 (by rw [nm3.st.low br (blk_lt hkr2)])
  have hle3 : Hle (Hm (Hm N0 M1) M2) (Hm (Hm (Hm N0 M1) M2) M3) := nn2.le1 nm3
  refine ⟨_, rfl, ?_⟩
  refine SeqOps.put 14 rfl rfl rfl (O.move (v := (.pointer (some ⟨bp, 0, none⟩))) rfl rfl ?_)
  refine SeqOps.put 15 rfl rfl rfl (O.call (fid := 98) (cap := #[]) (args := [(.pointer (some ⟨bp, 0, none⟩))]) rfl rfl rfl Tryz.func98 rfl rfl ?_)
  refine Calls.mono (ptruth_calls hp3) ?_
  rintro e wm4 ⟨M4, v3_, rfl, nm4, hM4, hp4, ⟨f3, rfl, hy3⟩⟩
  have nn4 := nn3.trans nm4 (fun i hi => ⟨.inl (by subst hi; have := hE0.size; omega), by subst hi; exact hp3.outN⟩)
  have hkr4 := nm4.st.chg.blk hkr3 hbrp
  have hr4 : Hm (Hm (Hm (Hm N0 M1) M2) M3) M4 br = none := Hm.none hr3 (by rw [nm4.st.low br (blk_lt hkr3)])
  have hle4 : Hle (Hm (Hm (Hm N0 M1) M2) M3) (Hm (Hm (Hm (Hm N0 M1) M2) M3) M4) := nn3.le1 nm4
  refine ⟨_, rfl, ?_⟩
  refine SeqOps.put 16 rfl rfl rfl (O.move (v := (.pointer (some ⟨bp, 0, none⟩))) rfl rfl ?_)
  refine SeqOps.put 17 rfl rfl rfl (O.call (fid := 97) (cap := #[]) (args := [(.pointer (some ⟨bp, 0, none⟩))]) rfl rfl rfl Tryz.func97 rfl rfl ?_)
  refine Calls.mono (pbytes_calls hp4 (by have := hrle b4 (by simp); omega)) ?_
  rintro e wm5 ⟨M5, v4_, rfl, nm5, hM5, hp5, hy4⟩
  obtain ⟨ao4, cap4, rfl⟩ := RS.form hy4
  have nn5 := nn4.trans nm5 (fun i hi => ⟨.inl (by subst hi; have := hE0.size; omega), by subst hi; exact hp4.outN⟩)
  have hkr5 := nm5.st.chg.blk hkr4 hbrp
  have hr5 : Hm (Hm (Hm (Hm (Hm N0 M1) M2) M3) M4) M5 br = none := Hm.none hr4 (by rw [nm5.st.low br (blk_lt hkr4)])
  have hle5 : Hle (Hm (Hm (Hm (Hm N0 M1) M2) M3) M4) (Hm (Hm (Hm (Hm (Hm N0 M1) M2) M3) M4) M5) := nn4.le1 nm5
  refine ⟨_, rfl, ?_⟩
  obtain ⟨q, hq⟩ : ∃ q : VFact, q = ⟨f0, f1, (.slice ao2 b2.length cap2), f3, (.slice ao4 b4.length cap4)⟩ := ⟨_, rfl⟩
  refine SeqOps.put 18 rfl rfl rfl (O.build (vps := [(0, (.agg (List.toArray (f0.cells)))), (1, (.agg (List.toArray (digC f1)))), (2, (.slice ao2 b2.length cap2)), (3, (.bool (f3))), (4, (.slice ao4 b4.length cap4))]) (cells := (VFact.cells ⟨f0, f1, (.slice ao2 b2.length cap2), f3, (.slice ao4 b4.length cap4)⟩)) rfl rfl (by kernel_rfl) ?_)
  rw [← hq]
  have hqok : q.ok := by rw [hq]; exact ⟨hfok0, rfl, rfl⟩
  refine SeqOps.put 5 rfl rfl rfl (O.alloc rfl zr47 ?_)
  intro bq wa hbq hbq1 hEa hkq0
  refine SeqOps.eff rfl rfl (O.store (b := bq) (off := 0) (v := .agg (List.toArray q.cells)) (n := 73) (c' := q.cells.toArray) rfl rfl rfl hkq0 sz47 rfl (by decide) (VFact.one hqok) rfl ?_)
  intro wq hCq hkq
  have hEq : Ext wm5 wq := hEa.trans_new hCq fun i hi => .inl (by omega)
  have hpq := hp5.ext hEq
  have hkrq := Ext.blk hEq hkr5
  have hqr : bq ≠ br := by have := blk_lt hkr5; omega
  have hpr : bp ≠ br := Ne.symm hbrp
  obtain ⟨lv, ev, hkp, hevf, hev⟩ := hpq.final
  skip
  refine SeqOps.nil ?_
  refine hK3 _ _ ?_
  try clear hK3 K3
  refine W.seq fun K4 hK4 => ?_
  obtain ⟨obj, hobj⟩ : ∃ o, o = Obj.cells q.cells.toArray 47 (0, 0) := ⟨_, rfl⟩
  refine W.region_any (by kernel_rfl) (by kernel_rfl) [19, 20, 21, 22, 23, 3] rfl (fun a b => RStoreC br (.cells q.cells.toArray 47 (0, 0)) 73 47 a b) (fun _ => RStoreC.refl _ _ _ _ _) (fun h k => RStoreC.trans h k) [
      (fun (u : Value) (_ : World) => u = .agg (List.toArray q.cells)),
      (fun (u : Value) (_ : World) => u = Value.pointer (some ⟨bp, 0, none⟩)),
      (fun (u : Value) (_ : World) => u = Value.pointer (some ⟨bp, 0, none⟩)),
      (fun (u : Value) (_ : World) => u = Value.pointer (some ⟨bp, 1, none⟩)),
      (fun (u : Value) (_ : World) => u = ev),
      (fun (_ : Value) (w : World) => w.heap[br]? = some (.cells q.cells.toArray 47 (0, 0))),
      (fun (u : Value) (_ : World) => u = ev)
    ] ⟨fun _ _ _ _ h => h, fun _ _ _ _ h => h, fun _ _ _ _ h => h, fun _ _ _ _ h => h, fun _ _ _ _ h => h, fun _ _ _ hE h => hE.2.1 h, fun _ _ _ _ h => h, trivial⟩ ⟨?_, ?_, ?_, ?_, ?_, ?_, ?_, trivial⟩ ?_
  · intro g w1 hR hf hd
    have h1 : g 5 = .pointer (some ⟨bq, 0, none⟩) := hf 5 (by decide)
    have hb1 := Chg.blk hR.1 (show wq.drew.heap[bq]? = _ from hkq) hqr
    exact StepT.plain rfl (O.loadBlk (b := bq) (off := 0) (cs := q.cells) rfl h1 hb1 Tryz.underlying47 rfl sz47 rfl ⟨RStoreC.refl _ _ _ _ _, rfl⟩)
  · intro g w1 hR hf hd
    have h1 : g 4 = Value.pointer (some ⟨bp, 0, none⟩) := hf 4 (by decide)
    exact StepT.plain rfl (O.move (v := Value.pointer (some ⟨bp, 0, none⟩)) rfl h1 ⟨RStoreC.refl _ _ _ _ _, rfl⟩)
  · intro g w1 hR hf hd
    have h1 : (fun (u : Value) (_ : World) => u = Value.pointer (some ⟨bp, 0, none⟩)) (g 20) w1 := hd.1 rfl
    exact StepT.plain rfl (O.nilCheckPtr (a := ⟨bp, 0, none⟩) rfl h1 ⟨RStoreC.refl _ _ _ _ _, rfl⟩)
  · intro g w1 hR hf hd
    have h1 : (fun (u : Value) (_ : World) => u = Value.pointer (some ⟨bp, 0, none⟩)) (g 21) w1 := hd.1 rfl
    exact StepT.plain rfl (O.fieldAddr (a := ⟨bp, 0, none⟩) (v := Value.pointer (some ⟨bp, 1, none⟩)) rfl h1 Tryz.underlying177 rfl (by kernel_rfl) rfl ⟨RStoreC.refl _ _ _ _ _, rfl⟩)
  · intro g w1 hR hf hd
    have h1 : (fun (u : Value) (_ : World) => u = Value.pointer (some ⟨bp, 1, none⟩)) (g 22) w1 := hd.1 rfl
    have hb1 := Chg.blk hR.1 (show wq.drew.heap[bp]? = _ from hkp) hpr
    exact StepT.plain rfl (O.loadBlk1 (b := bp) (off := 1) (v := ev) rfl h1 hb1 Tryz.underlying162 rfl rfl ⟨RStoreC.refl _ _ _ _ _, rfl⟩)
  · intro g w1 hR hf hd
    have h1 : g 2 = .pointer (some ⟨br, 0, none⟩) := hf 2 (by decide)
    have h2 : g 19 = .agg (List.toArray q.cells) := hd.1 rfl
    obtain ⟨cr, hcr, hk⟩ := hR.2.2 ⟨_, rfl, show wq.drew.heap[br]? = _ from hkrq⟩
    refine StepT.plain rfl (O.store (b := br) (off := 0) (v := .agg (List.toArray q.cells)) (n := 73) (c' := q.cells.toArray) rfl h1 h2 hk sz47 rfl (by rw [Nat.zero_add, hcr]; exact Nat.le_refl _) (VFact.one hqok) (by simp [Value.cells, VFact.length, hcr]) ?_)
    intro w2 hC hk2
    exact ⟨⟨hC, fun _ => hk2, fun _ => ⟨_, VFact.length q, hk2⟩⟩, hk2⟩
  · intro g w1 hR hf hd
    have h1 : g 23 = ev := hd.1 rfl
    exact StepT.plain rfl (O.assign (v := ev) rfl h1 ⟨RStoreC.refl _ _ _ _ _, rfl⟩)
  intro g w9 hR hf hall
  have hf5 := hall.2.2.2.2.2.1
  have hf6 := hall.2.2.2.2.2.2.1
  refine hK4 _ _ ?_
  try clear hK4 K4
  refine W.ret ?_
  have n9 := ((nn5.new hEq).new (Ext.drew wq)).step hR.1 (fun i hi => ⟨.inl (by omega), by subst hi; exact hr5⟩)
  refine retQ_cell2 (b := br) (cs := q.cells) rfl (hf 2 (by decide)) hf6 hf5 Tryz.underlying47 rfl sz47 ⟨_, _, _, rfl, n9, ⟨q, rfl, hqok⟩, ?_⟩
  rcases hev with ⟨hok, rfl⟩ | ⟨hok, he⟩
  · simp only [Bool.and_eq_true] at hok
    obtain ⟨⟨⟨hok0, hs0⟩, hs1⟩, hs3⟩ := hok
    obtain ⟨y0, hd0⟩ := Option.isSome_iff_exists.1 hs0
    obtain ⟨y1, hd1⟩ := Option.isSome_iff_exists.1 hs1
    obtain ⟨y3, hd3⟩ := Option.isSome_iff_exists.1 hs3
    refine .inl ⟨⟨y0, y1, b2, y3, b4⟩, ?_, rfl, q, rfl, ?_⟩
    · unfold dFact; rw [hok1 hok0]; exact dFactL_some hd0 hd1 rfl hd3 rfl
    · rw [hq]; exact ⟨(hy0 _ hd0).mono (((((Hm.right _ M1).trans hle2).trans hle3).trans hle4).trans hle5), hy1 _ hd1, RB.mono hy2 (((Hm.right _ M3).trans hle4).trans hle5), hy3 _ hd3, RB.mono hy4 (Hm.right _ M5)⟩
  · refine .inr ⟨?_, he⟩
    cases hokS : okS with
    | false =>
      unfold dFact
      cases hs : split bs with
      | none => rfl
      | some l => exact dFactL_len (hok2 hokS l hs)
    | true =>
      unfold dFact
      rw [hok1 hokS]
      have hiss := dFactL_isSome b0 b1 b2 b3 b4
      rw [hokS] at hok; simp only [Bool.true_and, Option.isSome_some, Bool.and_true] at hok hiss
      rw [hok] at hiss
      simpa using hiss

theorem all_Fact_calls {a : Addr} {HL N : Heap} {w : World} {bp : Nat} {b : List UInt8} {rem : List (List UInt8)} {ok : Bool} (h : PS a HL N w bp (b :: rem) ok) (hlen : b.length ≤ 1099511627776) :
    Calls Tryz.prog 118 #[.pointer (some ⟨bp, 0, none⟩), .func (.func 43) #[] #[]] w (RetP a HL N w bp rem (ok && (dList dFact b).isSome) (fun M v => (∃ ao n cap, v = .slice ao n cap) ∧ ∀ ys, dList dFact b = some ys → RL 73 cFact M v ys)) := by
  have hlt0 := h.lt
  have h0L : ∀ {k}, w.heap.size ≤ k → HL k = none := fun hk => h.agrL.none hk
  have h0N : ∀ {k}, w.heap.size ≤ k → N k = none := fun hk => h.agrN.none hk
  cases hsp : split b with
  | none =>
    refine calls_of_W (n := 52) Tryz.func118 rfl Tryz.ntmps118 (Nat.le_of_ble_eq_true rfl) ?_
    refine W.seq fun K1 hK1 => ?_
    refine W.region ?_
    refine SeqOps.put 4 rfl rfl rfl (O.assign (v := (.slice none 0 0)) rfl rfl ?_)
    refine SeqOps.nil ?_
    refine hK1 _ _ ?_
    try clear hK1 K1
    refine W.seq fun K2 hK2 => ?_
    refine W.region ?_
    refine SeqOps.put 13 rfl rfl rfl (O.move (v := (.pointer (some ⟨bp, 0, none⟩))) rfl rfl ?_)
    refine SeqOps.put 14 rfl rfl rfl (O.call (fid := 125) (cap := #[]) (args := [(.pointer (some ⟨bp, 0, none⟩))]) rfl rfl rfl Tryz.func125 rfl rfl ?_)
    refine Calls.mono (next_calls h) ?_
    rintro e w1 ⟨v1, rfl, hr, h1, hC1⟩
    refine ⟨_, rfl, ?_⟩
    refine SeqOps.put 15 rfl rfl rfl (O.call (fid := 123) (cap := #[]) (args := [v1]) rfl rfl rfl Tryz.func123 rfl rfl ?_)
    refine Calls.mono (Split_calls h1.agrL hr hlen) ?_
    rintro e w2 ⟨M, v2, st, hres⟩
    obtain ⟨rfl, rfl⟩ : v2 = .slice none 0 0 ∧ e = .returned (.tuple #[v2, .bool false]) := by rcases hres with ⟨l, h1, _⟩ | ⟨_, h2, h3⟩ <;> first | exact ⟨h2, h3⟩ | (rw [hsp] at h1; cases h1; done)
    have n2 := (New.ofChg hC1).trans st (fun i hi => hi.elim)
    rw [Hm.nilL] at n2
    have hM : M bp = none := by rw [st.st.low bp h1.lt]
    replace h1 := h1.new st
    refine ⟨_, rfl, ?_⟩
    refine SeqOps.put 12 rfl rfl rfl (O.move (v := (.tuple #[(.slice none 0 0), (.bool (false))])) rfl rfl ?_)
    refine SeqOps.put 16 rfl rfl rfl (O.extract (v := (.slice none 0 0)) rfl rfl rfl ?_)
    refine SeqOps.put 17 rfl rfl rfl (O.extract (v := (.bool (false))) rfl rfl rfl ?_)
    refine SeqOps.put 5 rfl rfl rfl (O.assign (v := (.slice none 0 0)) rfl rfl ?_)
    refine SeqOps.put 6 rfl rfl rfl (O.assign (v := (.bool (false))) rfl rfl ?_)
    refine SeqOps.nil ?_
    refine hK2 _ _ ?_
    try clear hK2 K2
    refine W.seq fun K3 hK3 => ?_
    refine W.seq fun K4 hK4 => ?_
    refine W.region ?_
    refine SeqOps.put 18 rfl rfl rfl (O.move (v := (.bool (false))) rfl rfl ?_)
    refine SeqOps.put 19 rfl rfl rfl (O.not (b := false) rfl rfl ?_)
    refine SeqOps.nil ?_
    refine hK4 _ _ ?_
    try clear hK4 K4
    refine W.cond_true rfl ?_
    refine W.region ?_
    refine SeqOps.put 20 rfl rfl rfl (O.move (v := (.pointer (some ⟨bp, 0, none⟩))) rfl rfl ?_)
    refine SeqOps.put 21 rfl rfl rfl (O.loadOne (a := ⟨1, 0, none⟩) (v := eS a) rfl rfl Tryz.underlying162 rfl (h1.agrL.cell h1.glob) ?_)
    refine SeqOps.put 22 rfl rfl rfl (O.build (vps := [(0, (strOf [97, 32, 108, 105, 115, 116])), (1, (eS a))]) (cells := [(strOf [97, 32, 108, 105, 115, 116]), (eS a)]) rfl rfl (by kernel_rfl) ?_)
    refine SeqOps.put 23 rfl rfl rfl (O.box (v := (.agg (List.toArray ([(strOf [97, 32, 108, 105, 115, 116]), (eS a)])))) rfl rfl ?_)
    intro b3 w3 hb3 hb3l hEw3 hkb3
    obtain ⟨h3, hN3, e3⟩ := h1.wrong hEw3 hb3 hkb3
    refine SeqOps.put 24 rfl rfl rfl (O.makeIface (v := (.pointer (some ⟨b3, 0, none⟩))) rfl rfl Tryz.underlying160 rfl ?_)
    refine SeqOps.put 25 rfl rfl rfl (O.call (fid := 126) (cap := #[]) (args := [(.pointer (some ⟨bp, 0, none⟩)), (.iface 160 (.pointer (some ⟨b3, 0, none⟩)))]) rfl rfl rfl Tryz.func126 rfl rfl ?_)
    refine Calls.mono (bad_calls h3 (.base (Hadd_same _ _ _))) ?_
    rintro e w4 ⟨rfl, h4, hC4⟩
    refine ⟨_, rfl, ?_⟩
    refine SeqOps.nil ?_
    refine hK3 _ _ ?_
    try clear hK3 K3
    refine W.seq fun K5 hK5 => ?_
    refine W.region ?_
    refine SeqOps.put 7 rfl rfl rfl (O.assign (v := (.slice none 0 0)) rfl rfl ?_)
    refine SeqOps.nil ?_
    refine hK5 _ _ ?_
    try clear hK5 K5
    refine W.seq fun K6 hK6 => ?_
    refine W.seq fun K7 hK7 => ?_
    refine W.region ?_
    refine SeqOps.put 26 rfl rfl rfl (O.move (v := (.slice none 0 0)) rfl rfl ?_)
    refine SeqOps.put 27 rfl rfl rfl (O.lenSlice (ad := none) (n := 0) (c := 0) rfl rfl Tryz.underlying133 ?_)
    refine SeqOps.put 28 rfl rfl rfl (O.move (v := (.int .i64 (0))) rfl rfl ?_)
    refine SeqOps.nil ?_
    refine hK7 _ _ ?_
    try clear hK7 K7
    refine W.block ?_
    refine W.loop [7, 26, 27, 28] (fun vals wk => vals = [.slice none 0 0, .slice none 0 0, .int .i64 0, .int .i64 0] ∧ w4 = wk) (fun _ _ => 0) ⟨rfl, rfl⟩ ?_
    rintro g _ wk ⟨rfl, rfl⟩
    refine W.seq fun K8 hK8 => ?_
    refine W.region ?_
    refine SeqOps.put 29 rfl rfl rfl (O.cmp (a := 0) (b := 0) (r := false) rfl rfl rfl (rfl) ?_)
    refine SeqOps.nil ?_
    refine hK8 _ _ ?_
    try clear hK8 K8
    refine W.seq fun K9 hK9 => ?_
    refine W.cond_false rfl ?_
    refine W.exit ?_
    refine hK6 _ _ ?_
    try clear hK6 K6
    refine W.seq fun K10 hK10 => ?_
    refine W.region ?_
    refine SeqOps.put 51 rfl rfl rfl (O.move (v := (.slice none 0 0)) rfl rfl ?_)
    refine SeqOps.put 4 rfl rfl rfl (O.assign (v := (.slice none 0 0)) rfl rfl ?_)
    refine SeqOps.nil ?_
    refine hK10 _ _ ?_
    try clear hK10 K10
    refine W.ret ?_
    have hlt1 := h1.lt
    have n4 := (n2.trans hN3 (fun i hi => hi.elim)).step hC4 (fun i hi => ⟨.inr hi, by subst hi; exact Hm.none hM (by rw [Hadd_ne _ _ (by omega)])⟩)
    refine retQ_one rfl rfl ⟨_, _, rfl, n4, Hm.none hM (by rw [Hadd_ne _ _ (by omega)]), ?_, ⟨_, _, _, rfl⟩, fun ys hy => ?_⟩
    · have e : (ok && (dList dFact b).isSome) = false := by unfold dList; rw [hsp]; simp
      rw [e, ← Hm.assoc, e3]; exact h4
    · unfold dList at hy; rw [hsp] at hy; cases hy
  | some l =>
    have hll : 8 * l.length ≤ b.length := by have h1 := joinTail_ge l; have h2 := join_length l; rw [split_join hsp] at h2; omega
    have hpl := split_parts_le hsp
    refine calls_of_W (n := 52) Tryz.func118 rfl Tryz.ntmps118 (Nat.le_of_ble_eq_true rfl) ?_
    refine W.seq fun K11 hK11 => ?_
    refine W.region ?_
    refine SeqOps.put 4 rfl rfl rfl (O.assign (v := (.slice none 0 0)) rfl rfl ?_)
    refine SeqOps.nil ?_
    refine hK11 _ _ ?_
    try clear hK11 K11
    refine W.seq fun K12 hK12 => ?_
    refine W.region ?_
    refine SeqOps.put 13 rfl rfl rfl (O.move (v := (.pointer (some ⟨bp, 0, none⟩))) rfl rfl ?_)
    refine SeqOps.put 14 rfl rfl rfl (O.call (fid := 125) (cap := #[]) (args := [(.pointer (some ⟨bp, 0, none⟩))]) rfl rfl rfl Tryz.func125 rfl rfl ?_)
    refine Calls.mono (next_calls h) ?_
    rintro e w1 ⟨v1, rfl, hr, h1, hC1⟩
    refine ⟨_, rfl, ?_⟩
    refine SeqOps.put 15 rfl rfl rfl (O.call (fid := 123) (cap := #[]) (args := [v1]) rfl rfl rfl Tryz.func123 rfl rfl ?_)
    refine Calls.mono (Split_calls h1.agrL hr hlen) ?_
    rintro e w2 ⟨M, v2, st, hres⟩
    obtain ⟨rfl, hl⟩ : e = .returned (.tuple #[v2, .bool true]) ∧ RBB M v2 l := by rcases hres with ⟨l', h1, h2, h3⟩ | ⟨h1, _⟩ <;> first | (rw [hsp] at h1; cases h1; exact ⟨h2, h3⟩) | (rw [hsp] at h1; cases h1; done)
    obtain ⟨ao, cap, rfl⟩ : ∃ ao cap, v2 = .slice ao l.length cap := by obtain ⟨vs, _, rs⟩ := hl; exact rs.form
    have n2 := (New.ofChg hC1).trans st (fun i hi => hi.elim)
    rw [Hm.nilL] at n2
    have hM : M bp = none := by rw [st.st.low bp h1.lt]
    replace h1 := h1.new st
    refine ⟨_, rfl, ?_⟩
    refine SeqOps.put 12 rfl rfl rfl (O.move (v := (.tuple #[(.slice ao l.length cap), (.bool (true))])) rfl rfl ?_)
    refine SeqOps.put 16 rfl rfl rfl (O.extract (v := (.slice ao l.length cap)) rfl rfl rfl ?_)
    refine SeqOps.put 17 rfl rfl rfl (O.extract (v := (.bool (true))) rfl rfl rfl ?_)
    refine SeqOps.put 5 rfl rfl rfl (O.assign (v := (.slice ao l.length cap)) rfl rfl ?_)
    refine SeqOps.put 6 rfl rfl rfl (O.assign (v := (.bool (true))) rfl rfl ?_)
    refine SeqOps.nil ?_
    refine hK12 _ _ ?_
    try clear hK12 K12
    refine W.seq fun K13 hK13 => ?_
    refine W.seq fun K14 hK14 => ?_
    refine W.region ?_
    refine SeqOps.put 18 rfl rfl rfl (O.move (v := (.bool (true))) rfl rfl ?_)
    refine SeqOps.put 19 rfl rfl rfl (O.not (b := true) rfl rfl ?_)
    refine SeqOps.nil ?_
    refine hK14 _ _ ?_
    try clear hK14 K14
    refine W.cond_false rfl ?_
    refine W.skip ?_
    refine hK13 _ _ ?_
    try clear hK13 K13
    refine W.seq fun K15 hK15 => ?_
    refine W.region ?_
    refine SeqOps.put 7 rfl rfl rfl (O.assign (v := (.slice none 0 0)) rfl rfl ?_)
    refine SeqOps.nil ?_
    refine hK15 _ _ ?_
    try clear hK15 K15
    refine W.seq fun K16 hK16 => ?_
    refine W.seq fun K17 hK17 => ?_
    refine W.region ?_
    refine SeqOps.put 26 rfl rfl rfl (O.move (v := (.slice ao l.length cap)) rfl rfl ?_)
    refine SeqOps.put 27 rfl rfl rfl (O.lenSlice (ad := ao) (n := l.length) (c := cap) rfl rfl Tryz.underlying133 ?_)
    refine SeqOps.put 28 rfl rfl rfl (O.move (v := (.int .i64 (0))) rfl rfl ?_)
    refine SeqOps.nil ?_
    refine hK17 _ _ ?_
    try clear hK17 K17
    refine W.block ?_
    refine W.loop [0, 1, 7, 26, 27, 28] (fun vals wk => ∃ M okk out css, ∃ k : Nat, vals = [.pointer (some ⟨bp, 0, none⟩), .func (.func 43) #[] #[], out, .slice ao l.length cap, .int .i64 (l.length : Int), .int .i64 (k : Int)] ∧ k ≤ l.length ∧ New w (· = bp) M wk ∧ M bp = none ∧ PS a HL (Hm N M) wk bp rem okk ∧ RBB M (.slice ao l.length cap) l ∧ Own M wk w.heap.size 47 73 out k (List.flatten css) ∧ (∀ cs ∈ css, cs.length = 73) ∧ okk = (ok && (mapO dFact (l.take k)).isSome) ∧ (∀ ys, mapO dFact (l.take k) = some ys → All2 (cFact M) css ys)) (fun vals _ => l.length - (intOf (vals.getD 5 undef)).toNat) ⟨M, ok, _, [], 0, rfl, Nat.zero_le _, n2, hM, h1, hl, Own.nil _ _ _ _ _, by simp, by simp [mapO], fun ys hy => by simp [mapO] at hy; subst hy; exact .nil⟩ ?_
    clear hres n2 hM h1 hl st hC1 hr M
    rintro g _ wk ⟨M, okk, out, css, k, rfl, hk, nk, hM, hp, hl, own, hcs, hokk, hall⟩
    rcases Nat.lt_or_ge k l.length with hlt | hge2
    · have htk : l.take (k + 1) = l.take k ++ [l[k]] := List.take_succ_eq_append_getElem hlt
      have hpk := hpl l[k] (by simp)
      have hl' := hl
      obtain ⟨vs, h2, rs⟩ := hl'
      obtain ⟨hvl, hel⟩ := h2.get hlt
      obtain ⟨ad, rfl, hcel⟩ := rs.elem (i := k) (u := vs[k]) (by simp)
      obtain ⟨ao2, cap2, hv2⟩ := RS.form hel
      rw [hv2] at hcel hel
      have hLM : Agr (Hm HL M) wk := Hm.agr hp.agrL nk.st.agr
      have hGM : hcell (Hm HL M) ⟨1, 0, none⟩ = some (eS a) := (Hm.left h.agrL nk).cell h.glob
      cases hd : dFact l[k] with
      | some y =>
        refine W.seq fun K18 hK18 => ?_
        refine W.region ?_
        refine SeqOps.put 29 rfl rfl rfl (O.cmp (a := (k : Int)) (b := (l.length : Int)) (r := true) rfl rfl rfl (by simp [cmpI]; omega) ?_)
        refine SeqOps.nil ?_
        refine hK18 _ _ ?_
        try clear hK18 K18
        refine W.seq fun K19 hK19 => ?_
        refine W.cond_true rfl ?_
        refine W.skip ?_
        refine hK19 _ _ ?_
        try clear hK19 K19
        refine W.seq fun K20 hK20 => ?_
        refine W.block ?_
        refine W.seq fun K21 hK21 => ?_
        refine W.region ?_
        refine SeqOps.put 30 rfl rfl rfl (O.indexAddr (a := ad) (len := l.length) (cap := cap) (i := (k : Int)) (sz := 1) (v := .pointer (some (ad.add k))) rfl rfl rfl Tryz.underlying133 sz22 (by omega) (by omega) (by simp) ?_)
        refine SeqOps.put 31 rfl rfl rfl (O.loadOne (a := ad.add k) (v := .slice ao2 l[k].length cap2) rfl rfl Tryz.underlying22 rfl (nk.st.agr.cell hcel) ?_)
        refine SeqOps.put 9 rfl rfl rfl (O.assign (v := (.slice ao2 l[k].length cap2)) rfl rfl ?_)
        refine SeqOps.nil ?_
        refine hK21 _ _ ?_
        try clear hK21 K21
        refine W.seq fun K22 hK22 => ?_
        refine W.region ?_
        refine SeqOps.put 33 rfl rfl rfl (O.move (v := (.func (.func 43) #[] #[])) rfl rfl ?_)
        refine SeqOps.put 34 rfl rfl rfl (O.move (v := (.slice ao2 l[k].length cap2)) rfl rfl ?_)
        refine SeqOps.put 35 rfl rfl rfl (O.call (fid := 43) (cap := #[]) (args := [(.slice ao2 l[k].length cap2)]) rfl rfl rfl Tryz.func43 rfl rfl ?_)
        refine Calls.mono (read_Fact_calls (a := a) hLM hGM (hel.mono (Hm.right _ _)) (by omega)) ?_
        rintro e w5 hret
        obtain ⟨N5, v5, rfl, n5, hwf, hph⟩ := RetRd.good hd hret
        have n6 := nk.trans n5 (fun i hi => hi.elim)
        have hp6 := hp.new n5
        rw [Hm.assoc] at hp6
        have hM6 : Hm M N5 bp = none := Hm.none hM (by rw [n5.st.low bp hp.lt])
        have own6 : Own (Hm M N5) w5 w.heap.size 47 73 out k (List.flatten css) := (own.ext n5.st.chg).heap fun j hj => Hm.none (own.out j hj) (by rw [n5.st.low j (own.base hj).2])
        have hle6 : Hle M (Hm M N5) := nk.le1 n5
        obtain ⟨q, rfl, hq⟩ := hph
        refine ⟨_, rfl, ?_⟩
        refine SeqOps.put 32 rfl rfl rfl (O.move (v := (.tuple #[(.agg (List.toArray (q.cells))), .nilIface])) rfl rfl ?_)
        refine SeqOps.put 36 rfl rfl rfl (O.extract (v := (.agg (List.toArray (q.cells)))) rfl rfl rfl ?_)
        refine SeqOps.put 37 rfl rfl rfl (O.extract (v := .nilIface) rfl rfl rfl ?_)
        refine SeqOps.put 10 rfl rfl rfl (O.alloc rfl zr47 ?_)
        intro bq wa hbq hbq1 hEa hkq0
        refine SeqOps.eff rfl rfl (O.store (b := bq) (off := 0) (v := .agg (List.toArray q.cells)) (n := 73) (c' := q.cells.toArray) rfl rfl rfl hkq0 sz47 rfl (by decide) (VFact.one hq.ok) rfl ?_)
        intro wb hCb hkq
        have hEb : Ext w5 wb := hEa.trans_new hCb fun i hi => .inl (by omega)
        have hp6' := hp6
        replace n6 := n6.new hEb; replace hp6 := hp6.ext hEb; replace own6 := own6.ext hEb
        refine SeqOps.put 11 rfl rfl rfl (O.assign (v := .nilIface) rfl rfl ?_)
        refine SeqOps.nil ?_
        refine hK22 _ _ ?_
        try clear hK22 K22
        refine W.seq fun K23 hK23 => ?_
        refine W.seq fun K24 hK24 => ?_
        refine W.region ?_
        refine SeqOps.put 38 rfl rfl rfl (O.move (v := .nilIface) rfl rfl ?_)
        refine SeqOps.put 39 rfl rfl rfl (O.ifaceNil (v := .nilIface) (r := false) rfl rfl (.inl rfl) Tryz.underlying162 (.inr ⟨rfl, rfl⟩) ?_)
        refine SeqOps.nil ?_
        refine hK24 _ _ ?_
        try clear hK24 K24
        refine W.cond_false rfl ?_
        refine W.skip ?_
        refine hK23 _ _ ?_
        try clear hK23 K23
        refine W.region ?_
        refine SeqOps.put 46 rfl rfl rfl (O.move (v := out) rfl rfl ?_)
        refine SeqOps.put 47 rfl rfl rfl (O.loadBlk (b := bq) (off := 0) (cs := q.cells) rfl rfl hkq Tryz.underlying47 rfl sz47 rfl ?_)
        refine SeqOps.put 48 rfl rfl rfl (O.buildSlice (vs := [(.agg (List.toArray (q.cells)))]) rfl rfl rfl Tryz.underlying80 inf47 (by intro u hu; simp at hu; subst hu; rfl) (by decide) ?_)
        intro b9 w9 hb9 hb91 hE9 hk9
        have hcat : catV [(.agg (List.toArray (q.cells)))] = q.cells := by simp [catV, Value.cells]
        rw [hcat] at hk9
        have own9 := own6.ext hE9
        have n9 := n6.new hE9
        refine SeqOps.put 49 rfl rfl rfl (O.append (B := w.heap.size) (v := out) (vx := .slice (some ⟨b9, 0, none⟩) 1 1) (m := 1) (xs := List.flatten css) (news := q.cells) rfl rfl rfl Tryz.underlying80 inf47 rfl own9 (Own.ofBlk (H := fun _ => none) (B := 0) (s := 73) (xs := q.cells) hk9 (Nat.zero_le _) rfl rfl (by decide) (VFact.one hq.ok)).rsw rfl (by omega) (by omega) n9.st.chg.size n9.st.agr ?_)
        intro o10 w10 own10 hC10
        refine SeqOps.put 7 rfl rfl rfl (O.assign (v := o10) rfl rfl ?_)
        refine SeqOps.nil ?_
        refine hK20 _ _ ?_
        try clear hK20 K20
        refine W.region ?_
        refine SeqOps.put 50 rfl rfl rfl (O.arith (a := (k : Int)) (b := 1) (r := (k : Int) + 1) (c := (k : Int) + 1) rfl rfl rfl rfl (by exact wrap_i64 (by omega) (by omega)) ?_)
        refine SeqOps.put 28 rfl rfl rfl (O.move (v := (.int .i64 ((k : Int) + 1))) rfl rfl ?_)
        refine SeqOps.nil ?_
        have n10 := n9.step hC10 (fun i hi => ⟨.inl (own9.base hi).1, own9.out i hi⟩)
        have hp10 := (hp6.ext hE9).chg hC10 (fun i hi => ⟨by have := (own9.base hi).1; omega, h0L (own9.base hi).1, Hm.none (h0N (own9.base hi).1) (own9.out i hi)⟩)
        refine ⟨⟨_, _, o10, css ++ [q.cells], k + 1, rfl, by omega, n10, hM6, hp10, hl.mono hle6, by simpa using own10, ?_, ?_, fun ys hy => ?_⟩, by show l.length - ((k + 1 : Nat) : Int).toNat < l.length - ((k : Nat) : Int).toNat; omega⟩
        · intro cs hcs'; rcases List.mem_append.1 hcs' with h' | h'
          · exact hcs cs h'
          · simp at h'; subst h'; rfl
        · rw [hokk, htk, mapO_snoc, hd]; cases mapO dFact (l.take k) <;> rfl
        · rw [htk, mapO_snoc, hd] at hy
          cases hm : mapO dFact (l.take k) with
          | none => rw [hm] at hy; cases hy
          | some zs =>
            rw [hm] at hy; simp at hy; subst hy
            exact ((hall zs hm).imp fun _ _ hc => cFact.mono (by first | exact hle6 | exact hle8) hc).snoc ⟨q, rfl, hq.mono (Hm.right M N5)⟩
      | none =>
        refine W.seq fun K25 hK25 => ?_
        refine W.region ?_
        refine SeqOps.put 29 rfl rfl rfl (O.cmp (a := (k : Int)) (b := (l.length : Int)) (r := true) rfl rfl rfl (by simp [cmpI]; omega) ?_)
        refine SeqOps.nil ?_
        refine hK25 _ _ ?_
        try clear hK25 K25
        refine W.seq fun K26 hK26 => ?_
        refine W.cond_true rfl ?_
        refine W.skip ?_
        refine hK26 _ _ ?_
        try clear hK26 K26
        refine W.seq fun K27 hK27 => ?_
        refine W.block ?_
        refine W.seq fun K28 hK28 => ?_
        refine W.region ?_
        refine SeqOps.put 30 rfl rfl rfl (O.indexAddr (a := ad) (len := l.length) (cap := cap) (i := (k : Int)) (sz := 1) (v := .pointer (some (ad.add k))) rfl rfl rfl Tryz.underlying133 sz22 (by omega) (by omega) (by simp) ?_)
        refine SeqOps.put 31 rfl rfl rfl (O.loadOne (a := ad.add k) (v := .slice ao2 l[k].length cap2) rfl rfl Tryz.underlying22 rfl (nk.st.agr.cell hcel) ?_)
        refine SeqOps.put 9 rfl rfl rfl (O.assign (v := (.slice ao2 l[k].length cap2)) rfl rfl ?_)
        refine SeqOps.nil ?_
        refine hK28 _ _ ?_
        try clear hK28 K28
        refine W.seq fun K29 hK29 => ?_
        refine W.region ?_
        refine SeqOps.put 33 rfl rfl rfl (O.move (v := (.func (.func 43) #[] #[])) rfl rfl ?_)
        refine SeqOps.put 34 rfl rfl rfl (O.move (v := (.slice ao2 l[k].length cap2)) rfl rfl ?_)
        refine SeqOps.put 35 rfl rfl rfl (O.call (fid := 43) (cap := #[]) (args := [(.slice ao2 l[k].length cap2)]) rfl rfl rfl Tryz.func43 rfl rfl ?_)
        refine Calls.mono (read_Fact_calls (a := a) hLM hGM (hel.mono (Hm.right _ _)) (by omega)) ?_
        rintro e w5 hret
        obtain ⟨N5, v5, be, rfl, n5, hwf, her⟩ := RetRd.bad hd hret
        have n6 := nk.trans n5 (fun i hi => hi.elim)
        have hp6 := hp.new n5
        rw [Hm.assoc] at hp6
        have hM6 : Hm M N5 bp = none := Hm.none hM (by rw [n5.st.low bp hp.lt])
        have own6 : Own (Hm M N5) w5 w.heap.size 47 73 out k (List.flatten css) := (own.ext n5.st.chg).heap fun j hj => Hm.none (own.out j hj) (by rw [n5.st.low j (own.base hj).2])
        have hle6 : Hle M (Hm M N5) := nk.le1 n5
        obtain ⟨q, rfl, hqok⟩ := hwf
        refine ⟨_, rfl, ?_⟩
        refine SeqOps.put 32 rfl rfl rfl (O.move (v := (.tuple #[(.agg (List.toArray (q.cells))), (.iface 160 (.pointer (some ⟨be, 0, none⟩)))])) rfl rfl ?_)
        refine SeqOps.put 36 rfl rfl rfl (O.extract (v := (.agg (List.toArray (q.cells)))) rfl rfl rfl ?_)
        refine SeqOps.put 37 rfl rfl rfl (O.extract (v := (.iface 160 (.pointer (some ⟨be, 0, none⟩)))) rfl rfl rfl ?_)
        refine SeqOps.put 10 rfl rfl rfl (O.alloc rfl zr47 ?_)
        intro bq wa hbq hbq1 hEa hkq0
        refine SeqOps.eff rfl rfl (O.store (b := bq) (off := 0) (v := .agg (List.toArray q.cells)) (n := 73) (c' := q.cells.toArray) rfl rfl rfl hkq0 sz47 rfl (by decide) (VFact.one hqok) rfl ?_)
        intro wb hCb hkq
        have hEb : Ext w5 wb := hEa.trans_new hCb fun i hi => .inl (by omega)
        have hp6' := hp6
        replace n6 := n6.new hEb; replace hp6 := hp6.ext hEb; replace own6 := own6.ext hEb
        refine SeqOps.put 11 rfl rfl rfl (O.assign (v := (.iface 160 (.pointer (some ⟨be, 0, none⟩)))) rfl rfl ?_)
        refine SeqOps.nil ?_
        refine hK29 _ _ ?_
        try clear hK29 K29
        refine W.seq fun K30 hK30 => ?_
        refine W.seq fun K31 hK31 => ?_
        refine W.region ?_
        refine SeqOps.put 38 rfl rfl rfl (O.move (v := (.iface 160 (.pointer (some ⟨be, 0, none⟩)))) rfl rfl ?_)
        refine SeqOps.put 39 rfl rfl rfl (O.ifaceNil (v := (.iface 160 (.pointer (some ⟨be, 0, none⟩)))) (r := true) rfl rfl (.inr ⟨_, _, rfl⟩) Tryz.underlying162 (.inr ⟨rfl, rfl⟩) ?_)
        refine SeqOps.nil ?_
        refine hK31 _ _ ?_
        try clear hK31 K31
        refine W.cond_true rfl ?_
        refine W.region ?_
        refine SeqOps.put 40 rfl rfl rfl (O.move (v := (.pointer (some ⟨bp, 0, none⟩))) rfl rfl ?_)
        refine SeqOps.put 41 rfl rfl rfl (O.move (v := (.iface 160 (.pointer (some ⟨be, 0, none⟩)))) rfl rfl ?_)
        refine SeqOps.put 42 rfl rfl rfl (O.build (vps := [(0, (strOf [105, 110, 32, 97, 32, 108, 105, 115, 116])), (1, (.iface 160 (.pointer (some ⟨be, 0, none⟩))))]) (cells := [(strOf [105, 110, 32, 97, 32, 108, 105, 115, 116]), (.iface 160 (.pointer (some ⟨be, 0, none⟩)))]) rfl rfl (by kernel_rfl) ?_)
        refine SeqOps.put 43 rfl rfl rfl (O.box (v := (.agg (List.toArray ([(strOf [105, 110, 32, 97, 32, 108, 105, 115, 116]), (.iface 160 (.pointer (some ⟨be, 0, none⟩)))])))) rfl rfl ?_)
        intro b7 w7 hb7 hb7l hEw7 hkb7
        obtain ⟨h7, hN7, e7⟩ := hp6.wrong hEw7 hb7 hkb7
        refine SeqOps.put 44 rfl rfl rfl (O.makeIface (v := (.pointer (some ⟨b7, 0, none⟩))) rfl rfl Tryz.underlying160 rfl ?_)
        refine SeqOps.put 45 rfl rfl rfl (O.call (fid := 126) (cap := #[]) (args := [(.pointer (some ⟨bp, 0, none⟩)), (.iface 160 (.pointer (some ⟨b7, 0, none⟩)))]) rfl rfl rfl Tryz.func126 rfl rfl ?_)
        refine Calls.mono (bad_calls h7 (.wrap (Hadd_same _ _ _) (her.mono (Hle.trans (Hm.right M N5) (Hle.trans (Hm.right N _) (Hle.add _ (hp6.agrN.none hb7))))))) ?_
        rintro e w8 ⟨rfl, h8, hC8⟩
        have hlt6 := hp6.lt
        have hM7 : Hm (Hm M N5) (Hadd NH b7 (Obj.cells ((.agg (List.toArray ([(strOf [105, 110, 32, 97, 32, 108, 105, 115, 116]), (.iface 160 (.pointer (some ⟨be, 0, none⟩)))]))) : Value).cells 164 (0, 0))) bp = none := Hm.none hM6 (by rw [Hadd_ne _ _ (by omega)])
        have n8 := (n6.trans hN7 (fun i hi => hi.elim)).step hC8 (fun i hi => ⟨.inr hi, by subst hi; exact hM7⟩)
        rw [← e7, Hm.assoc] at h8
        have own8 : Own (Hm (Hm M N5) (Hadd NH b7 (Obj.cells ((.agg (List.toArray ([(strOf [105, 110, 32, 97, 32, 108, 105, 115, 116]), (.iface 160 (.pointer (some ⟨be, 0, none⟩)))]))) : Value).cells 164 (0, 0)))) w8 w.heap.size 47 73 out k (List.flatten css) := ((own6.ext hEw7).chg hC8 fun j hj e => by subst e; have := (own6.base hj).1; omega).heap fun j hj => Hm.none (own6.out j hj) (by have := (own6.base hj).2; rw [Hadd_ne _ _ (by omega)])
        have hkq8 := hC8.blk (Ext.blk hEw7 hkq) (by have := hp6'.lt; omega)
        have hle8 : Hle M (Hm (Hm M N5) (Hadd NH b7 (Obj.cells ((.agg (List.toArray ([(strOf [105, 110, 32, 97, 32, 108, 105, 115, 116]), (.iface 160 (.pointer (some ⟨be, 0, none⟩)))]))) : Value).cells 164 (0, 0)))) := hle6.trans (n6.le1 hN7)
        refine ⟨_, rfl, ?_⟩
        refine SeqOps.nil ?_
        refine hK30 _ _ ?_
        try clear hK30 K30
        refine W.region ?_
        refine SeqOps.put 46 rfl rfl rfl (O.move (v := out) rfl rfl ?_)
        refine SeqOps.put 47 rfl rfl rfl (O.loadBlk (b := bq) (off := 0) (cs := q.cells) rfl rfl hkq8 Tryz.underlying47 rfl sz47 rfl ?_)
        refine SeqOps.put 48 rfl rfl rfl (O.buildSlice (vs := [(.agg (List.toArray (q.cells)))]) rfl rfl rfl Tryz.underlying80 inf47 (by intro u hu; simp at hu; subst hu; rfl) (by decide) ?_)
        intro b9 w9 hb9 hb91 hE9 hk9
        have hcat : catV [(.agg (List.toArray (q.cells)))] = q.cells := by simp [catV, Value.cells]
        rw [hcat] at hk9
        have own9 := own8.ext hE9
        have n9 := n8.new hE9
        refine SeqOps.put 49 rfl rfl rfl (O.append (B := w.heap.size) (v := out) (vx := .slice (some ⟨b9, 0, none⟩) 1 1) (m := 1) (xs := List.flatten css) (news := q.cells) rfl rfl rfl Tryz.underlying80 inf47 rfl own9 (Own.ofBlk (H := fun _ => none) (B := 0) (s := 73) (xs := q.cells) hk9 (Nat.zero_le _) rfl rfl (by decide) (VFact.one hqok)).rsw rfl (by omega) (by omega) n9.st.chg.size n9.st.agr ?_)
        intro o10 w10 own10 hC10
        refine SeqOps.put 7 rfl rfl rfl (O.assign (v := o10) rfl rfl ?_)
        refine SeqOps.nil ?_
        refine hK27 _ _ ?_
        try clear hK27 K27
        refine W.region ?_
        refine SeqOps.put 50 rfl rfl rfl (O.arith (a := (k : Int)) (b := 1) (r := (k : Int) + 1) (c := (k : Int) + 1) rfl rfl rfl rfl (by exact wrap_i64 (by omega) (by omega)) ?_)
        refine SeqOps.put 28 rfl rfl rfl (O.move (v := (.int .i64 ((k : Int) + 1))) rfl rfl ?_)
        refine SeqOps.nil ?_
        have n10 := n9.step hC10 (fun i hi => ⟨.inl (own9.base hi).1, own9.out i hi⟩)
        have hp10 := (h8.ext hE9).chg hC10 (fun i hi => ⟨by have := (own9.base hi).1; omega, h0L (own9.base hi).1, Hm.none (h0N (own9.base hi).1) (own9.out i hi)⟩)
        refine ⟨⟨_, _, o10, css ++ [q.cells], k + 1, rfl, by omega, n10, hM7, hp10, hl.mono hle8, by simpa using own10, ?_, ?_, fun ys hy => ?_⟩, by show l.length - ((k + 1 : Nat) : Int).toNat < l.length - ((k : Nat) : Int).toNat; omega⟩
        · intro cs hcs'; rcases List.mem_append.1 hcs' with h' | h'
          · exact hcs cs h'
          · simp at h'; subst h'; rfl
        · rw [htk, mapO_snoc, hd]; cases mapO dFact (l.take k) <;> simp
        · rw [htk, mapO_snoc, hd] at hy; cases mapO dFact (l.take k) <;> simp at hy
    have hkl : k = l.length := by omega
    refine W.seq fun K32 hK32 => ?_
    refine W.region ?_
    refine SeqOps.put 29 rfl rfl rfl (O.cmp (a := (k : Int)) (b := (l.length : Int)) (r := false) rfl rfl rfl (by simp [cmpI]; omega) ?_)
    refine SeqOps.nil ?_
    refine hK32 _ _ ?_
    try clear hK32 K32
    refine W.seq fun K33 hK33 => ?_
    refine W.cond_false rfl ?_
    refine W.exit ?_
    refine hK16 _ _ ?_
    try clear hK16 K16
    refine W.seq fun K34 hK34 => ?_
    refine W.region ?_
    refine SeqOps.put 51 rfl rfl rfl (O.move (v := out) rfl rfl ?_)
    refine SeqOps.put 4 rfl rfl rfl (O.assign (v := out) rfl rfl ?_)
    refine SeqOps.nil ?_
    refine hK34 _ _ ?_
    try clear hK34 K34
    refine W.ret ?_
    subst hkl
    rw [List.take_length] at hokk hall
    obtain ⟨M2, hle2, n2, hsame, rs2⟩ := own.join nk (Nat.le_refl _)
    have hM2 : M2 bp = none := by rw [hsame bp fun e => by have := (own.base e).1; omega]; exact hM
    have hdl : dList dFact b = mapO dFact l := by unfold dList; rw [hsp]; rfl
    obtain ⟨aof, capf, hof⟩ := rs2.form
    refine retQ_one rfl rfl ⟨M2, out, rfl, n2, hM2, ?_, ⟨_, _, _, hof⟩, fun ys hy => ?_⟩
    · rw [hdl, ← hokk]
      obtain ⟨lv, ev, hblk, hrb, hev⟩ := hp.blk
      refine h.next n2 hM2 ⟨lv, ev, hblk, hrb, hev.imp id fun ⟨e1, e2⟩ => ⟨e1, e2.mono ?_⟩⟩
      intro j o ho; unfold Hm at ho ⊢
      cases hj : M j with
      | some o' => rw [hj] at ho; rw [hle2 j o' hj]; exact ho
      | none =>
        rw [hj] at ho
        have hno := h.agrN.lt ho
        rw [show M2 j = none by rw [n2.st.low j hno]]; exact ho
    · rw [hdl] at hy
      have h2 := hall ys hy
      refine ⟨css, h2.imp fun _ _ hc => cFact.mono hle2 hc, hcs, ?_⟩
      have hlen2 := mapO_length hy
      rw [hlen2]; exact rs2

def wfRecord (v : Value) : Prop := ∃ q : VRecord, v = .agg (List.toArray q.cells) ∧ q.ok
def phRecord (N : Heap) (v : Value) (y : DRecord) : Prop := ∃ q : VRecord, v = .agg (List.toArray q.cells) ∧ RRecord N q y
set_option maxHeartbeats 1000000 in
theorem read_Record_calls {a : Addr} {H : Heap} {w : World} {v : Value} {bs : List UInt8} (hA : Agr H w) (hG : hcell H ⟨1, 0, none⟩ = some (eS a)) (r : RB H v bs) (hlen : bs.length ≤ 1099511627776) :
    Calls Tryz.prog 62 #[v] w (RetRd a dRecord wfRecord phRecord w bs) := by
  refine calls_of_W (n := 20) Tryz.func62 rfl Tryz.ntmps62 (Nat.le_of_ble_eq_true rfl) ?_
  refine W.seq fun K1 hK1 => ?_
  refine W.region ?_
  refine SeqOps.put 2 rfl rfl rfl (O.alloc rfl zr55 ?_)
  intro br w0 hbr hbr1 hE0 hk0
  refine SeqOps.put 3 rfl rfl rfl (O.assign (v := .nilIface) rfl rfl ?_)
  refine SeqOps.nil ?_
  refine hK1 _ _ ?_
  try clear hK1 K1
  refine W.seq fun K2 hK2 => ?_
  refine W.region ?_
  refine SeqOps.put 6 rfl rfl rfl (O.move (v := v) rfl rfl ?_)
  refine SeqOps.put 7 rfl rfl rfl (O.call (fid := 87) (cap := #[]) (args := [v, (.int .i64 (3)), (strOf [97, 32, 114, 101, 99, 111, 114, 100])]) rfl rfl rfl Tryz.func87 rfl rfl ?_)
  refine Calls.mono (split_calls (a := a) (n := 3) (Ext.agr hE0 hA) hG r hlen (by omega)) ?_
  rintro e w1 ⟨N0, bp, rem, okS, rfl, n0, hbp, hps, hrl, hok1, hok2, hrle⟩
  obtain ⟨b0, b1, b2, rfl⟩ : ∃ b0 b1 b2, rem = [b0, b1, b2] := by match rem, hrl with | [b0, b1, b2], _ => exact ⟨b0, b1, b2, rfl⟩
  have hbrp : br ≠ bp := by omega
  have hkr := Ext.blk n0.st.chg hk0
  have nn0 := ((New.start w NoX).new hE0).trans n0 (fun i hi => hi.elim)
  rw [Hm.nilL] at nn0
  have hr0 : N0 br = none := by rw [n0.st.low br hbr1]
  refine ⟨_, rfl, ?_⟩
  refine SeqOps.put 4 rfl rfl rfl (O.assign (v := (.pointer (some ⟨bp, 0, none⟩))) rfl rfl ?_)
  refine SeqOps.nil ?_
  refine hK2 _ _ ?_
  try clear hK2 K2
  refine W.seq fun K3 hK3 => ?_
  refine W.region ?_
  refine SeqOps.put 8 rfl rfl rfl (O.move (v := (.pointer (some ⟨bp, 0, none⟩))) rfl rfl ?_)
  refine SeqOps.put 9 rfl rfl rfl (O.call (fid := 88) (cap := #[]) (args := [(.pointer (some ⟨bp, 0, none⟩))]) rfl rfl rfl Tryz.func88 rfl rfl ?_)
  refine Calls.mono (pint_calls hps) ?_
  rintro e wm1 ⟨M1, v0_, rfl, nm1, hM1, hp1, ⟨f0, rfl, hrng0, hy0⟩⟩
  have nn1 := nn0.trans nm1 (fun i hi => ⟨.inl (by subst hi; have := hE0.size; omega), by subst hi; exact hps.outN⟩)
  have hkr1 := nm1.st.chg.blk hkr hbrp
  have hr1 : Hm N0 M1 br = none := Hm.none hr0 (by rw [nm1.st.low br (blk_lt hkr)])
  have hle1 : Hle N0 (Hm N0 M1) := nn0.le1 nm1
  refine ⟨_, rfl, ?_⟩
  refine SeqOps.put 10 rfl rfl rfl (O.move (v := (.pointer (some ⟨bp, 0, none⟩))) rfl rfl ?_)
  refine SeqOps.put 11 rfl rfl rfl (O.call (fid := 107) (cap := #[]) (args := [(.pointer (some ⟨bp, 0, none⟩)), (.func (.func 108) #[] #[])]) rfl rfl rfl Tryz.func107 rfl rfl ?_)
  refine Calls.mono (all_i64_calls hp1 (by have := hrle b1 (by simp); omega)) ?_
  rintro e wm2 ⟨M2, v1_, rfl, nm2, hM2, hp2, ⟨⟨ao1, n1, cap1, rfl⟩, hy1⟩⟩
  have nn2 := nn1.trans nm2 (fun i hi => ⟨.inl (by subst hi; have := hE0.size; omega), by subst hi; exact hp1.outN⟩)
  have hkr2 := nm2.st.chg.blk hkr1 hbrp
  have hr2 : Hm (Hm N0 M1) M2 br = none := Hm.none hr1 (by rw [nm2.st.low br (blk_lt hkr1)])
  have hle2 : Hle (Hm N0 M1) (Hm (Hm N0 M1) M2) := nn1.le1 nm2
  refine ⟨_, rfl, ?_⟩
  refine SeqOps.put 12 rfl rfl rfl (O.move (v := (.pointer (some ⟨bp, 0, none⟩))) rfl rfl ?_)
  refine SeqOps.put 13 rfl rfl rfl (O.call (fid := 109) (cap := #[]) (args := [(.pointer (some ⟨bp, 0, none⟩)), (.func (.func 110) #[] #[])]) rfl rfl rfl Tryz.func109 rfl rfl ?_)
  refine Calls.mono (all_ints_calls hp2 (by have := hrle b2 (by simp); omega)) ?_
  rintro e wm3 ⟨M3, v2_, rfl, nm3, hM3, hp3, ⟨⟨ao2, n2, cap2, rfl⟩, hy2⟩⟩
  have nn3 := nn2.trans nm3 (fun i hi => ⟨.inl (by subst hi; have := hE0.size; omega), by subst hi; exact hp2.outN⟩)
  have hkr3 := nm3.st.chg.blk hkr2 hbrp
  have hr3 : Hm (Hm (Hm N0 M1) M2) M3 br = none := Hm.none hr2 (by rw [nm3.st.low br (blk_lt hkr2)])
  have hle3 : Hle (Hm (Hm N0 M1) M2) (Hm (Hm (Hm N0 M1) M2) M3) := nn2.le1 nm3
  refine ⟨_, rfl, ?_⟩
  obtain ⟨q, hq⟩ : ∃ q : VRecord, q = ⟨f0, (.slice ao1 n1 cap1), (.slice ao2 n2 cap2)⟩ := ⟨_, rfl⟩
  refine SeqOps.put 14 rfl rfl rfl (O.build (vps := [(0, (.int .i64 (f0))), (1, (.slice ao1 n1 cap1)), (2, (.slice ao2 n2 cap2))]) (cells := (VRecord.cells ⟨f0, (.slice ao1 n1 cap1), (.slice ao2 n2 cap2)⟩)) rfl rfl (by kernel_rfl) ?_)
  rw [← hq]
  have hqok : q.ok := by rw [hq]; exact ⟨rfl, rfl⟩
  refine SeqOps.put 5 rfl rfl rfl (O.alloc rfl zr55 ?_)
  intro bq wa hbq hbq1 hEa hkq0
  refine SeqOps.eff rfl rfl (O.store (b := bq) (off := 0) (v := .agg (List.toArray q.cells)) (n := 3) (c' := q.cells.toArray) rfl rfl rfl hkq0 sz55 rfl (by decide) (VRecord.one hqok) rfl ?_)
  intro wq hCq hkq
  have hEq : Ext wm3 wq := hEa.trans_new hCq fun i hi => .inl (by omega)
  have hpq := hp3.ext hEq
  have hkrq := Ext.blk hEq hkr3
  have hqr : bq ≠ br := by have := blk_lt hkr3; omega
  have hpr : bp ≠ br := Ne.symm hbrp
  obtain ⟨lv, ev, hkp, hevf, hev⟩ := hpq.final
  skip
  refine SeqOps.nil ?_
  refine hK3 _ _ ?_
  try clear hK3 K3
  refine W.seq fun K4 hK4 => ?_
  obtain ⟨obj, hobj⟩ : ∃ o, o = Obj.cells q.cells.toArray 55 (0, 0) := ⟨_, rfl⟩
  refine W.region_any (by kernel_rfl) (by kernel_rfl) [15, 16, 17, 18, 19, 3] rfl (fun a b => RStoreC br (.cells q.cells.toArray 55 (0, 0)) 3 55 a b) (fun _ => RStoreC.refl _ _ _ _ _) (fun h k => RStoreC.trans h k) [
      (fun (u : Value) (_ : World) => u = .agg (List.toArray q.cells)),
      (fun (u : Value) (_ : World) => u = Value.pointer (some ⟨bp, 0, none⟩)),
      (fun (u : Value) (_ : World) => u = Value.pointer (some ⟨bp, 0, none⟩)),
      (fun (u : Value) (_ : World) => u = Value.pointer (some ⟨bp, 1, none⟩)),
      (fun (u : Value) (_ : World) => u = ev),
      (fun (_ : Value) (w : World) => w.heap[br]? = some (.cells q.cells.toArray 55 (0, 0))),
      (fun (u : Value) (_ : World) => u = ev)
    ] ⟨fun _ _ _ _ h => h, fun _ _ _ _ h => h, fun _ _ _ _ h => h, fun _ _ _ _ h => h, fun _ _ _ _ h => h, fun _ _ _ hE h => hE.2.1 h, fun _ _ _ _ h => h, trivial⟩ ⟨?_, ?_, ?_, ?_, ?_, ?_, ?_, trivial⟩ ?_
  · intro g w1 hR hf hd
    have h1 : g 5 = .pointer (some ⟨bq, 0, none⟩) := hf 5 (by decide)
    have hb1 := Chg.blk hR.1 (show wq.drew.heap[bq]? = _ from hkq) hqr
    exact StepT.plain rfl (O.loadBlk (b := bq) (off := 0) (cs := q.cells) rfl h1 hb1 Tryz.underlying55 rfl sz55 rfl ⟨RStoreC.refl _ _ _ _ _, rfl⟩)
  · intro g w1 hR hf hd
    have h1 : g 4 = Value.pointer (some ⟨bp, 0, none⟩) := hf 4 (by decide)
    exact StepT.plain rfl (O.move (v := Value.pointer (some ⟨bp, 0, none⟩)) rfl h1 ⟨RStoreC.refl _ _ _ _ _, rfl⟩)
  · intro g w1 hR hf hd
    have h1 : (fun (u : Value) (_ : World) => u = Value.pointer (some ⟨bp, 0, none⟩)) (g 16) w1 := hd.1 rfl
    exact StepT.plain rfl (O.nilCheckPtr (a := ⟨bp, 0, none⟩) rfl h1 ⟨RStoreC.refl _ _ _ _ _, rfl⟩)
  · intro g w1 hR hf hd
    have h1 : (fun (u : Value) (_ : World) => u = Value.pointer (some ⟨bp, 0, none⟩)) (g 17) w1 := hd.1 rfl
    exact StepT.plain rfl (O.fieldAddr (a := ⟨bp, 0, none⟩) (v := Value.pointer (some ⟨bp, 1, none⟩)) rfl h1 Tryz.underlying177 rfl (by kernel_rfl) rfl ⟨RStoreC.refl _ _ _ _ _, rfl⟩)
  · intro g w1 hR hf hd
    have h1 : (fun (u : Value) (_ : World) => u = Value.pointer (some ⟨bp, 1, none⟩)) (g 18) w1 := hd.1 rfl
    have hb1 := Chg.blk hR.1 (show wq.drew.heap[bp]? = _ from hkp) hpr
    exact StepT.plain rfl (O.loadBlk1 (b := bp) (off := 1) (v := ev) rfl h1 hb1 Tryz.underlying162 rfl rfl ⟨RStoreC.refl _ _ _ _ _, rfl⟩)
  · intro g w1 hR hf hd
    have h1 : g 2 = .pointer (some ⟨br, 0, none⟩) := hf 2 (by decide)
    have h2 : g 15 = .agg (List.toArray q.cells) := hd.1 rfl
    obtain ⟨cr, hcr, hk⟩ := hR.2.2 ⟨_, rfl, show wq.drew.heap[br]? = _ from hkrq⟩
    refine StepT.plain rfl (O.store (b := br) (off := 0) (v := .agg (List.toArray q.cells)) (n := 3) (c' := q.cells.toArray) rfl h1 h2 hk sz55 rfl (by rw [Nat.zero_add, hcr]; exact Nat.le_refl _) (VRecord.one hqok) (by simp [Value.cells, VRecord.length, hcr]) ?_)
    intro w2 hC hk2
    exact ⟨⟨hC, fun _ => hk2, fun _ => ⟨_, VRecord.length q, hk2⟩⟩, hk2⟩
  · intro g w1 hR hf hd
    have h1 : g 19 = ev := hd.1 rfl
    exact StepT.plain rfl (O.assign (v := ev) rfl h1 ⟨RStoreC.refl _ _ _ _ _, rfl⟩)
  intro g w9 hR hf hall
  have hf5 := hall.2.2.2.2.2.1
  have hf6 := hall.2.2.2.2.2.2.1
  refine hK4 _ _ ?_
  try clear hK4 K4
  refine W.ret ?_
  have n9 := ((nn3.new hEq).new (Ext.drew wq)).step hR.1 (fun i hi => ⟨.inl (by omega), by subst hi; exact hr3⟩)
  refine retQ_cell2 (b := br) (cs := q.cells) rfl (hf 2 (by decide)) hf6 hf5 Tryz.underlying55 rfl sz55 ⟨_, _, _, rfl, n9, ⟨q, rfl, hqok⟩, ?_⟩
  rcases hev with ⟨hok, rfl⟩ | ⟨hok, he⟩
  · simp only [Bool.and_eq_true] at hok
    obtain ⟨⟨⟨hok0, hs0⟩, hs1⟩, hs2⟩ := hok
    obtain ⟨y0, hd0⟩ := Option.isSome_iff_exists.1 hs0
    obtain ⟨y1, hd1⟩ := Option.isSome_iff_exists.1 hs1
    obtain ⟨y2, hd2⟩ := Option.isSome_iff_exists.1 hs2
    refine .inl ⟨⟨y0, y1, y2⟩, ?_, rfl, q, rfl, ?_⟩
    · unfold dRecord; rw [hok1 hok0]; exact dRecordL_some hd0 hd1 hd2
    · rw [hq]; exact ⟨⟨hy0 _ hd0, by rw [← hy0 _ hd0]; exact hrng0⟩, RInts.mono (hy1 _ hd1) ((Hm.right _ M2).trans hle3), RLL.mono (hy2 _ hd2) (Hm.right _ M3)⟩
  · refine .inr ⟨?_, he⟩
    cases hokS : okS with
    | false =>
      unfold dRecord
      cases hs : split bs with
      | none => rfl
      | some l => exact dRecordL_len (hok2 hokS l hs)
    | true =>
      unfold dRecord
      rw [hok1 hokS]
      have hiss := dRecordL_isSome b0 b1 b2
      rw [hokS] at hok; simp only [Bool.true_and] at hok hiss
      rw [show dInts b1 = dList dI64 b1 from rfl] at hiss
      rw [hok] at hiss
      simpa using hiss

def wfTx (v : Value) : Prop := ∃ q : VTx, v = .agg (List.toArray q.cells) ∧ q.ok
def phTx (N : Heap) (v : Value) (y : DTx) : Prop := ∃ q : VTx, v = .agg (List.toArray q.cells) ∧ RTx N q y
set_option maxHeartbeats 1000000 in
theorem read_Tx_calls {a : Addr} {H : Heap} {w : World} {v : Value} {bs : List UInt8} (hA : Agr H w) (hG : hcell H ⟨1, 0, none⟩ = some (eS a)) (r : RB H v bs) (hlen : bs.length ≤ 1099511627776) :
    Calls Tryz.prog 79 #[v] w (RetRd a dTx wfTx phTx w bs) := by
  refine calls_of_W (n := 34) Tryz.func79 rfl Tryz.ntmps79 (Nat.le_of_ble_eq_true rfl) ?_
  refine W.seq fun K1 hK1 => ?_
  refine W.region ?_
  refine SeqOps.put 2 rfl rfl rfl (O.alloc rfl zr82 ?_)
  intro br w0 hbr hbr1 hE0 hk0
  refine SeqOps.put 3 rfl rfl rfl (O.assign (v := .nilIface) rfl rfl ?_)
  refine SeqOps.nil ?_
  refine hK1 _ _ ?_
  try clear hK1 K1
  refine W.seq fun K2 hK2 => ?_
  refine W.region ?_
  refine SeqOps.put 6 rfl rfl rfl (O.move (v := v) rfl rfl ?_)
  refine SeqOps.put 7 rfl rfl rfl (O.call (fid := 87) (cap := #[]) (args := [v, (.int .i64 (10)), (strOf [97, 32, 116, 114, 97, 110, 115, 97, 99, 116, 105, 111, 110])]) rfl rfl rfl Tryz.func87 rfl rfl ?_)
  refine Calls.mono (split_calls (a := a) (n := 10) (Ext.agr hE0 hA) hG r hlen (by omega)) ?_
  rintro e w1 ⟨N0, bp, rem, okS, rfl, n0, hbp, hps, hrl, hok1, hok2, hrle⟩
  obtain ⟨b0, b1, b2, b3, b4, b5, b6, b7, b8, b9, rfl⟩ : ∃ b0 b1 b2 b3 b4 b5 b6 b7 b8 b9, rem = [b0, b1, b2, b3, b4, b5, b6, b7, b8, b9] := by match rem, hrl with | [b0, b1, b2, b3, b4, b5, b6, b7, b8, b9], _ => exact ⟨b0, b1, b2, b3, b4, b5, b6, b7, b8, b9, rfl⟩
  have hbrp : br ≠ bp := by omega
  have hkr := Ext.blk n0.st.chg hk0
  have nn0 := ((New.start w NoX).new hE0).trans n0 (fun i hi => hi.elim)
  rw [Hm.nilL] at nn0
  have hr0 : N0 br = none := by rw [n0.st.low br hbr1]
  refine ⟨_, rfl, ?_⟩
  refine SeqOps.put 4 rfl rfl rfl (O.assign (v := (.pointer (some ⟨bp, 0, none⟩))) rfl rfl ?_)
  refine SeqOps.nil ?_
  refine hK2 _ _ ?_
  try clear hK2 K2
  refine W.seq fun K3 hK3 => ?_
  refine W.region ?_
  refine SeqOps.put 8 rfl rfl rfl (O.move (v := (.pointer (some ⟨bp, 0, none⟩))) rfl rfl ?_)
  refine SeqOps.put 9 rfl rfl rfl (O.call (fid := 88) (cap := #[]) (args := [(.pointer (some ⟨bp, 0, none⟩))]) rfl rfl rfl Tryz.func88 rfl rfl ?_)
  refine Calls.mono (pint_calls hps) ?_
  rintro e wm1 ⟨M1, v0_, rfl, nm1, hM1, hp1, ⟨f0, rfl, hrng0, hy0⟩⟩
  have nn1 := nn0.trans nm1 (fun i hi => ⟨.inl (by subst hi; have := hE0.size; omega), by subst hi; exact hps.outN⟩)
  have hkr1 := nm1.st.chg.blk hkr hbrp
  have hr1 : Hm N0 M1 br = none := Hm.none hr0 (by rw [nm1.st.low br (blk_lt hkr)])
  have hle1 : Hle N0 (Hm N0 M1) := nn0.le1 nm1
  refine ⟨_, rfl, ?_⟩
  refine SeqOps.put 10 rfl rfl rfl (O.move (v := (.pointer (some ⟨bp, 0, none⟩))) rfl rfl ?_)
  refine SeqOps.put 11 rfl rfl rfl (O.call (fid := 117) (cap := #[]) (args := [(.pointer (some ⟨bp, 0, none⟩))]) rfl rfl rfl Tryz.func117 rfl rfl ?_)
  refine Calls.mono (u_calls hp1) ?_
  rintro e wm2 ⟨M2, v1_, rfl, nm2, hM2, hp2, ⟨f1, rfl, hrng1, hy1⟩⟩
  have nn2 := nn1.trans nm2 (fun i hi => ⟨.inl (by subst hi; have := hE0.size; omega), by subst hi; exact hp1.outN⟩)
  have hkr2 := nm2.st.chg.blk hkr1 hbrp
  have hr2 : Hm (Hm N0 M1) M2 br = none := Hm.none hr1 (by rw [nm2.st.low br (blk_lt hkr1)])
  have hle2 : Hle (Hm N0 M1) (Hm (Hm N0 M1) M2) := nn1.le1 nm2
  refine ⟨_, rfl, ?_⟩
  refine SeqOps.put 12 rfl rfl rfl (O.move (v := (.pointer (some ⟨bp, 0, none⟩))) rfl rfl ?_)
  refine SeqOps.put 13 rfl rfl rfl (O.call (fid := 117) (cap := #[]) (args := [(.pointer (some ⟨bp, 0, none⟩))]) rfl rfl rfl Tryz.func117 rfl rfl ?_)
  refine Calls.mono (u_calls hp2) ?_
  rintro e wm3 ⟨M3, v2_, rfl, nm3, hM3, hp3, ⟨f2, rfl, hrng2, hy2⟩⟩
  have nn3 := nn2.trans nm3 (fun i hi => ⟨.inl (by subst hi; have := hE0.size; omega), by subst hi; exact hp2.outN⟩)
  have hkr3 := nm3.st.chg.blk hkr2 hbrp
  have hr3 : Hm (Hm (Hm N0 M1) M2) M3 br = none := Hm.none hr2 (by rw [nm3.st.low br (blk_lt hkr2)])
  have hle3 : Hle (Hm (Hm N0 M1) M2) (Hm (Hm (Hm N0 M1) M2) M3) := nn2.le1 nm3
  refine ⟨_, rfl, ?_⟩
  refine SeqOps.put 14 rfl rfl rfl (O.move (v := (.pointer (some ⟨bp, 0, none⟩))) rfl rfl ?_)
  refine SeqOps.put 15 rfl rfl rfl (O.call (fid := 117) (cap := #[]) (args := [(.pointer (some ⟨bp, 0, none⟩))]) rfl rfl rfl Tryz.func117 rfl rfl ?_)
  refine Calls.mono (u_calls hp3) ?_
  rintro e wm4 ⟨M4, v3_, rfl, nm4, hM4, hp4, ⟨f3, rfl, hrng3, hy3⟩⟩
  have nn4 := nn3.trans nm4 (fun i hi => ⟨.inl (by subst hi; have := hE0.size; omega), by subst hi; exact hp3.outN⟩)
  have hkr4 := nm4.st.chg.blk hkr3 hbrp
  have hr4 : Hm (Hm (Hm (Hm N0 M1) M2) M3) M4 br = none := Hm.none hr3 (by rw [nm4.st.low br (blk_lt hkr3)])
  have hle4 : Hle (Hm (Hm (Hm N0 M1) M2) M3) (Hm (Hm (Hm (Hm N0 M1) M2) M3) M4) := nn3.le1 nm4
  refine ⟨_, rfl, ?_⟩
  refine SeqOps.put 16 rfl rfl rfl (O.move (v := (.pointer (some ⟨bp, 0, none⟩))) rfl rfl ?_)
  refine SeqOps.put 17 rfl rfl rfl (O.call (fid := 117) (cap := #[]) (args := [(.pointer (some ⟨bp, 0, none⟩))]) rfl rfl rfl Tryz.func117 rfl rfl ?_)
  refine Calls.mono (u_calls hp4) ?_
  rintro e wm5 ⟨M5, v4_, rfl, nm5, hM5, hp5, ⟨f4, rfl, hrng4, hy4⟩⟩
  have nn5 := nn4.trans nm5 (fun i hi => ⟨.inl (by subst hi; have := hE0.size; omega), by subst hi; exact hp4.outN⟩)
  have hkr5 := nm5.st.chg.blk hkr4 hbrp
  have hr5 : Hm (Hm (Hm (Hm (Hm N0 M1) M2) M3) M4) M5 br = none := Hm.none hr4 (by rw [nm5.st.low br (blk_lt hkr4)])
  have hle5 : Hle (Hm (Hm (Hm (Hm N0 M1) M2) M3) M4) (Hm (Hm (Hm (Hm (Hm N0 M1) M2) M3) M4) M5) := nn4.le1 nm5
  refine ⟨_, rfl, ?_⟩
  refine SeqOps.put 18 rfl rfl rfl (O.move (v := (.pointer (some ⟨bp, 0, none⟩))) rfl rfl ?_)
  refine SeqOps.put 19 rfl rfl rfl (O.call (fid := 88) (cap := #[]) (args := [(.pointer (some ⟨bp, 0, none⟩))]) rfl rfl rfl Tryz.func88 rfl rfl ?_)
  refine Calls.mono (pint_calls hp5) ?_
  rintro e wm6 ⟨M6, v5_, rfl, nm6, hM6, hp6, ⟨f5, rfl, hrng5, hy5⟩⟩
  have nn6 := nn5.trans nm6 (fun i hi => ⟨.inl (by subst hi; have := hE0.size; omega), by subst hi; exact hp5.outN⟩)
  have hkr6 := nm6.st.chg.blk hkr5 hbrp
  have hr6 : Hm (Hm (Hm (Hm (Hm (Hm N0 M1) M2) M3) M4) M5) M6 br = none := Hm.none hr5 (by rw [nm6.st.low br (blk_lt hkr5)])
  have hle6 : Hle (Hm (Hm (Hm (Hm (Hm N0 M1) M2) M3) M4) M5) (Hm (Hm (Hm (Hm (Hm (Hm N0 M1) M2) M3) M4) M5) M6) := nn5.le1 nm6
  refine ⟨_, rfl, ?_⟩
  refine SeqOps.put 20 rfl rfl rfl (O.move (v := (.pointer (some ⟨bp, 0, none⟩))) rfl rfl ?_)
  refine SeqOps.put 21 rfl rfl rfl (O.call (fid := 89) (cap := #[]) (args := [(.pointer (some ⟨bp, 0, none⟩))]) rfl rfl rfl Tryz.func89 rfl rfl ?_)
  refine Calls.mono (pn_calls hp6) ?_
  rintro e wm7 ⟨M7, v6_, rfl, nm7, hM7, hp7, ⟨f6, rfl, hrng6, hy6⟩⟩
  have nn7 := nn6.trans nm7 (fun i hi => ⟨.inl (by subst hi; have := hE0.size; omega), by subst hi; exact hp6.outN⟩)
  have hkr7 := nm7.st.chg.blk hkr6 hbrp
  have hr7 : Hm (Hm (Hm (Hm (Hm (Hm (Hm N0 M1) M2) M3) M4) M5) M6) M7 br = none := Hm.none hr6 (by rw [nm7.st.low br (blk_lt hkr6)])
  have hle7 : Hle (Hm (Hm (Hm (Hm (Hm (Hm N0 M1) M2) M3) M4) M5) M6) (Hm (Hm (Hm (Hm (Hm (Hm (Hm N0 M1) M2) M3) M4) M5) M6) M7) := nn6.le1 nm7
  refine ⟨_, rfl, ?_⟩
  refine SeqOps.put 22 rfl rfl rfl (O.move (v := (.pointer (some ⟨bp, 0, none⟩))) rfl rfl ?_)
  refine SeqOps.put 23 rfl rfl rfl (O.call (fid := 90) (cap := #[]) (args := [(.pointer (some ⟨bp, 0, none⟩))]) rfl rfl rfl Tryz.func90 rfl rfl ?_)
  refine Calls.mono (pdigest_calls hp7) ?_
  rintro e wm8 ⟨M8, v7_, rfl, nm8, hM8, hp8, ⟨f7, rfl, hy7⟩⟩
  have nn8 := nn7.trans nm8 (fun i hi => ⟨.inl (by subst hi; have := hE0.size; omega), by subst hi; exact hp7.outN⟩)
  have hkr8 := nm8.st.chg.blk hkr7 hbrp
  have hr8 : Hm (Hm (Hm (Hm (Hm (Hm (Hm (Hm N0 M1) M2) M3) M4) M5) M6) M7) M8 br = none := Hm.none hr7 (by rw [nm8.st.low br (blk_lt hkr7)])
  have hle8 : Hle (Hm (Hm (Hm (Hm (Hm (Hm (Hm N0 M1) M2) M3) M4) M5) M6) M7) (Hm (Hm (Hm (Hm (Hm (Hm (Hm (Hm N0 M1) M2) M3) M4) M5) M6) M7) M8) := nn7.le1 nm8
  refine ⟨_, rfl, ?_⟩
  refine SeqOps.put 24 rfl rfl rfl (O.move (v := (.pointer (some ⟨bp, 0, none⟩))) rfl rfl ?_)
  refine SeqOps.put 25 rfl rfl rfl (O.call (fid := 88) (cap := #[]) (args := [(.pointer (some ⟨bp, 0, none⟩))]) rfl rfl rfl Tryz.func88 rfl rfl ?_)
  refine Calls.mono (pint_calls hp8) ?_
  rintro e wm9 ⟨M9, v8_, rfl, nm9, hM9, hp9, ⟨f8, rfl, hrng8, hy8⟩⟩
  have nn9 := nn8.trans nm9 (fun i hi => ⟨.inl (by subst hi; have := hE0.size; omega), by subst hi; exact hp8.outN⟩)
  have hkr9 := nm9.st.chg.blk hkr8 hbrp
  have hr9 : Hm (Hm (Hm (Hm (Hm (Hm (Hm (Hm (Hm N0 M1) M2) M3) M4) M5) M6) M7) M8) M9 br = none := Hm.none hr8 (by rw [nm9.st.low br (blk_lt hkr8)])
  have hle9 : Hle (Hm (Hm (Hm (Hm (Hm (Hm (Hm (Hm N0 M1) M2) M3) M4) M5) M6) M7) M8) (Hm (Hm (Hm (Hm (Hm (Hm (Hm (Hm (Hm N0 M1) M2) M3) M4) M5) M6) M7) M8) M9) := nn8.le1 nm9
  refine ⟨_, rfl, ?_⟩
  refine SeqOps.put 26 rfl rfl rfl (O.move (v := (.pointer (some ⟨bp, 0, none⟩))) rfl rfl ?_)
  refine SeqOps.put 27 rfl rfl rfl (O.call (fid := 118) (cap := #[]) (args := [(.pointer (some ⟨bp, 0, none⟩)), (.func (.func 43) #[] #[])]) rfl rfl rfl Tryz.func118 rfl rfl ?_)
  refine Calls.mono (all_Fact_calls hp9 (by have := hrle b9 (by simp); omega)) ?_
  rintro e wm10 ⟨M10, v9_, rfl, nm10, hM10, hp10, ⟨⟨ao9, n9, cap9, rfl⟩, hy9⟩⟩
  have nn10 := nn9.trans nm10 (fun i hi => ⟨.inl (by subst hi; have := hE0.size; omega), by subst hi; exact hp9.outN⟩)
  have hkr10 := nm10.st.chg.blk hkr9 hbrp
  have hr10 : Hm (Hm (Hm (Hm (Hm (Hm (Hm (Hm (Hm (Hm N0 M1) M2) M3) M4) M5) M6) M7) M8) M9) M10 br = none := Hm.none hr9 (by rw [nm10.st.low br (blk_lt hkr9)])
  have hle10 : Hle (Hm (Hm (Hm (Hm (Hm (Hm (Hm (Hm (Hm N0 M1) M2) M3) M4) M5) M6) M7) M8) M9) (Hm (Hm (Hm (Hm (Hm (Hm (Hm (Hm (Hm (Hm N0 M1) M2) M3) M4) M5) M6) M7) M8) M9) M10) := nn9.le1 nm10
  refine ⟨_, rfl, ?_⟩
  obtain ⟨q, hq⟩ : ∃ q : VTx, q = ⟨f0, (f1 : Int), (f2 : Int), (f3 : Int), (f4 : Int), f5, f6, f7, f8, (.slice ao9 n9 cap9)⟩ := ⟨_, rfl⟩
  refine SeqOps.put 28 rfl rfl rfl (O.build (vps := [(0, (.int .i64 (f0))), (1, (.int .u64 ((f1 : Int)))), (2, (.int .u64 ((f2 : Int)))), (3, (.int .u64 ((f3 : Int)))), (4, (.int .u64 ((f4 : Int)))), (5, (.int .i64 (f5))), (6, (.int .i64 (f6))), (7, (.agg (List.toArray (digC f7)))), (8, (.int .i64 (f8))), (9, (.slice ao9 n9 cap9))]) (cells := (VTx.cells ⟨f0, (f1 : Int), (f2 : Int), (f3 : Int), (f4 : Int), f5, f6, f7, f8, (.slice ao9 n9 cap9)⟩)) rfl rfl (by kernel_rfl) ?_)
  rw [← hq]
  have hqok : q.ok := by rw [hq]; exact rfl
  refine SeqOps.put 5 rfl rfl rfl (O.alloc rfl zr82 ?_)
  intro bq wa hbq hbq1 hEa hkq0
  refine SeqOps.eff rfl rfl (O.store (b := bq) (off := 0) (v := .agg (List.toArray q.cells)) (n := 41) (c' := q.cells.toArray) rfl rfl rfl hkq0 sz82 rfl (by decide) (VTx.one hqok) rfl ?_)
  intro wq hCq hkq
  have hEq : Ext wm10 wq := hEa.trans_new hCq fun i hi => .inl (by omega)
  have hpq := hp10.ext hEq
  have hkrq := Ext.blk hEq hkr10
  have hqr : bq ≠ br := by have := blk_lt hkr10; omega
  have hpr : bp ≠ br := Ne.symm hbrp
  obtain ⟨lv, ev, hkp, hevf, hev⟩ := hpq.final
  skip
  refine SeqOps.nil ?_
  refine hK3 _ _ ?_
  try clear hK3 K3
  refine W.seq fun K4 hK4 => ?_
  obtain ⟨obj, hobj⟩ : ∃ o, o = Obj.cells q.cells.toArray 82 (0, 0) := ⟨_, rfl⟩
  refine W.region_any (by kernel_rfl) (by kernel_rfl) [29, 30, 31, 32, 33, 3] rfl (fun a b => RStoreC br (.cells q.cells.toArray 82 (0, 0)) 41 82 a b) (fun _ => RStoreC.refl _ _ _ _ _) (fun h k => RStoreC.trans h k) [
      (fun (u : Value) (_ : World) => u = .agg (List.toArray q.cells)),
      (fun (u : Value) (_ : World) => u = Value.pointer (some ⟨bp, 0, none⟩)),
      (fun (u : Value) (_ : World) => u = Value.pointer (some ⟨bp, 0, none⟩)),
      (fun (u : Value) (_ : World) => u = Value.pointer (some ⟨bp, 1, none⟩)),
      (fun (u : Value) (_ : World) => u = ev),
      (fun (_ : Value) (w : World) => w.heap[br]? = some (.cells q.cells.toArray 82 (0, 0))),
      (fun (u : Value) (_ : World) => u = ev)
    ] ⟨fun _ _ _ _ h => h, fun _ _ _ _ h => h, fun _ _ _ _ h => h, fun _ _ _ _ h => h, fun _ _ _ _ h => h, fun _ _ _ hE h => hE.2.1 h, fun _ _ _ _ h => h, trivial⟩ ⟨?_, ?_, ?_, ?_, ?_, ?_, ?_, trivial⟩ ?_
  · intro g w1 hR hf hd
    have h1 : g 5 = .pointer (some ⟨bq, 0, none⟩) := hf 5 (by decide)
    have hb1 := Chg.blk hR.1 (show wq.drew.heap[bq]? = _ from hkq) hqr
    exact StepT.plain rfl (O.loadBlk (b := bq) (off := 0) (cs := q.cells) rfl h1 hb1 Tryz.underlying82 rfl sz82 rfl ⟨RStoreC.refl _ _ _ _ _, rfl⟩)
  · intro g w1 hR hf hd
    have h1 : g 4 = Value.pointer (some ⟨bp, 0, none⟩) := hf 4 (by decide)
    exact StepT.plain rfl (O.move (v := Value.pointer (some ⟨bp, 0, none⟩)) rfl h1 ⟨RStoreC.refl _ _ _ _ _, rfl⟩)
  · intro g w1 hR hf hd
    have h1 : (fun (u : Value) (_ : World) => u = Value.pointer (some ⟨bp, 0, none⟩)) (g 30) w1 := hd.1 rfl
    exact StepT.plain rfl (O.nilCheckPtr (a := ⟨bp, 0, none⟩) rfl h1 ⟨RStoreC.refl _ _ _ _ _, rfl⟩)
  · intro g w1 hR hf hd
    have h1 : (fun (u : Value) (_ : World) => u = Value.pointer (some ⟨bp, 0, none⟩)) (g 31) w1 := hd.1 rfl
    exact StepT.plain rfl (O.fieldAddr (a := ⟨bp, 0, none⟩) (v := Value.pointer (some ⟨bp, 1, none⟩)) rfl h1 Tryz.underlying177 rfl (by kernel_rfl) rfl ⟨RStoreC.refl _ _ _ _ _, rfl⟩)
  · intro g w1 hR hf hd
    have h1 : (fun (u : Value) (_ : World) => u = Value.pointer (some ⟨bp, 1, none⟩)) (g 32) w1 := hd.1 rfl
    have hb1 := Chg.blk hR.1 (show wq.drew.heap[bp]? = _ from hkp) hpr
    exact StepT.plain rfl (O.loadBlk1 (b := bp) (off := 1) (v := ev) rfl h1 hb1 Tryz.underlying162 rfl rfl ⟨RStoreC.refl _ _ _ _ _, rfl⟩)
  · intro g w1 hR hf hd
    have h1 : g 2 = .pointer (some ⟨br, 0, none⟩) := hf 2 (by decide)
    have h2 : g 29 = .agg (List.toArray q.cells) := hd.1 rfl
    obtain ⟨cr, hcr, hk⟩ := hR.2.2 ⟨_, rfl, show wq.drew.heap[br]? = _ from hkrq⟩
    refine StepT.plain rfl (O.store (b := br) (off := 0) (v := .agg (List.toArray q.cells)) (n := 41) (c' := q.cells.toArray) rfl h1 h2 hk sz82 rfl (by rw [Nat.zero_add, hcr]; exact Nat.le_refl _) (VTx.one hqok) (by simp [Value.cells, VTx.length, hcr]) ?_)
    intro w2 hC hk2
    exact ⟨⟨hC, fun _ => hk2, fun _ => ⟨_, VTx.length q, hk2⟩⟩, hk2⟩
  · intro g w1 hR hf hd
    have h1 : g 33 = ev := hd.1 rfl
    exact StepT.plain rfl (O.assign (v := ev) rfl h1 ⟨RStoreC.refl _ _ _ _ _, rfl⟩)
  intro g w9 hR hf hall
  have hf5 := hall.2.2.2.2.2.1
  have hf6 := hall.2.2.2.2.2.2.1
  refine hK4 _ _ ?_
  try clear hK4 K4
  refine W.ret ?_
  have n9 := ((nn10.new hEq).new (Ext.drew wq)).step hR.1 (fun i hi => ⟨.inl (by omega), by subst hi; exact hr10⟩)
  refine retQ_cell2 (b := br) (cs := q.cells) rfl (hf 2 (by decide)) hf6 hf5 Tryz.underlying82 rfl sz82 ⟨_, _, _, rfl, n9, ⟨q, rfl, hqok⟩, ?_⟩
  rcases hev with ⟨hok, rfl⟩ | ⟨hok, he⟩
  · simp only [Bool.and_eq_true] at hok
    obtain ⟨⟨⟨⟨⟨⟨⟨⟨⟨⟨hok0, hs0⟩, hs1⟩, hs2⟩, hs3⟩, hs4⟩, hs5⟩, hs6⟩, hs7⟩, hs8⟩, hs9⟩ := hok
    obtain ⟨y0, hd0⟩ := Option.isSome_iff_exists.1 hs0
    obtain ⟨y1, hd1⟩ := Option.isSome_iff_exists.1 hs1
    obtain ⟨y2, hd2⟩ := Option.isSome_iff_exists.1 hs2
    obtain ⟨y3, hd3⟩ := Option.isSome_iff_exists.1 hs3
    obtain ⟨y4, hd4⟩ := Option.isSome_iff_exists.1 hs4
    obtain ⟨y5, hd5⟩ := Option.isSome_iff_exists.1 hs5
    obtain ⟨y6, hd6⟩ := Option.isSome_iff_exists.1 hs6
    obtain ⟨y7, hd7⟩ := Option.isSome_iff_exists.1 hs7
    obtain ⟨y8, hd8⟩ := Option.isSome_iff_exists.1 hs8
    obtain ⟨y9, hd9⟩ := Option.isSome_iff_exists.1 hs9
    refine .inl ⟨⟨y0, y1, y2, y3, y4, y5, y6, y7, y8, y9⟩, ?_, rfl, q, rfl, ?_⟩
    · unfold dTx; rw [hok1 hok0]; exact dTxL_some hd0 hd1 hd2 hd3 hd4 hd5 hd6 hd7 hd8 hd9
    · rw [hq]; exact ⟨⟨hy0 _ hd0, by rw [← hy0 _ hd0]; exact hrng0⟩, (u64_fact hrng1 hy1 hd1), (u64_fact hrng2 hy2 hd2), (u64_fact hrng3 hy3 hd3), (u64_fact hrng4 hy4 hd4), ⟨hy5 _ hd5, by rw [← hy5 _ hd5]; exact hrng5⟩, ⟨hy6 _ hd6, by rw [← hy6 _ hd6]; exact hrng6⟩, hy7 _ hd7, ⟨hy8 _ hd8, by rw [← hy8 _ hd8]; exact hrng8⟩, RL.mono (R := cFact) cFact.mono (hy9 _ hd9) (Hm.right _ M10)⟩
  · refine .inr ⟨?_, he⟩
    cases hokS : okS with
    | false =>
      unfold dTx
      cases hs : split bs with
      | none => rfl
      | some l => exact dTxL_len (hok2 hokS l hs)
    | true =>
      unfold dTx
      rw [hok1 hokS]
      have hiss := dTxL_isSome b0 b1 b2 b3 b4 b5 b6 b7 b8 b9
      rw [hokS] at hok; simp only [Bool.true_and] at hok hiss
      rw [hok] at hiss
      simpa using hiss

theorem all_Tx_calls {a : Addr} {HL N : Heap} {w : World} {bp : Nat} {b : List UInt8} {rem : List (List UInt8)} {ok : Bool} (h : PS a HL N w bp (b :: rem) ok) (hlen : b.length ≤ 1099511627776) :
    Calls Tryz.prog 95 #[.pointer (some ⟨bp, 0, none⟩), .func (.func 79) #[] #[]] w (RetP a HL N w bp rem (ok && (dList dTx b).isSome) (fun M v => (∃ ao n cap, v = .slice ao n cap) ∧ ∀ ys, dList dTx b = some ys → RL 41 cTx M v ys)) := by
  have hlt0 := h.lt
  have h0L : ∀ {k}, w.heap.size ≤ k → HL k = none := fun hk => h.agrL.none hk
  have h0N : ∀ {k}, w.heap.size ≤ k → N k = none := fun hk => h.agrN.none hk
  cases hsp : split b with
  | none =>
    refine calls_of_W (n := 52) Tryz.func95 rfl Tryz.ntmps95 (Nat.le_of_ble_eq_true rfl) ?_
    refine W.seq fun K1 hK1 => ?_
    refine W.region ?_
    refine SeqOps.put 4 rfl rfl rfl (O.assign (v := (.slice none 0 0)) rfl rfl ?_)
    refine SeqOps.nil ?_
    refine hK1 _ _ ?_
    try clear hK1 K1
    refine W.seq fun K2 hK2 => ?_
    refine W.region ?_
    refine SeqOps.put 13 rfl rfl rfl (O.move (v := (.pointer (some ⟨bp, 0, none⟩))) rfl rfl ?_)
    refine SeqOps.put 14 rfl rfl rfl (O.call (fid := 125) (cap := #[]) (args := [(.pointer (some ⟨bp, 0, none⟩))]) rfl rfl rfl Tryz.func125 rfl rfl ?_)
    refine Calls.mono (next_calls h) ?_
    rintro e w1 ⟨v1, rfl, hr, h1, hC1⟩
    refine ⟨_, rfl, ?_⟩
    refine SeqOps.put 15 rfl rfl rfl (O.call (fid := 123) (cap := #[]) (args := [v1]) rfl rfl rfl Tryz.func123 rfl rfl ?_)
    refine Calls.mono (Split_calls h1.agrL hr hlen) ?_
    rintro e w2 ⟨M, v2, st, hres⟩
    obtain ⟨rfl, rfl⟩ : v2 = .slice none 0 0 ∧ e = .returned (.tuple #[v2, .bool false]) := by rcases hres with ⟨l, h1, _⟩ | ⟨_, h2, h3⟩ <;> first | exact ⟨h2, h3⟩ | (rw [hsp] at h1; cases h1; done)
    have n2 := (New.ofChg hC1).trans st (fun i hi => hi.elim)
    rw [Hm.nilL] at n2
    have hM : M bp = none := by rw [st.st.low bp h1.lt]
    replace h1 := h1.new st
    refine ⟨_, rfl, ?_⟩
    refine SeqOps.put 12 rfl rfl rfl (O.move (v := (.tuple #[(.slice none 0 0), (.bool (false))])) rfl rfl ?_)
    refine SeqOps.put 16 rfl rfl rfl (O.extract (v := (.slice none 0 0)) rfl rfl rfl ?_)
    refine SeqOps.put 17 rfl rfl rfl (O.extract (v := (.bool (false))) rfl rfl rfl ?_)
    refine SeqOps.put 5 rfl rfl rfl (O.assign (v := (.slice none 0 0)) rfl rfl ?_)
    refine SeqOps.put 6 rfl rfl rfl (O.assign (v := (.bool (false))) rfl rfl ?_)
    refine SeqOps.nil ?_
    refine hK2 _ _ ?_
    try clear hK2 K2
    refine W.seq fun K3 hK3 => ?_
    refine W.seq fun K4 hK4 => ?_
    refine W.region ?_
    refine SeqOps.put 18 rfl rfl rfl (O.move (v := (.bool (false))) rfl rfl ?_)
    refine SeqOps.put 19 rfl rfl rfl (O.not (b := false) rfl rfl ?_)
    refine SeqOps.nil ?_
    refine hK4 _ _ ?_
    try clear hK4 K4
    refine W.cond_true rfl ?_
    refine W.region ?_
    refine SeqOps.put 20 rfl rfl rfl (O.move (v := (.pointer (some ⟨bp, 0, none⟩))) rfl rfl ?_)
    refine SeqOps.put 21 rfl rfl rfl (O.loadOne (a := ⟨1, 0, none⟩) (v := eS a) rfl rfl Tryz.underlying162 rfl (h1.agrL.cell h1.glob) ?_)
    refine SeqOps.put 22 rfl rfl rfl (O.build (vps := [(0, (strOf [97, 32, 108, 105, 115, 116])), (1, (eS a))]) (cells := [(strOf [97, 32, 108, 105, 115, 116]), (eS a)]) rfl rfl (by kernel_rfl) ?_)
    refine SeqOps.put 23 rfl rfl rfl (O.box (v := (.agg (List.toArray ([(strOf [97, 32, 108, 105, 115, 116]), (eS a)])))) rfl rfl ?_)
    intro b3 w3 hb3 hb3l hEw3 hkb3
    obtain ⟨h3, hN3, e3⟩ := h1.wrong hEw3 hb3 hkb3
    refine SeqOps.put 24 rfl rfl rfl (O.makeIface (v := (.pointer (some ⟨b3, 0, none⟩))) rfl rfl Tryz.underlying160 rfl ?_)
    refine SeqOps.put 25 rfl rfl rfl (O.call (fid := 126) (cap := #[]) (args := [(.pointer (some ⟨bp, 0, none⟩)), (.iface 160 (.pointer (some ⟨b3, 0, none⟩)))]) rfl rfl rfl Tryz.func126 rfl rfl ?_)
    refine Calls.mono (bad_calls h3 (.base (Hadd_same _ _ _))) ?_
    rintro e w4 ⟨rfl, h4, hC4⟩
    refine ⟨_, rfl, ?_⟩
    refine SeqOps.nil ?_
    refine hK3 _ _ ?_
    try clear hK3 K3
    refine W.seq fun K5 hK5 => ?_
    refine W.region ?_
    refine SeqOps.put 7 rfl rfl rfl (O.assign (v := (.slice none 0 0)) rfl rfl ?_)
    refine SeqOps.nil ?_
    refine hK5 _ _ ?_
    try clear hK5 K5
    refine W.seq fun K6 hK6 => ?_
    refine W.seq fun K7 hK7 => ?_
    refine W.region ?_
    refine SeqOps.put 26 rfl rfl rfl (O.move (v := (.slice none 0 0)) rfl rfl ?_)
    refine SeqOps.put 27 rfl rfl rfl (O.lenSlice (ad := none) (n := 0) (c := 0) rfl rfl Tryz.underlying133 ?_)
    refine SeqOps.put 28 rfl rfl rfl (O.move (v := (.int .i64 (0))) rfl rfl ?_)
    refine SeqOps.nil ?_
    refine hK7 _ _ ?_
    try clear hK7 K7
    refine W.block ?_
    refine W.loop [7, 26, 27, 28] (fun vals wk => vals = [.slice none 0 0, .slice none 0 0, .int .i64 0, .int .i64 0] ∧ w4 = wk) (fun _ _ => 0) ⟨rfl, rfl⟩ ?_
    rintro g _ wk ⟨rfl, rfl⟩
    refine W.seq fun K8 hK8 => ?_
    refine W.region ?_
    refine SeqOps.put 29 rfl rfl rfl (O.cmp (a := 0) (b := 0) (r := false) rfl rfl rfl (rfl) ?_)
    refine SeqOps.nil ?_
    refine hK8 _ _ ?_
    try clear hK8 K8
    refine W.seq fun K9 hK9 => ?_
    refine W.cond_false rfl ?_
    refine W.exit ?_
    refine hK6 _ _ ?_
    try clear hK6 K6
    refine W.seq fun K10 hK10 => ?_
    refine W.region ?_
    refine SeqOps.put 51 rfl rfl rfl (O.move (v := (.slice none 0 0)) rfl rfl ?_)
    refine SeqOps.put 4 rfl rfl rfl (O.assign (v := (.slice none 0 0)) rfl rfl ?_)
    refine SeqOps.nil ?_
    refine hK10 _ _ ?_
    try clear hK10 K10
    refine W.ret ?_
    have hlt1 := h1.lt
    have n4 := (n2.trans hN3 (fun i hi => hi.elim)).step hC4 (fun i hi => ⟨.inr hi, by subst hi; exact Hm.none hM (by rw [Hadd_ne _ _ (by omega)])⟩)
    refine retQ_one rfl rfl ⟨_, _, rfl, n4, Hm.none hM (by rw [Hadd_ne _ _ (by omega)]), ?_, ⟨_, _, _, rfl⟩, fun ys hy => ?_⟩
    · have e : (ok && (dList dTx b).isSome) = false := by unfold dList; rw [hsp]; simp
      rw [e, ← Hm.assoc, e3]; exact h4
    · unfold dList at hy; rw [hsp] at hy; cases hy
  | some l =>
    have hll : 8 * l.length ≤ b.length := by have h1 := joinTail_ge l; have h2 := join_length l; rw [split_join hsp] at h2; omega
    have hpl := split_parts_le hsp
    refine calls_of_W (n := 52) Tryz.func95 rfl Tryz.ntmps95 (Nat.le_of_ble_eq_true rfl) ?_
    refine W.seq fun K11 hK11 => ?_
    refine W.region ?_
    refine SeqOps.put 4 rfl rfl rfl (O.assign (v := (.slice none 0 0)) rfl rfl ?_)
    refine SeqOps.nil ?_
    refine hK11 _ _ ?_
    try clear hK11 K11
    refine W.seq fun K12 hK12 => ?_
    refine W.region ?_
    refine SeqOps.put 13 rfl rfl rfl (O.move (v := (.pointer (some ⟨bp, 0, none⟩))) rfl rfl ?_)
    refine SeqOps.put 14 rfl rfl rfl (O.call (fid := 125) (cap := #[]) (args := [(.pointer (some ⟨bp, 0, none⟩))]) rfl rfl rfl Tryz.func125 rfl rfl ?_)
    refine Calls.mono (next_calls h) ?_
    rintro e w1 ⟨v1, rfl, hr, h1, hC1⟩
    refine ⟨_, rfl, ?_⟩
    refine SeqOps.put 15 rfl rfl rfl (O.call (fid := 123) (cap := #[]) (args := [v1]) rfl rfl rfl Tryz.func123 rfl rfl ?_)
    refine Calls.mono (Split_calls h1.agrL hr hlen) ?_
    rintro e w2 ⟨M, v2, st, hres⟩
    obtain ⟨rfl, hl⟩ : e = .returned (.tuple #[v2, .bool true]) ∧ RBB M v2 l := by rcases hres with ⟨l', h1, h2, h3⟩ | ⟨h1, _⟩ <;> first | (rw [hsp] at h1; cases h1; exact ⟨h2, h3⟩) | (rw [hsp] at h1; cases h1; done)
    obtain ⟨ao, cap, rfl⟩ : ∃ ao cap, v2 = .slice ao l.length cap := by obtain ⟨vs, _, rs⟩ := hl; exact rs.form
    have n2 := (New.ofChg hC1).trans st (fun i hi => hi.elim)
    rw [Hm.nilL] at n2
    have hM : M bp = none := by rw [st.st.low bp h1.lt]
    replace h1 := h1.new st
    refine ⟨_, rfl, ?_⟩
    refine SeqOps.put 12 rfl rfl rfl (O.move (v := (.tuple #[(.slice ao l.length cap), (.bool (true))])) rfl rfl ?_)
    refine SeqOps.put 16 rfl rfl rfl (O.extract (v := (.slice ao l.length cap)) rfl rfl rfl ?_)
    refine SeqOps.put 17 rfl rfl rfl (O.extract (v := (.bool (true))) rfl rfl rfl ?_)
    refine SeqOps.put 5 rfl rfl rfl (O.assign (v := (.slice ao l.length cap)) rfl rfl ?_)
    refine SeqOps.put 6 rfl rfl rfl (O.assign (v := (.bool (true))) rfl rfl ?_)
    refine SeqOps.nil ?_
    refine hK12 _ _ ?_
    try clear hK12 K12
    refine W.seq fun K13 hK13 => ?_
    refine W.seq fun K14 hK14 => ?_
    refine W.region ?_
    refine SeqOps.put 18 rfl rfl rfl (O.move (v := (.bool (true))) rfl rfl ?_)
    refine SeqOps.put 19 rfl rfl rfl (O.not (b := true) rfl rfl ?_)
    refine SeqOps.nil ?_
    refine hK14 _ _ ?_
    try clear hK14 K14
    refine W.cond_false rfl ?_
    refine W.skip ?_
    refine hK13 _ _ ?_
    try clear hK13 K13
    refine W.seq fun K15 hK15 => ?_
    refine W.region ?_
    refine SeqOps.put 7 rfl rfl rfl (O.assign (v := (.slice none 0 0)) rfl rfl ?_)
    refine SeqOps.nil ?_
    refine hK15 _ _ ?_
    try clear hK15 K15
    refine W.seq fun K16 hK16 => ?_
    refine W.seq fun K17 hK17 => ?_
    refine W.region ?_
    refine SeqOps.put 26 rfl rfl rfl (O.move (v := (.slice ao l.length cap)) rfl rfl ?_)
    refine SeqOps.put 27 rfl rfl rfl (O.lenSlice (ad := ao) (n := l.length) (c := cap) rfl rfl Tryz.underlying133 ?_)
    refine SeqOps.put 28 rfl rfl rfl (O.move (v := (.int .i64 (0))) rfl rfl ?_)
    refine SeqOps.nil ?_
    refine hK17 _ _ ?_
    try clear hK17 K17
    refine W.block ?_
    refine W.loop [0, 1, 7, 26, 27, 28] (fun vals wk => ∃ M okk out css, ∃ k : Nat, vals = [.pointer (some ⟨bp, 0, none⟩), .func (.func 79) #[] #[], out, .slice ao l.length cap, .int .i64 (l.length : Int), .int .i64 (k : Int)] ∧ k ≤ l.length ∧ New w (· = bp) M wk ∧ M bp = none ∧ PS a HL (Hm N M) wk bp rem okk ∧ RBB M (.slice ao l.length cap) l ∧ Own M wk w.heap.size 82 41 out k (List.flatten css) ∧ (∀ cs ∈ css, cs.length = 41) ∧ okk = (ok && (mapO dTx (l.take k)).isSome) ∧ (∀ ys, mapO dTx (l.take k) = some ys → All2 (cTx M) css ys)) (fun vals _ => l.length - (intOf (vals.getD 5 undef)).toNat) ⟨M, ok, _, [], 0, rfl, Nat.zero_le _, n2, hM, h1, hl, Own.nil _ _ _ _ _, by simp, by simp [mapO], fun ys hy => by simp [mapO] at hy; subst hy; exact .nil⟩ ?_
    clear hres n2 hM h1 hl st hC1 hr M
    rintro g _ wk ⟨M, okk, out, css, k, rfl, hk, nk, hM, hp, hl, own, hcs, hokk, hall⟩
    rcases Nat.lt_or_ge k l.length with hlt | hge2
    · have htk : l.take (k + 1) = l.take k ++ [l[k]] := List.take_succ_eq_append_getElem hlt
      have hpk := hpl l[k] (by simp)
      have hl' := hl
      obtain ⟨vs, h2, rs⟩ := hl'
      obtain ⟨hvl, hel⟩ := h2.get hlt
      obtain ⟨ad, rfl, hcel⟩ := rs.elem (i := k) (u := vs[k]) (by simp)
      obtain ⟨ao2, cap2, hv2⟩ := RS.form hel
      rw [hv2] at hcel hel
      have hLM : Agr (Hm HL M) wk := Hm.agr hp.agrL nk.st.agr
      have hGM : hcell (Hm HL M) ⟨1, 0, none⟩ = some (eS a) := (Hm.left h.agrL nk).cell h.glob
      cases hd : dTx l[k] with
      | some y =>
        refine W.seq fun K18 hK18 => ?_
        refine W.region ?_
        refine SeqOps.put 29 rfl rfl rfl (O.cmp (a := (k : Int)) (b := (l.length : Int)) (r := true) rfl rfl rfl (by simp [cmpI]; omega) ?_)
        refine SeqOps.nil ?_
        refine hK18 _ _ ?_
        try clear hK18 K18
        refine W.seq fun K19 hK19 => ?_
        refine W.cond_true rfl ?_
        refine W.skip ?_
        refine hK19 _ _ ?_
        try clear hK19 K19
        refine W.seq fun K20 hK20 => ?_
        refine W.block ?_
        refine W.seq fun K21 hK21 => ?_
        refine W.region ?_
        refine SeqOps.put 30 rfl rfl rfl (O.indexAddr (a := ad) (len := l.length) (cap := cap) (i := (k : Int)) (sz := 1) (v := .pointer (some (ad.add k))) rfl rfl rfl Tryz.underlying133 sz22 (by omega) (by omega) (by simp) ?_)
        refine SeqOps.put 31 rfl rfl rfl (O.loadOne (a := ad.add k) (v := .slice ao2 l[k].length cap2) rfl rfl Tryz.underlying22 rfl (nk.st.agr.cell hcel) ?_)
        refine SeqOps.put 9 rfl rfl rfl (O.assign (v := (.slice ao2 l[k].length cap2)) rfl rfl ?_)
        refine SeqOps.nil ?_
        refine hK21 _ _ ?_
        try clear hK21 K21
        refine W.seq fun K22 hK22 => ?_
        refine W.region ?_
        refine SeqOps.put 33 rfl rfl rfl (O.move (v := (.func (.func 79) #[] #[])) rfl rfl ?_)
        refine SeqOps.put 34 rfl rfl rfl (O.move (v := (.slice ao2 l[k].length cap2)) rfl rfl ?_)
        refine SeqOps.put 35 rfl rfl rfl (O.call (fid := 79) (cap := #[]) (args := [(.slice ao2 l[k].length cap2)]) rfl rfl rfl Tryz.func79 rfl rfl ?_)
        refine Calls.mono (read_Tx_calls (a := a) hLM hGM (hel.mono (Hm.right _ _)) (by omega)) ?_
        rintro e w5 hret
        obtain ⟨N5, v5, rfl, n5, hwf, hph⟩ := RetRd.good hd hret
        have n6 := nk.trans n5 (fun i hi => hi.elim)
        have hp6 := hp.new n5
        rw [Hm.assoc] at hp6
        have hM6 : Hm M N5 bp = none := Hm.none hM (by rw [n5.st.low bp hp.lt])
        have own6 : Own (Hm M N5) w5 w.heap.size 82 41 out k (List.flatten css) := (own.ext n5.st.chg).heap fun j hj => Hm.none (own.out j hj) (by rw [n5.st.low j (own.base hj).2])
        have hle6 : Hle M (Hm M N5) := nk.le1 n5
        obtain ⟨q, rfl, hq⟩ := hph
        refine ⟨_, rfl, ?_⟩
        refine SeqOps.put 32 rfl rfl rfl (O.move (v := (.tuple #[(.agg (List.toArray (q.cells))), .nilIface])) rfl rfl ?_)
        refine SeqOps.put 36 rfl rfl rfl (O.extract (v := (.agg (List.toArray (q.cells)))) rfl rfl rfl ?_)
        refine SeqOps.put 37 rfl rfl rfl (O.extract (v := .nilIface) rfl rfl rfl ?_)
        refine SeqOps.put 10 rfl rfl rfl (O.alloc rfl zr82 ?_)
        intro bq wa hbq hbq1 hEa hkq0
        refine SeqOps.eff rfl rfl (O.store (b := bq) (off := 0) (v := .agg (List.toArray q.cells)) (n := 41) (c' := q.cells.toArray) rfl rfl rfl hkq0 sz82 rfl (by decide) (VTx.one hq.ok) rfl ?_)
        intro wb hCb hkq
        have hEb : Ext w5 wb := hEa.trans_new hCb fun i hi => .inl (by omega)
        have hp6' := hp6
        replace n6 := n6.new hEb; replace hp6 := hp6.ext hEb; replace own6 := own6.ext hEb
        refine SeqOps.put 11 rfl rfl rfl (O.assign (v := .nilIface) rfl rfl ?_)
        refine SeqOps.nil ?_
        refine hK22 _ _ ?_
        try clear hK22 K22
        refine W.seq fun K23 hK23 => ?_
        refine W.seq fun K24 hK24 => ?_
        refine W.region ?_
        refine SeqOps.put 38 rfl rfl rfl (O.move (v := .nilIface) rfl rfl ?_)
        refine SeqOps.put 39 rfl rfl rfl (O.ifaceNil (v := .nilIface) (r := false) rfl rfl (.inl rfl) Tryz.underlying162 (.inr ⟨rfl, rfl⟩) ?_)
        refine SeqOps.nil ?_
        refine hK24 _ _ ?_
        try clear hK24 K24
        refine W.cond_false rfl ?_
        refine W.skip ?_
        refine hK23 _ _ ?_
        try clear hK23 K23
        refine W.region ?_
        refine SeqOps.put 46 rfl rfl rfl (O.move (v := out) rfl rfl ?_)
        refine SeqOps.put 47 rfl rfl rfl (O.loadBlk (b := bq) (off := 0) (cs := q.cells) rfl rfl hkq Tryz.underlying82 rfl sz82 rfl ?_)
        refine SeqOps.put 48 rfl rfl rfl (O.buildSlice (vs := [(.agg (List.toArray (q.cells)))]) rfl rfl rfl Tryz.underlying34 inf82 (by intro u hu; simp at hu; subst hu; rfl) (by decide) ?_)
        intro b9 w9 hb9 hb91 hE9 hk9
        have hcat : catV [(.agg (List.toArray (q.cells)))] = q.cells := by simp [catV, Value.cells]
        rw [hcat] at hk9
        have own9 := own6.ext hE9
        have n9 := n6.new hE9
        refine SeqOps.put 49 rfl rfl rfl (O.append (B := w.heap.size) (v := out) (vx := .slice (some ⟨b9, 0, none⟩) 1 1) (m := 1) (xs := List.flatten css) (news := q.cells) rfl rfl rfl Tryz.underlying34 inf82 rfl own9 (Own.ofBlk (H := fun _ => none) (B := 0) (s := 41) (xs := q.cells) hk9 (Nat.zero_le _) rfl rfl (by decide) (VTx.one hq.ok)).rsw rfl (by omega) (by omega) n9.st.chg.size n9.st.agr ?_)
        intro o10 w10 own10 hC10
        refine SeqOps.put 7 rfl rfl rfl (O.assign (v := o10) rfl rfl ?_)
        refine SeqOps.nil ?_
        refine hK20 _ _ ?_
        try clear hK20 K20
        refine W.region ?_
        refine SeqOps.put 50 rfl rfl rfl (O.arith (a := (k : Int)) (b := 1) (r := (k : Int) + 1) (c := (k : Int) + 1) rfl rfl rfl rfl (by exact wrap_i64 (by omega) (by omega)) ?_)
        refine SeqOps.put 28 rfl rfl rfl (O.move (v := (.int .i64 ((k : Int) + 1))) rfl rfl ?_)
        refine SeqOps.nil ?_
        have n10 := n9.step hC10 (fun i hi => ⟨.inl (own9.base hi).1, own9.out i hi⟩)
        have hp10 := (hp6.ext hE9).chg hC10 (fun i hi => ⟨by have := (own9.base hi).1; omega, h0L (own9.base hi).1, Hm.none (h0N (own9.base hi).1) (own9.out i hi)⟩)
        refine ⟨⟨_, _, o10, css ++ [q.cells], k + 1, rfl, by omega, n10, hM6, hp10, hl.mono hle6, by simpa using own10, ?_, ?_, fun ys hy => ?_⟩, by show l.length - ((k + 1 : Nat) : Int).toNat < l.length - ((k : Nat) : Int).toNat; omega⟩
        · intro cs hcs'; rcases List.mem_append.1 hcs' with h' | h'
          · exact hcs cs h'
          · simp at h'; subst h'; rfl
        · rw [hokk, htk, mapO_snoc, hd]; cases mapO dTx (l.take k) <;> rfl
        · rw [htk, mapO_snoc, hd] at hy
          cases hm : mapO dTx (l.take k) with
          | none => rw [hm] at hy; cases hy
          | some zs =>
            rw [hm] at hy; simp at hy; subst hy
            exact ((hall zs hm).imp fun _ _ hc => cTx.mono (by first | exact hle6 | exact hle8) hc).snoc ⟨q, rfl, hq.mono (Hm.right M N5)⟩
      | none =>
        refine W.seq fun K25 hK25 => ?_
        refine W.region ?_
        refine SeqOps.put 29 rfl rfl rfl (O.cmp (a := (k : Int)) (b := (l.length : Int)) (r := true) rfl rfl rfl (by simp [cmpI]; omega) ?_)
        refine SeqOps.nil ?_
        refine hK25 _ _ ?_
        try clear hK25 K25
        refine W.seq fun K26 hK26 => ?_
        refine W.cond_true rfl ?_
        refine W.skip ?_
        refine hK26 _ _ ?_
        try clear hK26 K26
        refine W.seq fun K27 hK27 => ?_
        refine W.block ?_
        refine W.seq fun K28 hK28 => ?_
        refine W.region ?_
        refine SeqOps.put 30 rfl rfl rfl (O.indexAddr (a := ad) (len := l.length) (cap := cap) (i := (k : Int)) (sz := 1) (v := .pointer (some (ad.add k))) rfl rfl rfl Tryz.underlying133 sz22 (by omega) (by omega) (by simp) ?_)
        refine SeqOps.put 31 rfl rfl rfl (O.loadOne (a := ad.add k) (v := .slice ao2 l[k].length cap2) rfl rfl Tryz.underlying22 rfl (nk.st.agr.cell hcel) ?_)
        refine SeqOps.put 9 rfl rfl rfl (O.assign (v := (.slice ao2 l[k].length cap2)) rfl rfl ?_)
        refine SeqOps.nil ?_
        refine hK28 _ _ ?_
        try clear hK28 K28
        refine W.seq fun K29 hK29 => ?_
        refine W.region ?_
        refine SeqOps.put 33 rfl rfl rfl (O.move (v := (.func (.func 79) #[] #[])) rfl rfl ?_)
        refine SeqOps.put 34 rfl rfl rfl (O.move (v := (.slice ao2 l[k].length cap2)) rfl rfl ?_)
        refine SeqOps.put 35 rfl rfl rfl (O.call (fid := 79) (cap := #[]) (args := [(.slice ao2 l[k].length cap2)]) rfl rfl rfl Tryz.func79 rfl rfl ?_)
        refine Calls.mono (read_Tx_calls (a := a) hLM hGM (hel.mono (Hm.right _ _)) (by omega)) ?_
        rintro e w5 hret
        obtain ⟨N5, v5, be, rfl, n5, hwf, her⟩ := RetRd.bad hd hret
        have n6 := nk.trans n5 (fun i hi => hi.elim)
        have hp6 := hp.new n5
        rw [Hm.assoc] at hp6
        have hM6 : Hm M N5 bp = none := Hm.none hM (by rw [n5.st.low bp hp.lt])
        have own6 : Own (Hm M N5) w5 w.heap.size 82 41 out k (List.flatten css) := (own.ext n5.st.chg).heap fun j hj => Hm.none (own.out j hj) (by rw [n5.st.low j (own.base hj).2])
        have hle6 : Hle M (Hm M N5) := nk.le1 n5
        obtain ⟨q, rfl, hqok⟩ := hwf
        refine ⟨_, rfl, ?_⟩
        refine SeqOps.put 32 rfl rfl rfl (O.move (v := (.tuple #[(.agg (List.toArray (q.cells))), (.iface 160 (.pointer (some ⟨be, 0, none⟩)))])) rfl rfl ?_)
        refine SeqOps.put 36 rfl rfl rfl (O.extract (v := (.agg (List.toArray (q.cells)))) rfl rfl rfl ?_)
        refine SeqOps.put 37 rfl rfl rfl (O.extract (v := (.iface 160 (.pointer (some ⟨be, 0, none⟩)))) rfl rfl rfl ?_)
        refine SeqOps.put 10 rfl rfl rfl (O.alloc rfl zr82 ?_)
        intro bq wa hbq hbq1 hEa hkq0
        refine SeqOps.eff rfl rfl (O.store (b := bq) (off := 0) (v := .agg (List.toArray q.cells)) (n := 41) (c' := q.cells.toArray) rfl rfl rfl hkq0 sz82 rfl (by decide) (VTx.one hqok) rfl ?_)
        intro wb hCb hkq
        have hEb : Ext w5 wb := hEa.trans_new hCb fun i hi => .inl (by omega)
        have hp6' := hp6
        replace n6 := n6.new hEb; replace hp6 := hp6.ext hEb; replace own6 := own6.ext hEb
        refine SeqOps.put 11 rfl rfl rfl (O.assign (v := (.iface 160 (.pointer (some ⟨be, 0, none⟩)))) rfl rfl ?_)
        refine SeqOps.nil ?_
        refine hK29 _ _ ?_
        try clear hK29 K29
        refine W.seq fun K30 hK30 => ?_
        refine W.seq fun K31 hK31 => ?_
        refine W.region ?_
        refine SeqOps.put 38 rfl rfl rfl (O.move (v := (.iface 160 (.pointer (some ⟨be, 0, none⟩)))) rfl rfl ?_)
        refine SeqOps.put 39 rfl rfl rfl (O.ifaceNil (v := (.iface 160 (.pointer (some ⟨be, 0, none⟩)))) (r := true) rfl rfl (.inr ⟨_, _, rfl⟩) Tryz.underlying162 (.inr ⟨rfl, rfl⟩) ?_)
        refine SeqOps.nil ?_
        refine hK31 _ _ ?_
        try clear hK31 K31
        refine W.cond_true rfl ?_
        refine W.region ?_
        refine SeqOps.put 40 rfl rfl rfl (O.move (v := (.pointer (some ⟨bp, 0, none⟩))) rfl rfl ?_)
        refine SeqOps.put 41 rfl rfl rfl (O.move (v := (.iface 160 (.pointer (some ⟨be, 0, none⟩)))) rfl rfl ?_)
        refine SeqOps.put 42 rfl rfl rfl (O.build (vps := [(0, (strOf [105, 110, 32, 97, 32, 108, 105, 115, 116])), (1, (.iface 160 (.pointer (some ⟨be, 0, none⟩))))]) (cells := [(strOf [105, 110, 32, 97, 32, 108, 105, 115, 116]), (.iface 160 (.pointer (some ⟨be, 0, none⟩)))]) rfl rfl (by kernel_rfl) ?_)
        refine SeqOps.put 43 rfl rfl rfl (O.box (v := (.agg (List.toArray ([(strOf [105, 110, 32, 97, 32, 108, 105, 115, 116]), (.iface 160 (.pointer (some ⟨be, 0, none⟩)))])))) rfl rfl ?_)
        intro b7 w7 hb7 hb7l hEw7 hkb7
        obtain ⟨h7, hN7, e7⟩ := hp6.wrong hEw7 hb7 hkb7
        refine SeqOps.put 44 rfl rfl rfl (O.makeIface (v := (.pointer (some ⟨b7, 0, none⟩))) rfl rfl Tryz.underlying160 rfl ?_)
        refine SeqOps.put 45 rfl rfl rfl (O.call (fid := 126) (cap := #[]) (args := [(.pointer (some ⟨bp, 0, none⟩)), (.iface 160 (.pointer (some ⟨b7, 0, none⟩)))]) rfl rfl rfl Tryz.func126 rfl rfl ?_)
        refine Calls.mono (bad_calls h7 (.wrap (Hadd_same _ _ _) (her.mono (Hle.trans (Hm.right M N5) (Hle.trans (Hm.right N _) (Hle.add _ (hp6.agrN.none hb7))))))) ?_
        rintro e w8 ⟨rfl, h8, hC8⟩
        have hlt6 := hp6.lt
        have hM7 : Hm (Hm M N5) (Hadd NH b7 (Obj.cells ((.agg (List.toArray ([(strOf [105, 110, 32, 97, 32, 108, 105, 115, 116]), (.iface 160 (.pointer (some ⟨be, 0, none⟩)))]))) : Value).cells 164 (0, 0))) bp = none := Hm.none hM6 (by rw [Hadd_ne _ _ (by omega)])
        have n8 := (n6.trans hN7 (fun i hi => hi.elim)).step hC8 (fun i hi => ⟨.inr hi, by subst hi; exact hM7⟩)
        rw [← e7, Hm.assoc] at h8
        have own8 : Own (Hm (Hm M N5) (Hadd NH b7 (Obj.cells ((.agg (List.toArray ([(strOf [105, 110, 32, 97, 32, 108, 105, 115, 116]), (.iface 160 (.pointer (some ⟨be, 0, none⟩)))]))) : Value).cells 164 (0, 0)))) w8 w.heap.size 82 41 out k (List.flatten css) := ((own6.ext hEw7).chg hC8 fun j hj e => by subst e; have := (own6.base hj).1; omega).heap fun j hj => Hm.none (own6.out j hj) (by have := (own6.base hj).2; rw [Hadd_ne _ _ (by omega)])
        have hkq8 := hC8.blk (Ext.blk hEw7 hkq) (by have := hp6'.lt; omega)
        have hle8 : Hle M (Hm (Hm M N5) (Hadd NH b7 (Obj.cells ((.agg (List.toArray ([(strOf [105, 110, 32, 97, 32, 108, 105, 115, 116]), (.iface 160 (.pointer (some ⟨be, 0, none⟩)))]))) : Value).cells 164 (0, 0)))) := hle6.trans (n6.le1 hN7)
        refine ⟨_, rfl, ?_⟩
        refine SeqOps.nil ?_
        refine hK30 _ _ ?_
        try clear hK30 K30
        refine W.region ?_
        refine SeqOps.put 46 rfl rfl rfl (O.move (v := out) rfl rfl ?_)
        refine SeqOps.put 47 rfl rfl rfl (O.loadBlk (b := bq) (off := 0) (cs := q.cells) rfl rfl hkq8 Tryz.underlying82 rfl sz82 rfl ?_)
        refine SeqOps.put 48 rfl rfl rfl (O.buildSlice (vs := [(.agg (List.toArray (q.cells)))]) rfl rfl rfl Tryz.underlying34 inf82 (by intro u hu; simp at hu; subst hu; rfl) (by decide) ?_)
        intro b9 w9 hb9 hb91 hE9 hk9
        have hcat : catV [(.agg (List.toArray (q.cells)))] = q.cells := by simp [catV, Value.cells]
        rw [hcat] at hk9
        have own9 := own8.ext hE9
        have n9 := n8.new hE9
        refine SeqOps.put 49 rfl rfl rfl (O.append (B := w.heap.size) (v := out) (vx := .slice (some ⟨b9, 0, none⟩) 1 1) (m := 1) (xs := List.flatten css) (news := q.cells) rfl rfl rfl Tryz.underlying34 inf82 rfl own9 (Own.ofBlk (H := fun _ => none) (B := 0) (s := 41) (xs := q.cells) hk9 (Nat.zero_le _) rfl rfl (by decide) (VTx.one hqok)).rsw rfl (by omega) (by omega) n9.st.chg.size n9.st.agr ?_)
        intro o10 w10 own10 hC10
        refine SeqOps.put 7 rfl rfl rfl (O.assign (v := o10) rfl rfl ?_)
        refine SeqOps.nil ?_
        refine hK27 _ _ ?_
        try clear hK27 K27
        refine W.region ?_
        refine SeqOps.put 50 rfl rfl rfl (O.arith (a := (k : Int)) (b := 1) (r := (k : Int) + 1) (c := (k : Int) + 1) rfl rfl rfl rfl (by exact wrap_i64 (by omega) (by omega)) ?_)
        refine SeqOps.put 28 rfl rfl rfl (O.move (v := (.int .i64 ((k : Int) + 1))) rfl rfl ?_)
        refine SeqOps.nil ?_
        have n10 := n9.step hC10 (fun i hi => ⟨.inl (own9.base hi).1, own9.out i hi⟩)
        have hp10 := (h8.ext hE9).chg hC10 (fun i hi => ⟨by have := (own9.base hi).1; omega, h0L (own9.base hi).1, Hm.none (h0N (own9.base hi).1) (own9.out i hi)⟩)
        refine ⟨⟨_, _, o10, css ++ [q.cells], k + 1, rfl, by omega, n10, hM7, hp10, hl.mono hle8, by simpa using own10, ?_, ?_, fun ys hy => ?_⟩, by show l.length - ((k + 1 : Nat) : Int).toNat < l.length - ((k : Nat) : Int).toNat; omega⟩
        · intro cs hcs'; rcases List.mem_append.1 hcs' with h' | h'
          · exact hcs cs h'
          · simp at h'; subst h'; rfl
        · rw [htk, mapO_snoc, hd]; cases mapO dTx (l.take k) <;> simp
        · rw [htk, mapO_snoc, hd] at hy; cases mapO dTx (l.take k) <;> simp at hy
    have hkl : k = l.length := by omega
    refine W.seq fun K32 hK32 => ?_
    refine W.region ?_
    refine SeqOps.put 29 rfl rfl rfl (O.cmp (a := (k : Int)) (b := (l.length : Int)) (r := false) rfl rfl rfl (by simp [cmpI]; omega) ?_)
    refine SeqOps.nil ?_
    refine hK32 _ _ ?_
    try clear hK32 K32
    refine W.seq fun K33 hK33 => ?_
    refine W.cond_false rfl ?_
    refine W.exit ?_
    refine hK16 _ _ ?_
    try clear hK16 K16
    refine W.seq fun K34 hK34 => ?_
    refine W.region ?_
    refine SeqOps.put 51 rfl rfl rfl (O.move (v := out) rfl rfl ?_)
    refine SeqOps.put 4 rfl rfl rfl (O.assign (v := out) rfl rfl ?_)
    refine SeqOps.nil ?_
    refine hK34 _ _ ?_
    try clear hK34 K34
    refine W.ret ?_
    subst hkl
    rw [List.take_length] at hokk hall
    obtain ⟨M2, hle2, n2, hsame, rs2⟩ := own.join nk (Nat.le_refl _)
    have hM2 : M2 bp = none := by rw [hsame bp fun e => by have := (own.base e).1; omega]; exact hM
    have hdl : dList dTx b = mapO dTx l := by unfold dList; rw [hsp]; rfl
    obtain ⟨aof, capf, hof⟩ := rs2.form
    refine retQ_one rfl rfl ⟨M2, out, rfl, n2, hM2, ?_, ⟨_, _, _, hof⟩, fun ys hy => ?_⟩
    · rw [hdl, ← hokk]
      obtain ⟨lv, ev, hblk, hrb, hev⟩ := hp.blk
      refine h.next n2 hM2 ⟨lv, ev, hblk, hrb, hev.imp id fun ⟨e1, e2⟩ => ⟨e1, e2.mono ?_⟩⟩
      intro j o ho; unfold Hm at ho ⊢
      cases hj : M j with
      | some o' => rw [hj] at ho; rw [hle2 j o' hj]; exact ho
      | none =>
        rw [hj] at ho
        have hno := h.agrN.lt ho
        rw [show M2 j = none by rw [n2.st.low j hno]]; exact ho
    · rw [hdl] at hy
      have h2 := hall ys hy
      refine ⟨css, h2.imp fun _ _ hc => cTx.mono hle2 hc, hcs, ?_⟩
      have hlen2 := mapO_length hy
      rw [hlen2]; exact rs2

def wfBlock (v : Value) : Prop := ∃ q : VBlock, v = .agg (List.toArray q.cells) ∧ q.ok
def phBlock (N : Heap) (v : Value) (y : DBlock) : Prop := ∃ q : VBlock, v = .agg (List.toArray q.cells) ∧ RBlock N q y
set_option maxHeartbeats 1000000 in
theorem read_Block_calls {a : Addr} {H : Heap} {w : World} {v : Value} {bs : List UInt8} (hA : Agr H w) (hG : hcell H ⟨1, 0, none⟩ = some (eS a)) (r : RB H v bs) (hlen : bs.length ≤ 1099511627776) :
    Calls Tryz.prog 81 #[v] w (RetRd a dBlock wfBlock phBlock w bs) := by
  refine calls_of_W (n := 24) Tryz.func81 rfl Tryz.ntmps81 (Nat.le_of_ble_eq_true rfl) ?_
  refine W.seq fun K1 hK1 => ?_
  refine W.region ?_
  refine SeqOps.put 2 rfl rfl rfl (O.alloc rfl zr91 ?_)
  intro br w0 hbr hbr1 hE0 hk0
  refine SeqOps.put 3 rfl rfl rfl (O.assign (v := .nilIface) rfl rfl ?_)
  refine SeqOps.nil ?_
  refine hK1 _ _ ?_
  try clear hK1 K1
  refine W.seq fun K2 hK2 => ?_
  refine W.region ?_
  refine SeqOps.put 6 rfl rfl rfl (O.move (v := v) rfl rfl ?_)
  refine SeqOps.put 7 rfl rfl rfl (O.call (fid := 87) (cap := #[]) (args := [v, (.int .i64 (5)), (strOf [97, 32, 98, 108, 111, 99, 107])]) rfl rfl rfl Tryz.func87 rfl rfl ?_)
  refine Calls.mono (split_calls (a := a) (n := 5) (Ext.agr hE0 hA) hG r hlen (by omega)) ?_
  rintro e w1 ⟨N0, bp, rem, okS, rfl, n0, hbp, hps, hrl, hok1, hok2, hrle⟩
  obtain ⟨b0, b1, b2, b3, b4, rfl⟩ : ∃ b0 b1 b2 b3 b4, rem = [b0, b1, b2, b3, b4] := by match rem, hrl with | [b0, b1, b2, b3, b4], _ => exact ⟨b0, b1, b2, b3, b4, rfl⟩
  have hbrp : br ≠ bp := by omega
  have hkr := Ext.blk n0.st.chg hk0
  have nn0 := ((New.start w NoX).new hE0).trans n0 (fun i hi => hi.elim)
  rw [Hm.nilL] at nn0
  have hr0 : N0 br = none := by rw [n0.st.low br hbr1]
  refine ⟨_, rfl, ?_⟩
  refine SeqOps.put 4 rfl rfl rfl (O.assign (v := (.pointer (some ⟨bp, 0, none⟩))) rfl rfl ?_)
  refine SeqOps.nil ?_
  refine hK2 _ _ ?_
  try clear hK2 K2
  refine W.seq fun K3 hK3 => ?_
  refine W.region ?_
  refine SeqOps.put 8 rfl rfl rfl (O.move (v := (.pointer (some ⟨bp, 0, none⟩))) rfl rfl ?_)
  refine SeqOps.put 9 rfl rfl rfl (O.call (fid := 119) (cap := #[]) (args := [(.pointer (some ⟨bp, 0, none⟩)), (.func (.func 64) #[] #[])]) rfl rfl rfl Tryz.func119 rfl rfl ?_)
  refine Calls.mono (one_Header_calls hps (by have := hrle b0 (by simp); omega)) ?_
  rintro e wm1 ⟨M1, v0_, rfl, nm1, hM1, hp1, ⟨f0, rfl, hfok0, hy0⟩⟩
  have nn1 := nn0.trans nm1 (fun i hi => ⟨.inl (by subst hi; have := hE0.size; omega), by subst hi; exact hps.outN⟩)
  have hkr1 := nm1.st.chg.blk hkr hbrp
  have hr1 : Hm N0 M1 br = none := Hm.none hr0 (by rw [nm1.st.low br (blk_lt hkr)])
  have hle1 : Hle N0 (Hm N0 M1) := nn0.le1 nm1
  refine ⟨_, rfl, ?_⟩
  refine SeqOps.put 10 rfl rfl rfl (O.move (v := (.pointer (some ⟨bp, 0, none⟩))) rfl rfl ?_)
  refine SeqOps.put 11 rfl rfl rfl (O.call (fid := 116) (cap := #[]) (args := [(.pointer (some ⟨bp, 0, none⟩)), (.func (.func 71) #[] #[])]) rfl rfl rfl Tryz.func116 rfl rfl ?_)
  refine Calls.mono (one_QC_calls hp1 (by have := hrle b1 (by simp); omega)) ?_
  rintro e wm2 ⟨M2, v1_, rfl, nm2, hM2, hp2, ⟨f1, rfl, hfok1, hy1⟩⟩
  have nn2 := nn1.trans nm2 (fun i hi => ⟨.inl (by subst hi; have := hE0.size; omega), by subst hi; exact hp1.outN⟩)
  have hkr2 := nm2.st.chg.blk hkr1 hbrp
  have hr2 : Hm (Hm N0 M1) M2 br = none := Hm.none hr1 (by rw [nm2.st.low br (blk_lt hkr1)])
  have hle2 : Hle (Hm N0 M1) (Hm (Hm N0 M1) M2) := nn1.le1 nm2
  refine ⟨_, rfl, ?_⟩
  refine SeqOps.put 12 rfl rfl rfl (O.move (v := (.pointer (some ⟨bp, 0, none⟩))) rfl rfl ?_)
  refine SeqOps.put 13 rfl rfl rfl (O.call (fid := 94) (cap := #[]) (args := [(.pointer (some ⟨bp, 0, none⟩)), (.func (.func 77) #[] #[])]) rfl rfl rfl Tryz.func94 rfl rfl ?_)
  refine Calls.mono (all_Commit_calls hp2 (by have := hrle b2 (by simp); omega)) ?_
  rintro e wm3 ⟨M3, v2_, rfl, nm3, hM3, hp3, ⟨⟨ao2, n2, cap2, rfl⟩, hy2⟩⟩
  have nn3 := nn2.trans nm3 (fun i hi => ⟨.inl (by subst hi; have := hE0.size; omega), by subst hi; exact hp2.outN⟩)
  have hkr3 := nm3.st.chg.blk hkr2 hbrp
  have hr3 : Hm (Hm (Hm N0 M1) M2) M3 br = none := Hm.none hr2 (by rw [nm3.st.low br (blk_lt hkr2)])
  have hle3 : Hle (Hm (Hm N0 M1) M2) (Hm (Hm (Hm N0 M1) M2) M3) := nn2.le1 nm3
  refine ⟨_, rfl, ?_⟩
  refine SeqOps.put 14 rfl rfl rfl (O.move (v := (.pointer (some ⟨bp, 0, none⟩))) rfl rfl ?_)
  refine SeqOps.put 15 rfl rfl rfl (O.call (fid := 95) (cap := #[]) (args := [(.pointer (some ⟨bp, 0, none⟩)), (.func (.func 79) #[] #[])]) rfl rfl rfl Tryz.func95 rfl rfl ?_)
  refine Calls.mono (all_Tx_calls hp3 (by have := hrle b3 (by simp); omega)) ?_
  rintro e wm4 ⟨M4, v3_, rfl, nm4, hM4, hp4, ⟨⟨ao3, n3, cap3, rfl⟩, hy3⟩⟩
  have nn4 := nn3.trans nm4 (fun i hi => ⟨.inl (by subst hi; have := hE0.size; omega), by subst hi; exact hp3.outN⟩)
  have hkr4 := nm4.st.chg.blk hkr3 hbrp
  have hr4 : Hm (Hm (Hm (Hm N0 M1) M2) M3) M4 br = none := Hm.none hr3 (by rw [nm4.st.low br (blk_lt hkr3)])
  have hle4 : Hle (Hm (Hm (Hm N0 M1) M2) M3) (Hm (Hm (Hm (Hm N0 M1) M2) M3) M4) := nn3.le1 nm4
  refine ⟨_, rfl, ?_⟩
  refine SeqOps.put 16 rfl rfl rfl (O.move (v := (.pointer (some ⟨bp, 0, none⟩))) rfl rfl ?_)
  refine SeqOps.put 17 rfl rfl rfl (O.call (fid := 120) (cap := #[]) (args := [(.pointer (some ⟨bp, 0, none⟩)), (.func (.func 114) #[] #[])]) rfl rfl rfl Tryz.func120 rfl rfl ?_)
  refine Calls.mono (one_Sig_calls hp4 (by have := hrle b4 (by simp); omega)) ?_
  rintro e wm5 ⟨M5, v4_, rfl, nm5, hM5, hp5, ⟨f4, rfl, hfok4, hy4⟩⟩
  have nn5 := nn4.trans nm5 (fun i hi => ⟨.inl (by subst hi; have := hE0.size; omega), by subst hi; exact hp4.outN⟩)
  have hkr5 := nm5.st.chg.blk hkr4 hbrp
  have hr5 : Hm (Hm (Hm (Hm (Hm N0 M1) M2) M3) M4) M5 br = none := Hm.none hr4 (by rw [nm5.st.low br (blk_lt hkr4)])
  have hle5 : Hle (Hm (Hm (Hm (Hm N0 M1) M2) M3) M4) (Hm (Hm (Hm (Hm (Hm N0 M1) M2) M3) M4) M5) := nn4.le1 nm5
  refine ⟨_, rfl, ?_⟩
  obtain ⟨q, hq⟩ : ∃ q : VBlock, q = ⟨f0, f1, (.slice ao2 n2 cap2), (.slice ao3 n3 cap3), f4⟩ := ⟨_, rfl⟩
  refine SeqOps.put 18 rfl rfl rfl (O.build (vps := [(0, (.agg (List.toArray (f0.cells)))), (1, (.agg (List.toArray (f1.cells)))), (2, (.slice ao2 n2 cap2)), (3, (.slice ao3 n3 cap3)), (4, (.agg (List.toArray (f4.cells))))]) (cells := (VBlock.cells ⟨f0, f1, (.slice ao2 n2 cap2), (.slice ao3 n3 cap3), f4⟩)) rfl rfl (by kernel_rfl) ?_)
  rw [← hq]
  have hqok : q.ok := by rw [hq]; exact ⟨hfok0, hfok1, rfl, rfl, hfok4⟩
  refine SeqOps.put 5 rfl rfl rfl (O.alloc rfl zr91 ?_)
  intro bq wa hbq hbq1 hEa hkq0
  refine SeqOps.eff rfl rfl (O.store (b := bq) (off := 0) (v := .agg (List.toArray q.cells)) (n := 173) (c' := q.cells.toArray) rfl rfl rfl hkq0 sz91 rfl (by decide) (VBlock.one hqok) rfl ?_)
  intro wq hCq hkq
  have hEq : Ext wm5 wq := hEa.trans_new hCq fun i hi => .inl (by omega)
  have hpq := hp5.ext hEq
  have hkrq := Ext.blk hEq hkr5
  have hqr : bq ≠ br := by have := blk_lt hkr5; omega
  have hpr : bp ≠ br := Ne.symm hbrp
  obtain ⟨lv, ev, hkp, hevf, hev⟩ := hpq.final
  skip
  refine SeqOps.nil ?_
  refine hK3 _ _ ?_
  try clear hK3 K3
  refine W.seq fun K4 hK4 => ?_
  obtain ⟨obj, hobj⟩ : ∃ o, o = Obj.cells q.cells.toArray 91 (0, 0) := ⟨_, rfl⟩
  refine W.region_any (by kernel_rfl) (by kernel_rfl) [19, 20, 21, 22, 23, 3] rfl (fun a b => RStoreC br (.cells q.cells.toArray 91 (0, 0)) 173 91 a b) (fun _ => RStoreC.refl _ _ _ _ _) (fun h k => RStoreC.trans h k) [
      (fun (u : Value) (_ : World) => u = .agg (List.toArray q.cells)),
      (fun (u : Value) (_ : World) => u = Value.pointer (some ⟨bp, 0, none⟩)),
      (fun (u : Value) (_ : World) => u = Value.pointer (some ⟨bp, 0, none⟩)),
      (fun (u : Value) (_ : World) => u = Value.pointer (some ⟨bp, 1, none⟩)),
      (fun (u : Value) (_ : World) => u = ev),
      (fun (_ : Value) (w : World) => w.heap[br]? = some (.cells q.cells.toArray 91 (0, 0))),
      (fun (u : Value) (_ : World) => u = ev)
    ] ⟨fun _ _ _ _ h => h, fun _ _ _ _ h => h, fun _ _ _ _ h => h, fun _ _ _ _ h => h, fun _ _ _ _ h => h, fun _ _ _ hE h => hE.2.1 h, fun _ _ _ _ h => h, trivial⟩ ⟨?_, ?_, ?_, ?_, ?_, ?_, ?_, trivial⟩ ?_
  · intro g w1 hR hf hd
    have h1 : g 5 = .pointer (some ⟨bq, 0, none⟩) := hf 5 (by decide)
    have hb1 := Chg.blk hR.1 (show wq.drew.heap[bq]? = _ from hkq) hqr
    exact StepT.plain rfl (O.loadBlk (b := bq) (off := 0) (cs := q.cells) rfl h1 hb1 Tryz.underlying91 rfl sz91 rfl ⟨RStoreC.refl _ _ _ _ _, rfl⟩)
  · intro g w1 hR hf hd
    have h1 : g 4 = Value.pointer (some ⟨bp, 0, none⟩) := hf 4 (by decide)
    exact StepT.plain rfl (O.move (v := Value.pointer (some ⟨bp, 0, none⟩)) rfl h1 ⟨RStoreC.refl _ _ _ _ _, rfl⟩)
  · intro g w1 hR hf hd
    have h1 : (fun (u : Value) (_ : World) => u = Value.pointer (some ⟨bp, 0, none⟩)) (g 20) w1 := hd.1 rfl
    exact StepT.plain rfl (O.nilCheckPtr (a := ⟨bp, 0, none⟩) rfl h1 ⟨RStoreC.refl _ _ _ _ _, rfl⟩)
  · intro g w1 hR hf hd
    have h1 : (fun (u : Value) (_ : World) => u = Value.pointer (some ⟨bp, 0, none⟩)) (g 21) w1 := hd.1 rfl
    exact StepT.plain rfl (O.fieldAddr (a := ⟨bp, 0, none⟩) (v := Value.pointer (some ⟨bp, 1, none⟩)) rfl h1 Tryz.underlying177 rfl (by kernel_rfl) rfl ⟨RStoreC.refl _ _ _ _ _, rfl⟩)
  · intro g w1 hR hf hd
    have h1 : (fun (u : Value) (_ : World) => u = Value.pointer (some ⟨bp, 1, none⟩)) (g 22) w1 := hd.1 rfl
    have hb1 := Chg.blk hR.1 (show wq.drew.heap[bp]? = _ from hkp) hpr
    exact StepT.plain rfl (O.loadBlk1 (b := bp) (off := 1) (v := ev) rfl h1 hb1 Tryz.underlying162 rfl rfl ⟨RStoreC.refl _ _ _ _ _, rfl⟩)
  · intro g w1 hR hf hd
    have h1 : g 2 = .pointer (some ⟨br, 0, none⟩) := hf 2 (by decide)
    have h2 : g 19 = .agg (List.toArray q.cells) := hd.1 rfl
    obtain ⟨cr, hcr, hk⟩ := hR.2.2 ⟨_, rfl, show wq.drew.heap[br]? = _ from hkrq⟩
    refine StepT.plain rfl (O.store (b := br) (off := 0) (v := .agg (List.toArray q.cells)) (n := 173) (c' := q.cells.toArray) rfl h1 h2 hk sz91 rfl (by rw [Nat.zero_add, hcr]; exact Nat.le_refl _) (VBlock.one hqok) (by simp [Value.cells, VBlock.length, hcr]) ?_)
    intro w2 hC hk2
    exact ⟨⟨hC, fun _ => hk2, fun _ => ⟨_, VBlock.length q, hk2⟩⟩, hk2⟩
  · intro g w1 hR hf hd
    have h1 : g 23 = ev := hd.1 rfl
    exact StepT.plain rfl (O.assign (v := ev) rfl h1 ⟨RStoreC.refl _ _ _ _ _, rfl⟩)
  intro g w9 hR hf hall
  have hf5 := hall.2.2.2.2.2.1
  have hf6 := hall.2.2.2.2.2.2.1
  refine hK4 _ _ ?_
  try clear hK4 K4
  refine W.ret ?_
  have n9 := ((nn5.new hEq).new (Ext.drew wq)).step hR.1 (fun i hi => ⟨.inl (by omega), by subst hi; exact hr5⟩)
  refine retQ_cell2 (b := br) (cs := q.cells) rfl (hf 2 (by decide)) hf6 hf5 Tryz.underlying91 rfl sz91 ⟨_, _, _, rfl, n9, ⟨q, rfl, hqok⟩, ?_⟩
  rcases hev with ⟨hok, rfl⟩ | ⟨hok, he⟩
  · simp only [Bool.and_eq_true] at hok
    obtain ⟨⟨⟨⟨⟨hok0, hs0⟩, hs1⟩, hs2⟩, hs3⟩, hs4⟩ := hok
    obtain ⟨y0, hd0⟩ := Option.isSome_iff_exists.1 hs0
    obtain ⟨y1, hd1⟩ := Option.isSome_iff_exists.1 hs1
    obtain ⟨y2, hd2⟩ := Option.isSome_iff_exists.1 hs2
    obtain ⟨y3, hd3⟩ := Option.isSome_iff_exists.1 hs3
    obtain ⟨y4, hd4⟩ := Option.isSome_iff_exists.1 hs4
    refine .inl ⟨⟨y0, y1, y2, y3, y4⟩, ?_, rfl, q, rfl, ?_⟩
    · unfold dBlock; rw [hok1 hok0]; exact dBlockL_some hd0 hd1 hd2 hd3 hd4
    · rw [hq]; exact ⟨(hy0 _ hd0).mono (((((Hm.right _ M1).trans hle2).trans hle3).trans hle4).trans hle5), (hy1 _ hd1).mono ((((Hm.right _ M2).trans hle3).trans hle4).trans hle5), RL.mono (R := cCommit) cCommit.mono (hy2 _ hd2) (((Hm.right _ M3).trans hle4).trans hle5), RL.mono (R := cTx) cTx.mono (hy3 _ hd3) ((Hm.right _ M4).trans hle5), (hy4 _ hd4).mono (Hm.right _ M5)⟩
  · refine .inr ⟨?_, he⟩
    cases hokS : okS with
    | false =>
      unfold dBlock
      cases hs : split bs with
      | none => rfl
      | some l => exact dBlockL_len (hok2 hokS l hs)
    | true =>
      unfold dBlock
      rw [hok1 hokS]
      have hiss := dBlockL_isSome b0 b1 b2 b3 b4
      rw [hokS] at hok; simp only [Bool.true_and] at hok hiss
      rw [hok] at hiss
      simpa using hiss

theorem all_Block_calls {a : Addr} {HL N : Heap} {w : World} {bp : Nat} {b : List UInt8} {rem : List (List UInt8)} {ok : Bool} (h : PS a HL N w bp (b :: rem) ok) (hlen : b.length ≤ 1099511627776) :
    Calls Tryz.prog 91 #[.pointer (some ⟨bp, 0, none⟩), .func (.func 81) #[] #[]] w (RetP a HL N w bp rem (ok && (dList dBlock b).isSome) (fun M v => (∃ ao n cap, v = .slice ao n cap) ∧ ∀ ys, dList dBlock b = some ys → RL 173 cBlock M v ys)) := by
  have hlt0 := h.lt
  have h0L : ∀ {k}, w.heap.size ≤ k → HL k = none := fun hk => h.agrL.none hk
  have h0N : ∀ {k}, w.heap.size ≤ k → N k = none := fun hk => h.agrN.none hk
  cases hsp : split b with
  | none =>
    refine calls_of_W (n := 52) Tryz.func91 rfl Tryz.ntmps91 (Nat.le_of_ble_eq_true rfl) ?_
    refine W.seq fun K1 hK1 => ?_
    refine W.region ?_
    refine SeqOps.put 4 rfl rfl rfl (O.assign (v := (.slice none 0 0)) rfl rfl ?_)
    refine SeqOps.nil ?_
    refine hK1 _ _ ?_
    try clear hK1 K1
    refine W.seq fun K2 hK2 => ?_
    refine W.region ?_
    refine SeqOps.put 13 rfl rfl rfl (O.move (v := (.pointer (some ⟨bp, 0, none⟩))) rfl rfl ?_)
    refine SeqOps.put 14 rfl rfl rfl (O.call (fid := 125) (cap := #[]) (args := [(.pointer (some ⟨bp, 0, none⟩))]) rfl rfl rfl Tryz.func125 rfl rfl ?_)
    refine Calls.mono (next_calls h) ?_
    rintro e w1 ⟨v1, rfl, hr, h1, hC1⟩
    refine ⟨_, rfl, ?_⟩
    refine SeqOps.put 15 rfl rfl rfl (O.call (fid := 123) (cap := #[]) (args := [v1]) rfl rfl rfl Tryz.func123 rfl rfl ?_)
    refine Calls.mono (Split_calls h1.agrL hr hlen) ?_
    rintro e w2 ⟨M, v2, st, hres⟩
    obtain ⟨rfl, rfl⟩ : v2 = .slice none 0 0 ∧ e = .returned (.tuple #[v2, .bool false]) := by rcases hres with ⟨l, h1, _⟩ | ⟨_, h2, h3⟩ <;> first | exact ⟨h2, h3⟩ | (rw [hsp] at h1; cases h1; done)
    have n2 := (New.ofChg hC1).trans st (fun i hi => hi.elim)
    rw [Hm.nilL] at n2
    have hM : M bp = none := by rw [st.st.low bp h1.lt]
    replace h1 := h1.new st
    refine ⟨_, rfl, ?_⟩
    refine SeqOps.put 12 rfl rfl rfl (O.move (v := (.tuple #[(.slice none 0 0), (.bool (false))])) rfl rfl ?_)
    refine SeqOps.put 16 rfl rfl rfl (O.extract (v := (.slice none 0 0)) rfl rfl rfl ?_)
    refine SeqOps.put 17 rfl rfl rfl (O.extract (v := (.bool (false))) rfl rfl rfl ?_)
    refine SeqOps.put 5 rfl rfl rfl (O.assign (v := (.slice none 0 0)) rfl rfl ?_)
    refine SeqOps.put 6 rfl rfl rfl (O.assign (v := (.bool (false))) rfl rfl ?_)
    refine SeqOps.nil ?_
    refine hK2 _ _ ?_
    try clear hK2 K2
    refine W.seq fun K3 hK3 => ?_
    refine W.seq fun K4 hK4 => ?_
    refine W.region ?_
    refine SeqOps.put 18 rfl rfl rfl (O.move (v := (.bool (false))) rfl rfl ?_)
    refine SeqOps.put 19 rfl rfl rfl (O.not (b := false) rfl rfl ?_)
    refine SeqOps.nil ?_
    refine hK4 _ _ ?_
    try clear hK4 K4
    refine W.cond_true rfl ?_
    refine W.region ?_
    refine SeqOps.put 20 rfl rfl rfl (O.move (v := (.pointer (some ⟨bp, 0, none⟩))) rfl rfl ?_)
    refine SeqOps.put 21 rfl rfl rfl (O.loadOne (a := ⟨1, 0, none⟩) (v := eS a) rfl rfl Tryz.underlying162 rfl (h1.agrL.cell h1.glob) ?_)
    refine SeqOps.put 22 rfl rfl rfl (O.build (vps := [(0, (strOf [97, 32, 108, 105, 115, 116])), (1, (eS a))]) (cells := [(strOf [97, 32, 108, 105, 115, 116]), (eS a)]) rfl rfl (by kernel_rfl) ?_)
    refine SeqOps.put 23 rfl rfl rfl (O.box (v := (.agg (List.toArray ([(strOf [97, 32, 108, 105, 115, 116]), (eS a)])))) rfl rfl ?_)
    intro b3 w3 hb3 hb3l hEw3 hkb3
    obtain ⟨h3, hN3, e3⟩ := h1.wrong hEw3 hb3 hkb3
    refine SeqOps.put 24 rfl rfl rfl (O.makeIface (v := (.pointer (some ⟨b3, 0, none⟩))) rfl rfl Tryz.underlying160 rfl ?_)
    refine SeqOps.put 25 rfl rfl rfl (O.call (fid := 126) (cap := #[]) (args := [(.pointer (some ⟨bp, 0, none⟩)), (.iface 160 (.pointer (some ⟨b3, 0, none⟩)))]) rfl rfl rfl Tryz.func126 rfl rfl ?_)
    refine Calls.mono (bad_calls h3 (.base (Hadd_same _ _ _))) ?_
    rintro e w4 ⟨rfl, h4, hC4⟩
    refine ⟨_, rfl, ?_⟩
    refine SeqOps.nil ?_
    refine hK3 _ _ ?_
    try clear hK3 K3
    refine W.seq fun K5 hK5 => ?_
    refine W.region ?_
    refine SeqOps.put 7 rfl rfl rfl (O.assign (v := (.slice none 0 0)) rfl rfl ?_)
    refine SeqOps.nil ?_
    refine hK5 _ _ ?_
    try clear hK5 K5
    refine W.seq fun K6 hK6 => ?_
    refine W.seq fun K7 hK7 => ?_
    refine W.region ?_
    refine SeqOps.put 26 rfl rfl rfl (O.move (v := (.slice none 0 0)) rfl rfl ?_)
    refine SeqOps.put 27 rfl rfl rfl (O.lenSlice (ad := none) (n := 0) (c := 0) rfl rfl Tryz.underlying133 ?_)
    refine SeqOps.put 28 rfl rfl rfl (O.move (v := (.int .i64 (0))) rfl rfl ?_)
    refine SeqOps.nil ?_
    refine hK7 _ _ ?_
    try clear hK7 K7
    refine W.block ?_
    refine W.loop [7, 26, 27, 28] (fun vals wk => vals = [.slice none 0 0, .slice none 0 0, .int .i64 0, .int .i64 0] ∧ w4 = wk) (fun _ _ => 0) ⟨rfl, rfl⟩ ?_
    rintro g _ wk ⟨rfl, rfl⟩
    refine W.seq fun K8 hK8 => ?_
    refine W.region ?_
    refine SeqOps.put 29 rfl rfl rfl (O.cmp (a := 0) (b := 0) (r := false) rfl rfl rfl (rfl) ?_)
    refine SeqOps.nil ?_
    refine hK8 _ _ ?_
    try clear hK8 K8
    refine W.seq fun K9 hK9 => ?_
    refine W.cond_false rfl ?_
    refine W.exit ?_
    refine hK6 _ _ ?_
    try clear hK6 K6
    refine W.seq fun K10 hK10 => ?_
    refine W.region ?_
    refine SeqOps.put 51 rfl rfl rfl (O.move (v := (.slice none 0 0)) rfl rfl ?_)
    refine SeqOps.put 4 rfl rfl rfl (O.assign (v := (.slice none 0 0)) rfl rfl ?_)
    refine SeqOps.nil ?_
    refine hK10 _ _ ?_
    try clear hK10 K10
    refine W.ret ?_
    have hlt1 := h1.lt
    have n4 := (n2.trans hN3 (fun i hi => hi.elim)).step hC4 (fun i hi => ⟨.inr hi, by subst hi; exact Hm.none hM (by rw [Hadd_ne _ _ (by omega)])⟩)
    refine retQ_one rfl rfl ⟨_, _, rfl, n4, Hm.none hM (by rw [Hadd_ne _ _ (by omega)]), ?_, ⟨_, _, _, rfl⟩, fun ys hy => ?_⟩
    · have e : (ok && (dList dBlock b).isSome) = false := by unfold dList; rw [hsp]; simp
      rw [e, ← Hm.assoc, e3]; exact h4
    · unfold dList at hy; rw [hsp] at hy; cases hy
  | some l =>
    have hll : 8 * l.length ≤ b.length := by have h1 := joinTail_ge l; have h2 := join_length l; rw [split_join hsp] at h2; omega
    have hpl := split_parts_le hsp
    refine calls_of_W (n := 52) Tryz.func91 rfl Tryz.ntmps91 (Nat.le_of_ble_eq_true rfl) ?_
    refine W.seq fun K11 hK11 => ?_
    refine W.region ?_
    refine SeqOps.put 4 rfl rfl rfl (O.assign (v := (.slice none 0 0)) rfl rfl ?_)
    refine SeqOps.nil ?_
    refine hK11 _ _ ?_
    try clear hK11 K11
    refine W.seq fun K12 hK12 => ?_
    refine W.region ?_
    refine SeqOps.put 13 rfl rfl rfl (O.move (v := (.pointer (some ⟨bp, 0, none⟩))) rfl rfl ?_)
    refine SeqOps.put 14 rfl rfl rfl (O.call (fid := 125) (cap := #[]) (args := [(.pointer (some ⟨bp, 0, none⟩))]) rfl rfl rfl Tryz.func125 rfl rfl ?_)
    refine Calls.mono (next_calls h) ?_
    rintro e w1 ⟨v1, rfl, hr, h1, hC1⟩
    refine ⟨_, rfl, ?_⟩
    refine SeqOps.put 15 rfl rfl rfl (O.call (fid := 123) (cap := #[]) (args := [v1]) rfl rfl rfl Tryz.func123 rfl rfl ?_)
    refine Calls.mono (Split_calls h1.agrL hr hlen) ?_
    rintro e w2 ⟨M, v2, st, hres⟩
    obtain ⟨rfl, hl⟩ : e = .returned (.tuple #[v2, .bool true]) ∧ RBB M v2 l := by rcases hres with ⟨l', h1, h2, h3⟩ | ⟨h1, _⟩ <;> first | (rw [hsp] at h1; cases h1; exact ⟨h2, h3⟩) | (rw [hsp] at h1; cases h1; done)
    obtain ⟨ao, cap, rfl⟩ : ∃ ao cap, v2 = .slice ao l.length cap := by obtain ⟨vs, _, rs⟩ := hl; exact rs.form
    have n2 := (New.ofChg hC1).trans st (fun i hi => hi.elim)
    rw [Hm.nilL] at n2
    have hM : M bp = none := by rw [st.st.low bp h1.lt]
    replace h1 := h1.new st
    refine ⟨_, rfl, ?_⟩
    refine SeqOps.put 12 rfl rfl rfl (O.move (v := (.tuple #[(.slice ao l.length cap), (.bool (true))])) rfl rfl ?_)
    refine SeqOps.put 16 rfl rfl rfl (O.extract (v := (.slice ao l.length cap)) rfl rfl rfl ?_)
    refine SeqOps.put 17 rfl rfl rfl (O.extract (v := (.bool (true))) rfl rfl rfl ?_)
    refine SeqOps.put 5 rfl rfl rfl (O.assign (v := (.slice ao l.length cap)) rfl rfl ?_)
    refine SeqOps.put 6 rfl rfl rfl (O.assign (v := (.bool (true))) rfl rfl ?_)
    refine SeqOps.nil ?_
    refine hK12 _ _ ?_
    try clear hK12 K12
    refine W.seq fun K13 hK13 => ?_
    refine W.seq fun K14 hK14 => ?_
    refine W.region ?_
    refine SeqOps.put 18 rfl rfl rfl (O.move (v := (.bool (true))) rfl rfl ?_)
    refine SeqOps.put 19 rfl rfl rfl (O.not (b := true) rfl rfl ?_)
    refine SeqOps.nil ?_
    refine hK14 _ _ ?_
    try clear hK14 K14
    refine W.cond_false rfl ?_
    refine W.skip ?_
    refine hK13 _ _ ?_
    try clear hK13 K13
    refine W.seq fun K15 hK15 => ?_
    refine W.region ?_
    refine SeqOps.put 7 rfl rfl rfl (O.assign (v := (.slice none 0 0)) rfl rfl ?_)
    refine SeqOps.nil ?_
    refine hK15 _ _ ?_
    try clear hK15 K15
    refine W.seq fun K16 hK16 => ?_
    refine W.seq fun K17 hK17 => ?_
    refine W.region ?_
    refine SeqOps.put 26 rfl rfl rfl (O.move (v := (.slice ao l.length cap)) rfl rfl ?_)
    refine SeqOps.put 27 rfl rfl rfl (O.lenSlice (ad := ao) (n := l.length) (c := cap) rfl rfl Tryz.underlying133 ?_)
    refine SeqOps.put 28 rfl rfl rfl (O.move (v := (.int .i64 (0))) rfl rfl ?_)
    refine SeqOps.nil ?_
    refine hK17 _ _ ?_
    try clear hK17 K17
    refine W.block ?_
    refine W.loop [0, 1, 7, 26, 27, 28] (fun vals wk => ∃ M okk out css, ∃ k : Nat, vals = [.pointer (some ⟨bp, 0, none⟩), .func (.func 81) #[] #[], out, .slice ao l.length cap, .int .i64 (l.length : Int), .int .i64 (k : Int)] ∧ k ≤ l.length ∧ New w (· = bp) M wk ∧ M bp = none ∧ PS a HL (Hm N M) wk bp rem okk ∧ RBB M (.slice ao l.length cap) l ∧ Own M wk w.heap.size 91 173 out k (List.flatten css) ∧ (∀ cs ∈ css, cs.length = 173) ∧ okk = (ok && (mapO dBlock (l.take k)).isSome) ∧ (∀ ys, mapO dBlock (l.take k) = some ys → All2 (cBlock M) css ys)) (fun vals _ => l.length - (intOf (vals.getD 5 undef)).toNat) ⟨M, ok, _, [], 0, rfl, Nat.zero_le _, n2, hM, h1, hl, Own.nil _ _ _ _ _, by simp, by simp [mapO], fun ys hy => by simp [mapO] at hy; subst hy; exact .nil⟩ ?_
    clear hres n2 hM h1 hl st hC1 hr M
    rintro g _ wk ⟨M, okk, out, css, k, rfl, hk, nk, hM, hp, hl, own, hcs, hokk, hall⟩
    rcases Nat.lt_or_ge k l.length with hlt | hge2
    · have htk : l.take (k + 1) = l.take k ++ [l[k]] := List.take_succ_eq_append_getElem hlt
      have hpk := hpl l[k] (by simp)
      have hl' := hl
      obtain ⟨vs, h2, rs⟩ := hl'
      obtain ⟨hvl, hel⟩ := h2.get hlt
      obtain ⟨ad, rfl, hcel⟩ := rs.elem (i := k) (u := vs[k]) (by simp)
      obtain ⟨ao2, cap2, hv2⟩ := RS.form hel
      rw [hv2] at hcel hel
      have hLM : Agr (Hm HL M) wk := Hm.agr hp.agrL nk.st.agr
      have hGM : hcell (Hm HL M) ⟨1, 0, none⟩ = some (eS a) := (Hm.left h.agrL nk).cell h.glob
      cases hd : dBlock l[k] with
      | some y =>
        refine W.seq fun K18 hK18 => ?_
        refine W.region ?_
        refine SeqOps.put 29 rfl rfl rfl (O.cmp (a := (k : Int)) (b := (l.length : Int)) (r := true) rfl rfl rfl (by simp [cmpI]; omega) ?_)
        refine SeqOps.nil ?_
        refine hK18 _ _ ?_
        try clear hK18 K18
        refine W.seq fun K19 hK19 => ?_
        refine W.cond_true rfl ?_
        refine W.skip ?_
        refine hK19 _ _ ?_
        try clear hK19 K19
        refine W.seq fun K20 hK20 => ?_
        refine W.block ?_
        refine W.seq fun K21 hK21 => ?_
        refine W.region ?_
        refine SeqOps.put 30 rfl rfl rfl (O.indexAddr (a := ad) (len := l.length) (cap := cap) (i := (k : Int)) (sz := 1) (v := .pointer (some (ad.add k))) rfl rfl rfl Tryz.underlying133 sz22 (by omega) (by omega) (by simp) ?_)
        refine SeqOps.put 31 rfl rfl rfl (O.loadOne (a := ad.add k) (v := .slice ao2 l[k].length cap2) rfl rfl Tryz.underlying22 rfl (nk.st.agr.cell hcel) ?_)
        refine SeqOps.put 9 rfl rfl rfl (O.assign (v := (.slice ao2 l[k].length cap2)) rfl rfl ?_)
        refine SeqOps.nil ?_
        refine hK21 _ _ ?_
        try clear hK21 K21
        refine W.seq fun K22 hK22 => ?_
        refine W.region ?_
        refine SeqOps.put 33 rfl rfl rfl (O.move (v := (.func (.func 81) #[] #[])) rfl rfl ?_)
        refine SeqOps.put 34 rfl rfl rfl (O.move (v := (.slice ao2 l[k].length cap2)) rfl rfl ?_)
        refine SeqOps.put 35 rfl rfl rfl (O.call (fid := 81) (cap := #[]) (args := [(.slice ao2 l[k].length cap2)]) rfl rfl rfl Tryz.func81 rfl rfl ?_)
        refine Calls.mono (read_Block_calls (a := a) hLM hGM (hel.mono (Hm.right _ _)) (by omega)) ?_
        rintro e w5 hret
        obtain ⟨N5, v5, rfl, n5, hwf, hph⟩ := RetRd.good hd hret
        have n6 := nk.trans n5 (fun i hi => hi.elim)
        have hp6 := hp.new n5
        rw [Hm.assoc] at hp6
        have hM6 : Hm M N5 bp = none := Hm.none hM (by rw [n5.st.low bp hp.lt])
        have own6 : Own (Hm M N5) w5 w.heap.size 91 173 out k (List.flatten css) := (own.ext n5.st.chg).heap fun j hj => Hm.none (own.out j hj) (by rw [n5.st.low j (own.base hj).2])
        have hle6 : Hle M (Hm M N5) := nk.le1 n5
        obtain ⟨q, rfl, hq⟩ := hph
        refine ⟨_, rfl, ?_⟩
        refine SeqOps.put 32 rfl rfl rfl (O.move (v := (.tuple #[(.agg (List.toArray (q.cells))), .nilIface])) rfl rfl ?_)
        refine SeqOps.put 36 rfl rfl rfl (O.extract (v := (.agg (List.toArray (q.cells)))) rfl rfl rfl ?_)
        refine SeqOps.put 37 rfl rfl rfl (O.extract (v := .nilIface) rfl rfl rfl ?_)
        refine SeqOps.put 10 rfl rfl rfl (O.alloc rfl zr91 ?_)
        intro bq wa hbq hbq1 hEa hkq0
        refine SeqOps.eff rfl rfl (O.store (b := bq) (off := 0) (v := .agg (List.toArray q.cells)) (n := 173) (c' := q.cells.toArray) rfl rfl rfl hkq0 sz91 rfl (by decide) (VBlock.one hq.ok) rfl ?_)
        intro wb hCb hkq
        have hEb : Ext w5 wb := hEa.trans_new hCb fun i hi => .inl (by omega)
        have hp6' := hp6
        replace n6 := n6.new hEb; replace hp6 := hp6.ext hEb; replace own6 := own6.ext hEb
        refine SeqOps.put 11 rfl rfl rfl (O.assign (v := .nilIface) rfl rfl ?_)
        refine SeqOps.nil ?_
        refine hK22 _ _ ?_
        try clear hK22 K22
        refine W.seq fun K23 hK23 => ?_
        refine W.seq fun K24 hK24 => ?_
        refine W.region ?_
        refine SeqOps.put 38 rfl rfl rfl (O.move (v := .nilIface) rfl rfl ?_)
        refine SeqOps.put 39 rfl rfl rfl (O.ifaceNil (v := .nilIface) (r := false) rfl rfl (.inl rfl) Tryz.underlying162 (.inr ⟨rfl, rfl⟩) ?_)
        refine SeqOps.nil ?_
        refine hK24 _ _ ?_
        try clear hK24 K24
        refine W.cond_false rfl ?_
        refine W.skip ?_
        refine hK23 _ _ ?_
        try clear hK23 K23
        refine W.region ?_
        refine SeqOps.put 46 rfl rfl rfl (O.move (v := out) rfl rfl ?_)
        refine SeqOps.put 47 rfl rfl rfl (O.loadBlk (b := bq) (off := 0) (cs := q.cells) rfl rfl hkq Tryz.underlying91 rfl sz91 rfl ?_)
        refine SeqOps.put 48 rfl rfl rfl (O.buildSlice (vs := [(.agg (List.toArray (q.cells)))]) rfl rfl rfl Tryz.underlying30 inf91 (by intro u hu; simp at hu; subst hu; rfl) (by decide) ?_)
        intro b9 w9 hb9 hb91 hE9 hk9
        have hcat : catV [(.agg (List.toArray (q.cells)))] = q.cells := by simp [catV, Value.cells]
        rw [hcat] at hk9
        have own9 := own6.ext hE9
        have n9 := n6.new hE9
        refine SeqOps.put 49 rfl rfl rfl (O.append (B := w.heap.size) (v := out) (vx := .slice (some ⟨b9, 0, none⟩) 1 1) (m := 1) (xs := List.flatten css) (news := q.cells) rfl rfl rfl Tryz.underlying30 inf91 rfl own9 (Own.ofBlk (H := fun _ => none) (B := 0) (s := 173) (xs := q.cells) hk9 (Nat.zero_le _) rfl rfl (by decide) (VBlock.one hq.ok)).rsw rfl (by omega) (by omega) n9.st.chg.size n9.st.agr ?_)
        intro o10 w10 own10 hC10
        refine SeqOps.put 7 rfl rfl rfl (O.assign (v := o10) rfl rfl ?_)
        refine SeqOps.nil ?_
        refine hK20 _ _ ?_
        try clear hK20 K20
        refine W.region ?_
        refine SeqOps.put 50 rfl rfl rfl (O.arith (a := (k : Int)) (b := 1) (r := (k : Int) + 1) (c := (k : Int) + 1) rfl rfl rfl rfl (by exact wrap_i64 (by omega) (by omega)) ?_)
        refine SeqOps.put 28 rfl rfl rfl (O.move (v := (.int .i64 ((k : Int) + 1))) rfl rfl ?_)
        refine SeqOps.nil ?_
        have n10 := n9.step hC10 (fun i hi => ⟨.inl (own9.base hi).1, own9.out i hi⟩)
        have hp10 := (hp6.ext hE9).chg hC10 (fun i hi => ⟨by have := (own9.base hi).1; omega, h0L (own9.base hi).1, Hm.none (h0N (own9.base hi).1) (own9.out i hi)⟩)
        refine ⟨⟨_, _, o10, css ++ [q.cells], k + 1, rfl, by omega, n10, hM6, hp10, hl.mono hle6, by simpa using own10, ?_, ?_, fun ys hy => ?_⟩, by show l.length - ((k + 1 : Nat) : Int).toNat < l.length - ((k : Nat) : Int).toNat; omega⟩
        · intro cs hcs'; rcases List.mem_append.1 hcs' with h' | h'
          · exact hcs cs h'
          · simp at h'; subst h'; rfl
        · rw [hokk, htk, mapO_snoc, hd]; cases mapO dBlock (l.take k) <;> rfl
        · rw [htk, mapO_snoc, hd] at hy
          cases hm : mapO dBlock (l.take k) with
          | none => rw [hm] at hy; cases hy
          | some zs =>
            rw [hm] at hy; simp at hy; subst hy
            exact ((hall zs hm).imp fun _ _ hc => cBlock.mono (by first | exact hle6 | exact hle8) hc).snoc ⟨q, rfl, hq.mono (Hm.right M N5)⟩
      | none =>
        refine W.seq fun K25 hK25 => ?_
        refine W.region ?_
        refine SeqOps.put 29 rfl rfl rfl (O.cmp (a := (k : Int)) (b := (l.length : Int)) (r := true) rfl rfl rfl (by simp [cmpI]; omega) ?_)
        refine SeqOps.nil ?_
        refine hK25 _ _ ?_
        try clear hK25 K25
        refine W.seq fun K26 hK26 => ?_
        refine W.cond_true rfl ?_
        refine W.skip ?_
        refine hK26 _ _ ?_
        try clear hK26 K26
        refine W.seq fun K27 hK27 => ?_
        refine W.block ?_
        refine W.seq fun K28 hK28 => ?_
        refine W.region ?_
        refine SeqOps.put 30 rfl rfl rfl (O.indexAddr (a := ad) (len := l.length) (cap := cap) (i := (k : Int)) (sz := 1) (v := .pointer (some (ad.add k))) rfl rfl rfl Tryz.underlying133 sz22 (by omega) (by omega) (by simp) ?_)
        refine SeqOps.put 31 rfl rfl rfl (O.loadOne (a := ad.add k) (v := .slice ao2 l[k].length cap2) rfl rfl Tryz.underlying22 rfl (nk.st.agr.cell hcel) ?_)
        refine SeqOps.put 9 rfl rfl rfl (O.assign (v := (.slice ao2 l[k].length cap2)) rfl rfl ?_)
        refine SeqOps.nil ?_
        refine hK28 _ _ ?_
        try clear hK28 K28
        refine W.seq fun K29 hK29 => ?_
        refine W.region ?_
        refine SeqOps.put 33 rfl rfl rfl (O.move (v := (.func (.func 81) #[] #[])) rfl rfl ?_)
        refine SeqOps.put 34 rfl rfl rfl (O.move (v := (.slice ao2 l[k].length cap2)) rfl rfl ?_)
        refine SeqOps.put 35 rfl rfl rfl (O.call (fid := 81) (cap := #[]) (args := [(.slice ao2 l[k].length cap2)]) rfl rfl rfl Tryz.func81 rfl rfl ?_)
        refine Calls.mono (read_Block_calls (a := a) hLM hGM (hel.mono (Hm.right _ _)) (by omega)) ?_
        rintro e w5 hret
        obtain ⟨N5, v5, be, rfl, n5, hwf, her⟩ := RetRd.bad hd hret
        have n6 := nk.trans n5 (fun i hi => hi.elim)
        have hp6 := hp.new n5
        rw [Hm.assoc] at hp6
        have hM6 : Hm M N5 bp = none := Hm.none hM (by rw [n5.st.low bp hp.lt])
        have own6 : Own (Hm M N5) w5 w.heap.size 91 173 out k (List.flatten css) := (own.ext n5.st.chg).heap fun j hj => Hm.none (own.out j hj) (by rw [n5.st.low j (own.base hj).2])
        have hle6 : Hle M (Hm M N5) := nk.le1 n5
        obtain ⟨q, rfl, hqok⟩ := hwf
        refine ⟨_, rfl, ?_⟩
        refine SeqOps.put 32 rfl rfl rfl (O.move (v := (.tuple #[(.agg (List.toArray (q.cells))), (.iface 160 (.pointer (some ⟨be, 0, none⟩)))])) rfl rfl ?_)
        refine SeqOps.put 36 rfl rfl rfl (O.extract (v := (.agg (List.toArray (q.cells)))) rfl rfl rfl ?_)
        refine SeqOps.put 37 rfl rfl rfl (O.extract (v := (.iface 160 (.pointer (some ⟨be, 0, none⟩)))) rfl rfl rfl ?_)
        refine SeqOps.put 10 rfl rfl rfl (O.alloc rfl zr91 ?_)
        intro bq wa hbq hbq1 hEa hkq0
        refine SeqOps.eff rfl rfl (O.store (b := bq) (off := 0) (v := .agg (List.toArray q.cells)) (n := 173) (c' := q.cells.toArray) rfl rfl rfl hkq0 sz91 rfl (by decide) (VBlock.one hqok) rfl ?_)
        intro wb hCb hkq
        have hEb : Ext w5 wb := hEa.trans_new hCb fun i hi => .inl (by omega)
        have hp6' := hp6
        replace n6 := n6.new hEb; replace hp6 := hp6.ext hEb; replace own6 := own6.ext hEb
        refine SeqOps.put 11 rfl rfl rfl (O.assign (v := (.iface 160 (.pointer (some ⟨be, 0, none⟩)))) rfl rfl ?_)
        refine SeqOps.nil ?_
        refine hK29 _ _ ?_
        try clear hK29 K29
        refine W.seq fun K30 hK30 => ?_
        refine W.seq fun K31 hK31 => ?_
        refine W.region ?_
        refine SeqOps.put 38 rfl rfl rfl (O.move (v := (.iface 160 (.pointer (some ⟨be, 0, none⟩)))) rfl rfl ?_)
        refine SeqOps.put 39 rfl rfl rfl (O.ifaceNil (v := (.iface 160 (.pointer (some ⟨be, 0, none⟩)))) (r := true) rfl rfl (.inr ⟨_, _, rfl⟩) Tryz.underlying162 (.inr ⟨rfl, rfl⟩) ?_)
        refine SeqOps.nil ?_
        refine hK31 _ _ ?_
        try clear hK31 K31
        refine W.cond_true rfl ?_
        refine W.region ?_
        refine SeqOps.put 40 rfl rfl rfl (O.move (v := (.pointer (some ⟨bp, 0, none⟩))) rfl rfl ?_)
        refine SeqOps.put 41 rfl rfl rfl (O.move (v := (.iface 160 (.pointer (some ⟨be, 0, none⟩)))) rfl rfl ?_)
        refine SeqOps.put 42 rfl rfl rfl (O.build (vps := [(0, (strOf [105, 110, 32, 97, 32, 108, 105, 115, 116])), (1, (.iface 160 (.pointer (some ⟨be, 0, none⟩))))]) (cells := [(strOf [105, 110, 32, 97, 32, 108, 105, 115, 116]), (.iface 160 (.pointer (some ⟨be, 0, none⟩)))]) rfl rfl (by kernel_rfl) ?_)
        refine SeqOps.put 43 rfl rfl rfl (O.box (v := (.agg (List.toArray ([(strOf [105, 110, 32, 97, 32, 108, 105, 115, 116]), (.iface 160 (.pointer (some ⟨be, 0, none⟩)))])))) rfl rfl ?_)
        intro b7 w7 hb7 hb7l hEw7 hkb7
        obtain ⟨h7, hN7, e7⟩ := hp6.wrong hEw7 hb7 hkb7
        refine SeqOps.put 44 rfl rfl rfl (O.makeIface (v := (.pointer (some ⟨b7, 0, none⟩))) rfl rfl Tryz.underlying160 rfl ?_)
        refine SeqOps.put 45 rfl rfl rfl (O.call (fid := 126) (cap := #[]) (args := [(.pointer (some ⟨bp, 0, none⟩)), (.iface 160 (.pointer (some ⟨b7, 0, none⟩)))]) rfl rfl rfl Tryz.func126 rfl rfl ?_)
        refine Calls.mono (bad_calls h7 (.wrap (Hadd_same _ _ _) (her.mono (Hle.trans (Hm.right M N5) (Hle.trans (Hm.right N _) (Hle.add _ (hp6.agrN.none hb7))))))) ?_
        rintro e w8 ⟨rfl, h8, hC8⟩
        have hlt6 := hp6.lt
        have hM7 : Hm (Hm M N5) (Hadd NH b7 (Obj.cells ((.agg (List.toArray ([(strOf [105, 110, 32, 97, 32, 108, 105, 115, 116]), (.iface 160 (.pointer (some ⟨be, 0, none⟩)))]))) : Value).cells 164 (0, 0))) bp = none := Hm.none hM6 (by rw [Hadd_ne _ _ (by omega)])
        have n8 := (n6.trans hN7 (fun i hi => hi.elim)).step hC8 (fun i hi => ⟨.inr hi, by subst hi; exact hM7⟩)
        rw [← e7, Hm.assoc] at h8
        have own8 : Own (Hm (Hm M N5) (Hadd NH b7 (Obj.cells ((.agg (List.toArray ([(strOf [105, 110, 32, 97, 32, 108, 105, 115, 116]), (.iface 160 (.pointer (some ⟨be, 0, none⟩)))]))) : Value).cells 164 (0, 0)))) w8 w.heap.size 91 173 out k (List.flatten css) := ((own6.ext hEw7).chg hC8 fun j hj e => by subst e; have := (own6.base hj).1; omega).heap fun j hj => Hm.none (own6.out j hj) (by have := (own6.base hj).2; rw [Hadd_ne _ _ (by omega)])
        have hkq8 := hC8.blk (Ext.blk hEw7 hkq) (by have := hp6'.lt; omega)
        have hle8 : Hle M (Hm (Hm M N5) (Hadd NH b7 (Obj.cells ((.agg (List.toArray ([(strOf [105, 110, 32, 97, 32, 108, 105, 115, 116]), (.iface 160 (.pointer (some ⟨be, 0, none⟩)))]))) : Value).cells 164 (0, 0)))) := hle6.trans (n6.le1 hN7)
        refine ⟨_, rfl, ?_⟩
        refine SeqOps.nil ?_
        refine hK30 _ _ ?_
        try clear hK30 K30
        refine W.region ?_
        refine SeqOps.put 46 rfl rfl rfl (O.move (v := out) rfl rfl ?_)
        refine SeqOps.put 47 rfl rfl rfl (O.loadBlk (b := bq) (off := 0) (cs := q.cells) rfl rfl hkq8 Tryz.underlying91 rfl sz91 rfl ?_)
        refine SeqOps.put 48 rfl rfl rfl (O.buildSlice (vs := [(.agg (List.toArray (q.cells)))]) rfl rfl rfl Tryz.underlying30 inf91 (by intro u hu; simp at hu; subst hu; rfl) (by decide) ?_)
        intro b9 w9 hb9 hb91 hE9 hk9
        have hcat : catV [(.agg (List.toArray (q.cells)))] = q.cells := by simp [catV, Value.cells]
        rw [hcat] at hk9
        have own9 := own8.ext hE9
        have n9 := n8.new hE9
        refine SeqOps.put 49 rfl rfl rfl (O.append (B := w.heap.size) (v := out) (vx := .slice (some ⟨b9, 0, none⟩) 1 1) (m := 1) (xs := List.flatten css) (news := q.cells) rfl rfl rfl Tryz.underlying30 inf91 rfl own9 (Own.ofBlk (H := fun _ => none) (B := 0) (s := 173) (xs := q.cells) hk9 (Nat.zero_le _) rfl rfl (by decide) (VBlock.one hqok)).rsw rfl (by omega) (by omega) n9.st.chg.size n9.st.agr ?_)
        intro o10 w10 own10 hC10
        refine SeqOps.put 7 rfl rfl rfl (O.assign (v := o10) rfl rfl ?_)
        refine SeqOps.nil ?_
        refine hK27 _ _ ?_
        try clear hK27 K27
        refine W.region ?_
        refine SeqOps.put 50 rfl rfl rfl (O.arith (a := (k : Int)) (b := 1) (r := (k : Int) + 1) (c := (k : Int) + 1) rfl rfl rfl rfl (by exact wrap_i64 (by omega) (by omega)) ?_)
        refine SeqOps.put 28 rfl rfl rfl (O.move (v := (.int .i64 ((k : Int) + 1))) rfl rfl ?_)
        refine SeqOps.nil ?_
        have n10 := n9.step hC10 (fun i hi => ⟨.inl (own9.base hi).1, own9.out i hi⟩)
        have hp10 := (h8.ext hE9).chg hC10 (fun i hi => ⟨by have := (own9.base hi).1; omega, h0L (own9.base hi).1, Hm.none (h0N (own9.base hi).1) (own9.out i hi)⟩)
        refine ⟨⟨_, _, o10, css ++ [q.cells], k + 1, rfl, by omega, n10, hM7, hp10, hl.mono hle8, by simpa using own10, ?_, ?_, fun ys hy => ?_⟩, by show l.length - ((k + 1 : Nat) : Int).toNat < l.length - ((k : Nat) : Int).toNat; omega⟩
        · intro cs hcs'; rcases List.mem_append.1 hcs' with h' | h'
          · exact hcs cs h'
          · simp at h'; subst h'; rfl
        · rw [htk, mapO_snoc, hd]; cases mapO dBlock (l.take k) <;> simp
        · rw [htk, mapO_snoc, hd] at hy; cases mapO dBlock (l.take k) <;> simp at hy
    have hkl : k = l.length := by omega
    refine W.seq fun K32 hK32 => ?_
    refine W.region ?_
    refine SeqOps.put 29 rfl rfl rfl (O.cmp (a := (k : Int)) (b := (l.length : Int)) (r := false) rfl rfl rfl (by simp [cmpI]; omega) ?_)
    refine SeqOps.nil ?_
    refine hK32 _ _ ?_
    try clear hK32 K32
    refine W.seq fun K33 hK33 => ?_
    refine W.cond_false rfl ?_
    refine W.exit ?_
    refine hK16 _ _ ?_
    try clear hK16 K16
    refine W.seq fun K34 hK34 => ?_
    refine W.region ?_
    refine SeqOps.put 51 rfl rfl rfl (O.move (v := out) rfl rfl ?_)
    refine SeqOps.put 4 rfl rfl rfl (O.assign (v := out) rfl rfl ?_)
    refine SeqOps.nil ?_
    refine hK34 _ _ ?_
    try clear hK34 K34
    refine W.ret ?_
    subst hkl
    rw [List.take_length] at hokk hall
    obtain ⟨M2, hle2, n2, hsame, rs2⟩ := own.join nk (Nat.le_refl _)
    have hM2 : M2 bp = none := by rw [hsame bp fun e => by have := (own.base e).1; omega]; exact hM
    have hdl : dList dBlock b = mapO dBlock l := by unfold dList; rw [hsp]; rfl
    obtain ⟨aof, capf, hof⟩ := rs2.form
    refine retQ_one rfl rfl ⟨M2, out, rfl, n2, hM2, ?_, ⟨_, _, _, hof⟩, fun ys hy => ?_⟩
    · rw [hdl, ← hokk]
      obtain ⟨lv, ev, hblk, hrb, hev⟩ := hp.blk
      refine h.next n2 hM2 ⟨lv, ev, hblk, hrb, hev.imp id fun ⟨e1, e2⟩ => ⟨e1, e2.mono ?_⟩⟩
      intro j o ho; unfold Hm at ho ⊢
      cases hj : M j with
      | some o' => rw [hj] at ho; rw [hle2 j o' hj]; exact ho
      | none =>
        rw [hj] at ho
        have hno := h.agrN.lt ho
        rw [show M2 j = none by rw [n2.st.low j hno]]; exact ho
    · rw [hdl] at hy
      have h2 := hall ys hy
      refine ⟨css, h2.imp fun _ _ hc => cBlock.mono hle2 hc, hcs, ?_⟩
      have hlen2 := mapO_length hy
      rw [hlen2]; exact rs2

def wfVote (v : Value) : Prop := ∃ q : VVote, v = .agg (List.toArray q.cells) ∧ q.ok
def phVote (N : Heap) (v : Value) (y : DVote) : Prop := ∃ q : VVote, v = .agg (List.toArray q.cells) ∧ RVote N q y
set_option maxHeartbeats 1000000 in
theorem read_Vote_calls {a : Addr} {H : Heap} {w : World} {v : Value} {bs : List UInt8} (hA : Agr H w) (hG : hcell H ⟨1, 0, none⟩ = some (eS a)) (r : RB H v bs) (hlen : bs.length ≤ 1099511627776) :
    Calls Tryz.prog 83 #[v] w (RetRd a dVote wfVote phVote w bs) := by
  refine calls_of_W (n := 26) Tryz.func83 rfl Tryz.ntmps83 (Nat.le_of_ble_eq_true rfl) ?_
  refine W.seq fun K1 hK1 => ?_
  refine W.region ?_
  refine SeqOps.put 2 rfl rfl rfl (O.alloc rfl zr98 ?_)
  intro br w0 hbr hbr1 hE0 hk0
  refine SeqOps.put 3 rfl rfl rfl (O.assign (v := .nilIface) rfl rfl ?_)
  refine SeqOps.nil ?_
  refine hK1 _ _ ?_
  try clear hK1 K1
  refine W.seq fun K2 hK2 => ?_
  refine W.region ?_
  refine SeqOps.put 6 rfl rfl rfl (O.move (v := v) rfl rfl ?_)
  refine SeqOps.put 7 rfl rfl rfl (O.call (fid := 87) (cap := #[]) (args := [v, (.int .i64 (6)), (strOf [97, 32, 118, 111, 116, 101])]) rfl rfl rfl Tryz.func87 rfl rfl ?_)
  refine Calls.mono (split_calls (a := a) (n := 6) (Ext.agr hE0 hA) hG r hlen (by omega)) ?_
  rintro e w1 ⟨N0, bp, rem, okS, rfl, n0, hbp, hps, hrl, hok1, hok2, hrle⟩
  obtain ⟨b0, b1, b2, b3, b4, b5, rfl⟩ : ∃ b0 b1 b2 b3 b4 b5, rem = [b0, b1, b2, b3, b4, b5] := by match rem, hrl with | [b0, b1, b2, b3, b4, b5], _ => exact ⟨b0, b1, b2, b3, b4, b5, rfl⟩
  have hbrp : br ≠ bp := by omega
  have hkr := Ext.blk n0.st.chg hk0
  have nn0 := ((New.start w NoX).new hE0).trans n0 (fun i hi => hi.elim)
  rw [Hm.nilL] at nn0
  have hr0 : N0 br = none := by rw [n0.st.low br hbr1]
  refine ⟨_, rfl, ?_⟩
  refine SeqOps.put 4 rfl rfl rfl (O.assign (v := (.pointer (some ⟨bp, 0, none⟩))) rfl rfl ?_)
  refine SeqOps.nil ?_
  refine hK2 _ _ ?_
  try clear hK2 K2
  refine W.seq fun K3 hK3 => ?_
  refine W.region ?_
  refine SeqOps.put 8 rfl rfl rfl (O.move (v := (.pointer (some ⟨bp, 0, none⟩))) rfl rfl ?_)
  refine SeqOps.put 9 rfl rfl rfl (O.call (fid := 88) (cap := #[]) (args := [(.pointer (some ⟨bp, 0, none⟩))]) rfl rfl rfl Tryz.func88 rfl rfl ?_)
  refine Calls.mono (pint_calls hps) ?_
  rintro e wm1 ⟨M1, v0_, rfl, nm1, hM1, hp1, ⟨f0, rfl, hrng0, hy0⟩⟩
  have nn1 := nn0.trans nm1 (fun i hi => ⟨.inl (by subst hi; have := hE0.size; omega), by subst hi; exact hps.outN⟩)
  have hkr1 := nm1.st.chg.blk hkr hbrp
  have hr1 : Hm N0 M1 br = none := Hm.none hr0 (by rw [nm1.st.low br (blk_lt hkr)])
  have hle1 : Hle N0 (Hm N0 M1) := nn0.le1 nm1
  refine ⟨_, rfl, ?_⟩
  refine SeqOps.put 10 rfl rfl rfl (O.move (v := (.pointer (some ⟨bp, 0, none⟩))) rfl rfl ?_)
  refine SeqOps.put 11 rfl rfl rfl (O.call (fid := 88) (cap := #[]) (args := [(.pointer (some ⟨bp, 0, none⟩))]) rfl rfl rfl Tryz.func88 rfl rfl ?_)
  refine Calls.mono (pint_calls hp1) ?_
  rintro e wm2 ⟨M2, v1_, rfl, nm2, hM2, hp2, ⟨f1, rfl, hrng1, hy1⟩⟩
  have nn2 := nn1.trans nm2 (fun i hi => ⟨.inl (by subst hi; have := hE0.size; omega), by subst hi; exact hp1.outN⟩)
  have hkr2 := nm2.st.chg.blk hkr1 hbrp
  have hr2 : Hm (Hm N0 M1) M2 br = none := Hm.none hr1 (by rw [nm2.st.low br (blk_lt hkr1)])
  have hle2 : Hle (Hm N0 M1) (Hm (Hm N0 M1) M2) := nn1.le1 nm2
  refine ⟨_, rfl, ?_⟩
  refine SeqOps.put 12 rfl rfl rfl (O.move (v := (.pointer (some ⟨bp, 0, none⟩))) rfl rfl ?_)
  refine SeqOps.put 13 rfl rfl rfl (O.call (fid := 89) (cap := #[]) (args := [(.pointer (some ⟨bp, 0, none⟩))]) rfl rfl rfl Tryz.func89 rfl rfl ?_)
  refine Calls.mono (pn_calls hp2) ?_
  rintro e wm3 ⟨M3, v2_, rfl, nm3, hM3, hp3, ⟨f2, rfl, hrng2, hy2⟩⟩
  have nn3 := nn2.trans nm3 (fun i hi => ⟨.inl (by subst hi; have := hE0.size; omega), by subst hi; exact hp2.outN⟩)
  have hkr3 := nm3.st.chg.blk hkr2 hbrp
  have hr3 : Hm (Hm (Hm N0 M1) M2) M3 br = none := Hm.none hr2 (by rw [nm3.st.low br (blk_lt hkr2)])
  have hle3 : Hle (Hm (Hm N0 M1) M2) (Hm (Hm (Hm N0 M1) M2) M3) := nn2.le1 nm3
  refine ⟨_, rfl, ?_⟩
  refine SeqOps.put 14 rfl rfl rfl (O.move (v := (.pointer (some ⟨bp, 0, none⟩))) rfl rfl ?_)
  refine SeqOps.put 15 rfl rfl rfl (O.call (fid := 90) (cap := #[]) (args := [(.pointer (some ⟨bp, 0, none⟩))]) rfl rfl rfl Tryz.func90 rfl rfl ?_)
  refine Calls.mono (pdigest_calls hp3) ?_
  rintro e wm4 ⟨M4, v3_, rfl, nm4, hM4, hp4, ⟨f3, rfl, hy3⟩⟩
  have nn4 := nn3.trans nm4 (fun i hi => ⟨.inl (by subst hi; have := hE0.size; omega), by subst hi; exact hp3.outN⟩)
  have hkr4 := nm4.st.chg.blk hkr3 hbrp
  have hr4 : Hm (Hm (Hm (Hm N0 M1) M2) M3) M4 br = none := Hm.none hr3 (by rw [nm4.st.low br (blk_lt hkr3)])
  have hle4 : Hle (Hm (Hm (Hm N0 M1) M2) M3) (Hm (Hm (Hm (Hm N0 M1) M2) M3) M4) := nn3.le1 nm4
  refine ⟨_, rfl, ?_⟩
  refine SeqOps.put 16 rfl rfl rfl (O.move (v := (.pointer (some ⟨bp, 0, none⟩))) rfl rfl ?_)
  refine SeqOps.put 17 rfl rfl rfl (O.call (fid := 88) (cap := #[]) (args := [(.pointer (some ⟨bp, 0, none⟩))]) rfl rfl rfl Tryz.func88 rfl rfl ?_)
  refine Calls.mono (pint_calls hp4) ?_
  rintro e wm5 ⟨M5, v4_, rfl, nm5, hM5, hp5, ⟨f4, rfl, hrng4, hy4⟩⟩
  have nn5 := nn4.trans nm5 (fun i hi => ⟨.inl (by subst hi; have := hE0.size; omega), by subst hi; exact hp4.outN⟩)
  have hkr5 := nm5.st.chg.blk hkr4 hbrp
  have hr5 : Hm (Hm (Hm (Hm (Hm N0 M1) M2) M3) M4) M5 br = none := Hm.none hr4 (by rw [nm5.st.low br (blk_lt hkr4)])
  have hle5 : Hle (Hm (Hm (Hm (Hm N0 M1) M2) M3) M4) (Hm (Hm (Hm (Hm (Hm N0 M1) M2) M3) M4) M5) := nn4.le1 nm5
  refine ⟨_, rfl, ?_⟩
  refine SeqOps.put 18 rfl rfl rfl (O.move (v := (.pointer (some ⟨bp, 0, none⟩))) rfl rfl ?_)
  refine SeqOps.put 19 rfl rfl rfl (O.call (fid := 120) (cap := #[]) (args := [(.pointer (some ⟨bp, 0, none⟩)), (.func (.func 114) #[] #[])]) rfl rfl rfl Tryz.func120 rfl rfl ?_)
  refine Calls.mono (one_Sig_calls hp5 (by have := hrle b5 (by simp); omega)) ?_
  rintro e wm6 ⟨M6, v5_, rfl, nm6, hM6, hp6, ⟨f5, rfl, hfok5, hy5⟩⟩
  have nn6 := nn5.trans nm6 (fun i hi => ⟨.inl (by subst hi; have := hE0.size; omega), by subst hi; exact hp5.outN⟩)
  have hkr6 := nm6.st.chg.blk hkr5 hbrp
  have hr6 : Hm (Hm (Hm (Hm (Hm (Hm N0 M1) M2) M3) M4) M5) M6 br = none := Hm.none hr5 (by rw [nm6.st.low br (blk_lt hkr5)])
  have hle6 : Hle (Hm (Hm (Hm (Hm (Hm N0 M1) M2) M3) M4) M5) (Hm (Hm (Hm (Hm (Hm (Hm N0 M1) M2) M3) M4) M5) M6) := nn5.le1 nm6
  refine ⟨_, rfl, ?_⟩
  obtain ⟨q, hq⟩ : ∃ q : VVote, q = ⟨f0, f1, f2, f3, f4, f5⟩ := ⟨_, rfl⟩
  refine SeqOps.put 20 rfl rfl rfl (O.build (vps := [(0, (.int .i64 (f0))), (1, (.int .i64 (f1))), (2, (.int .i64 (f2))), (3, (.agg (List.toArray (digC f3)))), (4, (.int .i64 (f4))), (5, (.agg (List.toArray (f5.cells))))]) (cells := (VVote.cells ⟨f0, f1, f2, f3, f4, f5⟩)) rfl rfl (by kernel_rfl) ?_)
  rw [← hq]
  have hqok : q.ok := by rw [hq]; exact hfok5
  refine SeqOps.put 5 rfl rfl rfl (O.alloc rfl zr98 ?_)
  intro bq wa hbq hbq1 hEa hkq0
  refine SeqOps.eff rfl rfl (O.store (b := bq) (off := 0) (v := .agg (List.toArray q.cells)) (n := 69) (c' := q.cells.toArray) rfl rfl rfl hkq0 sz98 rfl (by decide) (VVote.one hqok) rfl ?_)
  intro wq hCq hkq
  have hEq : Ext wm6 wq := hEa.trans_new hCq fun i hi => .inl (by omega)
  have hpq := hp6.ext hEq
  have hkrq := Ext.blk hEq hkr6
  have hqr : bq ≠ br := by have := blk_lt hkr6; omega
  have hpr : bp ≠ br := Ne.symm hbrp
  obtain ⟨lv, ev, hkp, hevf, hev⟩ := hpq.final
  skip
  refine SeqOps.nil ?_
  refine hK3 _ _ ?_
  try clear hK3 K3
  refine W.seq fun K4 hK4 => ?_
  obtain ⟨obj, hobj⟩ : ∃ o, o = Obj.cells q.cells.toArray 98 (0, 0) := ⟨_, rfl⟩
  refine W.region_any (by kernel_rfl) (by kernel_rfl) [21, 22, 23, 24, 25, 3] rfl (fun a b => RStoreC br (.cells q.cells.toArray 98 (0, 0)) 69 98 a b) (fun _ => RStoreC.refl _ _ _ _ _) (fun h k => RStoreC.trans h k) [
      (fun (u : Value) (_ : World) => u = .agg (List.toArray q.cells)),
      (fun (u : Value) (_ : World) => u = Value.pointer (some ⟨bp, 0, none⟩)),
      (fun (u : Value) (_ : World) => u = Value.pointer (some ⟨bp, 0, none⟩)),
      (fun (u : Value) (_ : World) => u = Value.pointer (some ⟨bp, 1, none⟩)),
      (fun (u : Value) (_ : World) => u = ev),
      (fun (_ : Value) (w : World) => w.heap[br]? = some (.cells q.cells.toArray 98 (0, 0))),
      (fun (u : Value) (_ : World) => u = ev)
    ] ⟨fun _ _ _ _ h => h, fun _ _ _ _ h => h, fun _ _ _ _ h => h, fun _ _ _ _ h => h, fun _ _ _ _ h => h, fun _ _ _ hE h => hE.2.1 h, fun _ _ _ _ h => h, trivial⟩ ⟨?_, ?_, ?_, ?_, ?_, ?_, ?_, trivial⟩ ?_
  · intro g w1 hR hf hd
    have h1 : g 5 = .pointer (some ⟨bq, 0, none⟩) := hf 5 (by decide)
    have hb1 := Chg.blk hR.1 (show wq.drew.heap[bq]? = _ from hkq) hqr
    exact StepT.plain rfl (O.loadBlk (b := bq) (off := 0) (cs := q.cells) rfl h1 hb1 Tryz.underlying98 rfl sz98 rfl ⟨RStoreC.refl _ _ _ _ _, rfl⟩)
  · intro g w1 hR hf hd
    have h1 : g 4 = Value.pointer (some ⟨bp, 0, none⟩) := hf 4 (by decide)
    exact StepT.plain rfl (O.move (v := Value.pointer (some ⟨bp, 0, none⟩)) rfl h1 ⟨RStoreC.refl _ _ _ _ _, rfl⟩)
  · intro g w1 hR hf hd
    have h1 : (fun (u : Value) (_ : World) => u = Value.pointer (some ⟨bp, 0, none⟩)) (g 22) w1 := hd.1 rfl
    exact StepT.plain rfl (O.nilCheckPtr (a := ⟨bp, 0, none⟩) rfl h1 ⟨RStoreC.refl _ _ _ _ _, rfl⟩)
  · intro g w1 hR hf hd
    have h1 : (fun (u : Value) (_ : World) => u = Value.pointer (some ⟨bp, 0, none⟩)) (g 23) w1 := hd.1 rfl
    exact StepT.plain rfl (O.fieldAddr (a := ⟨bp, 0, none⟩) (v := Value.pointer (some ⟨bp, 1, none⟩)) rfl h1 Tryz.underlying177 rfl (by kernel_rfl) rfl ⟨RStoreC.refl _ _ _ _ _, rfl⟩)
  · intro g w1 hR hf hd
    have h1 : (fun (u : Value) (_ : World) => u = Value.pointer (some ⟨bp, 1, none⟩)) (g 24) w1 := hd.1 rfl
    have hb1 := Chg.blk hR.1 (show wq.drew.heap[bp]? = _ from hkp) hpr
    exact StepT.plain rfl (O.loadBlk1 (b := bp) (off := 1) (v := ev) rfl h1 hb1 Tryz.underlying162 rfl rfl ⟨RStoreC.refl _ _ _ _ _, rfl⟩)
  · intro g w1 hR hf hd
    have h1 : g 2 = .pointer (some ⟨br, 0, none⟩) := hf 2 (by decide)
    have h2 : g 21 = .agg (List.toArray q.cells) := hd.1 rfl
    obtain ⟨cr, hcr, hk⟩ := hR.2.2 ⟨_, rfl, show wq.drew.heap[br]? = _ from hkrq⟩
    refine StepT.plain rfl (O.store (b := br) (off := 0) (v := .agg (List.toArray q.cells)) (n := 69) (c' := q.cells.toArray) rfl h1 h2 hk sz98 rfl (by rw [Nat.zero_add, hcr]; exact Nat.le_refl _) (VVote.one hqok) (by simp [Value.cells, VVote.length, hcr]) ?_)
    intro w2 hC hk2
    exact ⟨⟨hC, fun _ => hk2, fun _ => ⟨_, VVote.length q, hk2⟩⟩, hk2⟩
  · intro g w1 hR hf hd
    have h1 : g 25 = ev := hd.1 rfl
    exact StepT.plain rfl (O.assign (v := ev) rfl h1 ⟨RStoreC.refl _ _ _ _ _, rfl⟩)
  intro g w9 hR hf hall
  have hf5 := hall.2.2.2.2.2.1
  have hf6 := hall.2.2.2.2.2.2.1
  refine hK4 _ _ ?_
  try clear hK4 K4
  refine W.ret ?_
  have n9 := ((nn6.new hEq).new (Ext.drew wq)).step hR.1 (fun i hi => ⟨.inl (by omega), by subst hi; exact hr6⟩)
  refine retQ_cell2 (b := br) (cs := q.cells) rfl (hf 2 (by decide)) hf6 hf5 Tryz.underlying98 rfl sz98 ⟨_, _, _, rfl, n9, ⟨q, rfl, hqok⟩, ?_⟩
  rcases hev with ⟨hok, rfl⟩ | ⟨hok, he⟩
  · simp only [Bool.and_eq_true] at hok
    obtain ⟨⟨⟨⟨⟨⟨hok0, hs0⟩, hs1⟩, hs2⟩, hs3⟩, hs4⟩, hs5⟩ := hok
    obtain ⟨y0, hd0⟩ := Option.isSome_iff_exists.1 hs0
    obtain ⟨y1, hd1⟩ := Option.isSome_iff_exists.1 hs1
    obtain ⟨y2, hd2⟩ := Option.isSome_iff_exists.1 hs2
    obtain ⟨y3, hd3⟩ := Option.isSome_iff_exists.1 hs3
    obtain ⟨y4, hd4⟩ := Option.isSome_iff_exists.1 hs4
    obtain ⟨y5, hd5⟩ := Option.isSome_iff_exists.1 hs5
    refine .inl ⟨⟨y0, y1, y2, y3, y4, y5⟩, ?_, rfl, q, rfl, ?_⟩
    · unfold dVote; rw [hok1 hok0]; exact dVoteL_some hd0 hd1 hd2 hd3 hd4 hd5
    · rw [hq]; exact ⟨⟨hy0 _ hd0, by rw [← hy0 _ hd0]; exact hrng0⟩, ⟨hy1 _ hd1, by rw [← hy1 _ hd1]; exact hrng1⟩, ⟨hy2 _ hd2, by rw [← hy2 _ hd2]; exact hrng2⟩, hy3 _ hd3, ⟨hy4 _ hd4, by rw [← hy4 _ hd4]; exact hrng4⟩, (hy5 _ hd5).mono (Hm.right _ M6)⟩
  · refine .inr ⟨?_, he⟩
    cases hokS : okS with
    | false =>
      unfold dVote
      cases hs : split bs with
      | none => rfl
      | some l => exact dVoteL_len (hok2 hokS l hs)
    | true =>
      unfold dVote
      rw [hok1 hokS]
      have hiss := dVoteL_isSome b0 b1 b2 b3 b4 b5
      rw [hokS] at hok; simp only [Bool.true_and] at hok hiss
      rw [hok] at hiss
      simpa using hiss

theorem all_Vote_calls {a : Addr} {HL N : Heap} {w : World} {bp : Nat} {b : List UInt8} {rem : List (List UInt8)} {ok : Bool} (h : PS a HL N w bp (b :: rem) ok) (hlen : b.length ≤ 1099511627776) :
    Calls Tryz.prog 92 #[.pointer (some ⟨bp, 0, none⟩), .func (.func 83) #[] #[]] w (RetP a HL N w bp rem (ok && (dList dVote b).isSome) (fun M v => (∃ ao n cap, v = .slice ao n cap) ∧ ∀ ys, dList dVote b = some ys → RL 69 cVote M v ys)) := by
  have hlt0 := h.lt
  have h0L : ∀ {k}, w.heap.size ≤ k → HL k = none := fun hk => h.agrL.none hk
  have h0N : ∀ {k}, w.heap.size ≤ k → N k = none := fun hk => h.agrN.none hk
  cases hsp : split b with
  | none =>
    refine calls_of_W (n := 52) Tryz.func92 rfl Tryz.ntmps92 (Nat.le_of_ble_eq_true rfl) ?_
    refine W.seq fun K1 hK1 => ?_
    refine W.region ?_
    refine SeqOps.put 4 rfl rfl rfl (O.assign (v := (.slice none 0 0)) rfl rfl ?_)
    refine SeqOps.nil ?_
    refine hK1 _ _ ?_
    try clear hK1 K1
    refine W.seq fun K2 hK2 => ?_
    refine W.region ?_
    refine SeqOps.put 13 rfl rfl rfl (O.move (v := (.pointer (some ⟨bp, 0, none⟩))) rfl rfl ?_)
    refine SeqOps.put 14 rfl rfl rfl (O.call (fid := 125) (cap := #[]) (args := [(.pointer (some ⟨bp, 0, none⟩))]) rfl rfl rfl Tryz.func125 rfl rfl ?_)
    refine Calls.mono (next_calls h) ?_
    rintro e w1 ⟨v1, rfl, hr, h1, hC1⟩
    refine ⟨_, rfl, ?_⟩
    refine SeqOps.put 15 rfl rfl rfl (O.call (fid := 123) (cap := #[]) (args := [v1]) rfl rfl rfl Tryz.func123 rfl rfl ?_)
    refine Calls.mono (Split_calls h1.agrL hr hlen) ?_
    rintro e w2 ⟨M, v2, st, hres⟩
    obtain ⟨rfl, rfl⟩ : v2 = .slice none 0 0 ∧ e = .returned (.tuple #[v2, .bool false]) := by rcases hres with ⟨l, h1, _⟩ | ⟨_, h2, h3⟩ <;> first | exact ⟨h2, h3⟩ | (rw [hsp] at h1; cases h1; done)
    have n2 := (New.ofChg hC1).trans st (fun i hi => hi.elim)
    rw [Hm.nilL] at n2
    have hM : M bp = none := by rw [st.st.low bp h1.lt]
    replace h1 := h1.new st
    refine ⟨_, rfl, ?_⟩
    refine SeqOps.put 12 rfl rfl rfl (O.move (v := (.tuple #[(.slice none 0 0), (.bool (false))])) rfl rfl ?_)
    refine SeqOps.put 16 rfl rfl rfl (O.extract (v := (.slice none 0 0)) rfl rfl rfl ?_)
    refine SeqOps.put 17 rfl rfl rfl (O.extract (v := (.bool (false))) rfl rfl rfl ?_)
    refine SeqOps.put 5 rfl rfl rfl (O.assign (v := (.slice none 0 0)) rfl rfl ?_)
    refine SeqOps.put 6 rfl rfl rfl (O.assign (v := (.bool (false))) rfl rfl ?_)
    refine SeqOps.nil ?_
    refine hK2 _ _ ?_
    try clear hK2 K2
    refine W.seq fun K3 hK3 => ?_
    refine W.seq fun K4 hK4 => ?_
    refine W.region ?_
    refine SeqOps.put 18 rfl rfl rfl (O.move (v := (.bool (false))) rfl rfl ?_)
    refine SeqOps.put 19 rfl rfl rfl (O.not (b := false) rfl rfl ?_)
    refine SeqOps.nil ?_
    refine hK4 _ _ ?_
    try clear hK4 K4
    refine W.cond_true rfl ?_
    refine W.region ?_
    refine SeqOps.put 20 rfl rfl rfl (O.move (v := (.pointer (some ⟨bp, 0, none⟩))) rfl rfl ?_)
    refine SeqOps.put 21 rfl rfl rfl (O.loadOne (a := ⟨1, 0, none⟩) (v := eS a) rfl rfl Tryz.underlying162 rfl (h1.agrL.cell h1.glob) ?_)
    refine SeqOps.put 22 rfl rfl rfl (O.build (vps := [(0, (strOf [97, 32, 108, 105, 115, 116])), (1, (eS a))]) (cells := [(strOf [97, 32, 108, 105, 115, 116]), (eS a)]) rfl rfl (by kernel_rfl) ?_)
    refine SeqOps.put 23 rfl rfl rfl (O.box (v := (.agg (List.toArray ([(strOf [97, 32, 108, 105, 115, 116]), (eS a)])))) rfl rfl ?_)
    intro b3 w3 hb3 hb3l hEw3 hkb3
    obtain ⟨h3, hN3, e3⟩ := h1.wrong hEw3 hb3 hkb3
    refine SeqOps.put 24 rfl rfl rfl (O.makeIface (v := (.pointer (some ⟨b3, 0, none⟩))) rfl rfl Tryz.underlying160 rfl ?_)
    refine SeqOps.put 25 rfl rfl rfl (O.call (fid := 126) (cap := #[]) (args := [(.pointer (some ⟨bp, 0, none⟩)), (.iface 160 (.pointer (some ⟨b3, 0, none⟩)))]) rfl rfl rfl Tryz.func126 rfl rfl ?_)
    refine Calls.mono (bad_calls h3 (.base (Hadd_same _ _ _))) ?_
    rintro e w4 ⟨rfl, h4, hC4⟩
    refine ⟨_, rfl, ?_⟩
    refine SeqOps.nil ?_
    refine hK3 _ _ ?_
    try clear hK3 K3
    refine W.seq fun K5 hK5 => ?_
    refine W.region ?_
    refine SeqOps.put 7 rfl rfl rfl (O.assign (v := (.slice none 0 0)) rfl rfl ?_)
    refine SeqOps.nil ?_
    refine hK5 _ _ ?_
    try clear hK5 K5
    refine W.seq fun K6 hK6 => ?_
    refine W.seq fun K7 hK7 => ?_
    refine W.region ?_
    refine SeqOps.put 26 rfl rfl rfl (O.move (v := (.slice none 0 0)) rfl rfl ?_)
    refine SeqOps.put 27 rfl rfl rfl (O.lenSlice (ad := none) (n := 0) (c := 0) rfl rfl Tryz.underlying133 ?_)
    refine SeqOps.put 28 rfl rfl rfl (O.move (v := (.int .i64 (0))) rfl rfl ?_)
    refine SeqOps.nil ?_
    refine hK7 _ _ ?_
    try clear hK7 K7
    refine W.block ?_
    refine W.loop [7, 26, 27, 28] (fun vals wk => vals = [.slice none 0 0, .slice none 0 0, .int .i64 0, .int .i64 0] ∧ w4 = wk) (fun _ _ => 0) ⟨rfl, rfl⟩ ?_
    rintro g _ wk ⟨rfl, rfl⟩
    refine W.seq fun K8 hK8 => ?_
    refine W.region ?_
    refine SeqOps.put 29 rfl rfl rfl (O.cmp (a := 0) (b := 0) (r := false) rfl rfl rfl (rfl) ?_)
    refine SeqOps.nil ?_
    refine hK8 _ _ ?_
    try clear hK8 K8
    refine W.seq fun K9 hK9 => ?_
    refine W.cond_false rfl ?_
    refine W.exit ?_
    refine hK6 _ _ ?_
    try clear hK6 K6
    refine W.seq fun K10 hK10 => ?_
    refine W.region ?_
    refine SeqOps.put 51 rfl rfl rfl (O.move (v := (.slice none 0 0)) rfl rfl ?_)
    refine SeqOps.put 4 rfl rfl rfl (O.assign (v := (.slice none 0 0)) rfl rfl ?_)
    refine SeqOps.nil ?_
    refine hK10 _ _ ?_
    try clear hK10 K10
    refine W.ret ?_
    have hlt1 := h1.lt
    have n4 := (n2.trans hN3 (fun i hi => hi.elim)).step hC4 (fun i hi => ⟨.inr hi, by subst hi; exact Hm.none hM (by rw [Hadd_ne _ _ (by omega)])⟩)
    refine retQ_one rfl rfl ⟨_, _, rfl, n4, Hm.none hM (by rw [Hadd_ne _ _ (by omega)]), ?_, ⟨_, _, _, rfl⟩, fun ys hy => ?_⟩
    · have e : (ok && (dList dVote b).isSome) = false := by unfold dList; rw [hsp]; simp
      rw [e, ← Hm.assoc, e3]; exact h4
    · unfold dList at hy; rw [hsp] at hy; cases hy
  | some l =>
    have hll : 8 * l.length ≤ b.length := by have h1 := joinTail_ge l; have h2 := join_length l; rw [split_join hsp] at h2; omega
    have hpl := split_parts_le hsp
    refine calls_of_W (n := 52) Tryz.func92 rfl Tryz.ntmps92 (Nat.le_of_ble_eq_true rfl) ?_
    refine W.seq fun K11 hK11 => ?_
    refine W.region ?_
    refine SeqOps.put 4 rfl rfl rfl (O.assign (v := (.slice none 0 0)) rfl rfl ?_)
    refine SeqOps.nil ?_
    refine hK11 _ _ ?_
    try clear hK11 K11
    refine W.seq fun K12 hK12 => ?_
    refine W.region ?_
    refine SeqOps.put 13 rfl rfl rfl (O.move (v := (.pointer (some ⟨bp, 0, none⟩))) rfl rfl ?_)
    refine SeqOps.put 14 rfl rfl rfl (O.call (fid := 125) (cap := #[]) (args := [(.pointer (some ⟨bp, 0, none⟩))]) rfl rfl rfl Tryz.func125 rfl rfl ?_)
    refine Calls.mono (next_calls h) ?_
    rintro e w1 ⟨v1, rfl, hr, h1, hC1⟩
    refine ⟨_, rfl, ?_⟩
    refine SeqOps.put 15 rfl rfl rfl (O.call (fid := 123) (cap := #[]) (args := [v1]) rfl rfl rfl Tryz.func123 rfl rfl ?_)
    refine Calls.mono (Split_calls h1.agrL hr hlen) ?_
    rintro e w2 ⟨M, v2, st, hres⟩
    obtain ⟨rfl, hl⟩ : e = .returned (.tuple #[v2, .bool true]) ∧ RBB M v2 l := by rcases hres with ⟨l', h1, h2, h3⟩ | ⟨h1, _⟩ <;> first | (rw [hsp] at h1; cases h1; exact ⟨h2, h3⟩) | (rw [hsp] at h1; cases h1; done)
    obtain ⟨ao, cap, rfl⟩ : ∃ ao cap, v2 = .slice ao l.length cap := by obtain ⟨vs, _, rs⟩ := hl; exact rs.form
    have n2 := (New.ofChg hC1).trans st (fun i hi => hi.elim)
    rw [Hm.nilL] at n2
    have hM : M bp = none := by rw [st.st.low bp h1.lt]
    replace h1 := h1.new st
    refine ⟨_, rfl, ?_⟩
    refine SeqOps.put 12 rfl rfl rfl (O.move (v := (.tuple #[(.slice ao l.length cap), (.bool (true))])) rfl rfl ?_)
    refine SeqOps.put 16 rfl rfl rfl (O.extract (v := (.slice ao l.length cap)) rfl rfl rfl ?_)
    refine SeqOps.put 17 rfl rfl rfl (O.extract (v := (.bool (true))) rfl rfl rfl ?_)
    refine SeqOps.put 5 rfl rfl rfl (O.assign (v := (.slice ao l.length cap)) rfl rfl ?_)
    refine SeqOps.put 6 rfl rfl rfl (O.assign (v := (.bool (true))) rfl rfl ?_)
    refine SeqOps.nil ?_
    refine hK12 _ _ ?_
    try clear hK12 K12
    refine W.seq fun K13 hK13 => ?_
    refine W.seq fun K14 hK14 => ?_
    refine W.region ?_
    refine SeqOps.put 18 rfl rfl rfl (O.move (v := (.bool (true))) rfl rfl ?_)
    refine SeqOps.put 19 rfl rfl rfl (O.not (b := true) rfl rfl ?_)
    refine SeqOps.nil ?_
    refine hK14 _ _ ?_
    try clear hK14 K14
    refine W.cond_false rfl ?_
    refine W.skip ?_
    refine hK13 _ _ ?_
    try clear hK13 K13
    refine W.seq fun K15 hK15 => ?_
    refine W.region ?_
    refine SeqOps.put 7 rfl rfl rfl (O.assign (v := (.slice none 0 0)) rfl rfl ?_)
    refine SeqOps.nil ?_
    refine hK15 _ _ ?_
    try clear hK15 K15
    refine W.seq fun K16 hK16 => ?_
    refine W.seq fun K17 hK17 => ?_
    refine W.region ?_
    refine SeqOps.put 26 rfl rfl rfl (O.move (v := (.slice ao l.length cap)) rfl rfl ?_)
    refine SeqOps.put 27 rfl rfl rfl (O.lenSlice (ad := ao) (n := l.length) (c := cap) rfl rfl Tryz.underlying133 ?_)
    refine SeqOps.put 28 rfl rfl rfl (O.move (v := (.int .i64 (0))) rfl rfl ?_)
    refine SeqOps.nil ?_
    refine hK17 _ _ ?_
    try clear hK17 K17
    refine W.block ?_
    refine W.loop [0, 1, 7, 26, 27, 28] (fun vals wk => ∃ M okk out css, ∃ k : Nat, vals = [.pointer (some ⟨bp, 0, none⟩), .func (.func 83) #[] #[], out, .slice ao l.length cap, .int .i64 (l.length : Int), .int .i64 (k : Int)] ∧ k ≤ l.length ∧ New w (· = bp) M wk ∧ M bp = none ∧ PS a HL (Hm N M) wk bp rem okk ∧ RBB M (.slice ao l.length cap) l ∧ Own M wk w.heap.size 98 69 out k (List.flatten css) ∧ (∀ cs ∈ css, cs.length = 69) ∧ okk = (ok && (mapO dVote (l.take k)).isSome) ∧ (∀ ys, mapO dVote (l.take k) = some ys → All2 (cVote M) css ys)) (fun vals _ => l.length - (intOf (vals.getD 5 undef)).toNat) ⟨M, ok, _, [], 0, rfl, Nat.zero_le _, n2, hM, h1, hl, Own.nil _ _ _ _ _, by simp, by simp [mapO], fun ys hy => by simp [mapO] at hy; subst hy; exact .nil⟩ ?_
    clear hres n2 hM h1 hl st hC1 hr M
    rintro g _ wk ⟨M, okk, out, css, k, rfl, hk, nk, hM, hp, hl, own, hcs, hokk, hall⟩
    rcases Nat.lt_or_ge k l.length with hlt | hge2
    · have htk : l.take (k + 1) = l.take k ++ [l[k]] := List.take_succ_eq_append_getElem hlt
      have hpk := hpl l[k] (by simp)
      have hl' := hl
      obtain ⟨vs, h2, rs⟩ := hl'
      obtain ⟨hvl, hel⟩ := h2.get hlt
      obtain ⟨ad, rfl, hcel⟩ := rs.elem (i := k) (u := vs[k]) (by simp)
      obtain ⟨ao2, cap2, hv2⟩ := RS.form hel
      rw [hv2] at hcel hel
      have hLM : Agr (Hm HL M) wk := Hm.agr hp.agrL nk.st.agr
      have hGM : hcell (Hm HL M) ⟨1, 0, none⟩ = some (eS a) := (Hm.left h.agrL nk).cell h.glob
      cases hd : dVote l[k] with
      | some y =>
        refine W.seq fun K18 hK18 => ?_
        refine W.region ?_
        refine SeqOps.put 29 rfl rfl rfl (O.cmp (a := (k : Int)) (b := (l.length : Int)) (r := true) rfl rfl rfl (by simp [cmpI]; omega) ?_)
        refine SeqOps.nil ?_
        refine hK18 _ _ ?_
        try clear hK18 K18
        refine W.seq fun K19 hK19 => ?_
        refine W.cond_true rfl ?_
        refine W.skip ?_
        refine hK19 _ _ ?_
        try clear hK19 K19
        refine W.seq fun K20 hK20 => ?_
        refine W.block ?_
        refine W.seq fun K21 hK21 => ?_
        refine W.region ?_
        refine SeqOps.put 30 rfl rfl rfl (O.indexAddr (a := ad) (len := l.length) (cap := cap) (i := (k : Int)) (sz := 1) (v := .pointer (some (ad.add k))) rfl rfl rfl Tryz.underlying133 sz22 (by omega) (by omega) (by simp) ?_)
        refine SeqOps.put 31 rfl rfl rfl (O.loadOne (a := ad.add k) (v := .slice ao2 l[k].length cap2) rfl rfl Tryz.underlying22 rfl (nk.st.agr.cell hcel) ?_)
        refine SeqOps.put 9 rfl rfl rfl (O.assign (v := (.slice ao2 l[k].length cap2)) rfl rfl ?_)
        refine SeqOps.nil ?_
        refine hK21 _ _ ?_
        try clear hK21 K21
        refine W.seq fun K22 hK22 => ?_
        refine W.region ?_
        refine SeqOps.put 33 rfl rfl rfl (O.move (v := (.func (.func 83) #[] #[])) rfl rfl ?_)
        refine SeqOps.put 34 rfl rfl rfl (O.move (v := (.slice ao2 l[k].length cap2)) rfl rfl ?_)
        refine SeqOps.put 35 rfl rfl rfl (O.call (fid := 83) (cap := #[]) (args := [(.slice ao2 l[k].length cap2)]) rfl rfl rfl Tryz.func83 rfl rfl ?_)
        refine Calls.mono (read_Vote_calls (a := a) hLM hGM (hel.mono (Hm.right _ _)) (by omega)) ?_
        rintro e w5 hret
        obtain ⟨N5, v5, rfl, n5, hwf, hph⟩ := RetRd.good hd hret
        have n6 := nk.trans n5 (fun i hi => hi.elim)
        have hp6 := hp.new n5
        rw [Hm.assoc] at hp6
        have hM6 : Hm M N5 bp = none := Hm.none hM (by rw [n5.st.low bp hp.lt])
        have own6 : Own (Hm M N5) w5 w.heap.size 98 69 out k (List.flatten css) := (own.ext n5.st.chg).heap fun j hj => Hm.none (own.out j hj) (by rw [n5.st.low j (own.base hj).2])
        have hle6 : Hle M (Hm M N5) := nk.le1 n5
        obtain ⟨q, rfl, hq⟩ := hph
        refine ⟨_, rfl, ?_⟩
        refine SeqOps.put 32 rfl rfl rfl (O.move (v := (.tuple #[(.agg (List.toArray (q.cells))), .nilIface])) rfl rfl ?_)
        refine SeqOps.put 36 rfl rfl rfl (O.extract (v := (.agg (List.toArray (q.cells)))) rfl rfl rfl ?_)
        refine SeqOps.put 37 rfl rfl rfl (O.extract (v := .nilIface) rfl rfl rfl ?_)
        refine SeqOps.put 10 rfl rfl rfl (O.alloc rfl zr98 ?_)
        intro bq wa hbq hbq1 hEa hkq0
        refine SeqOps.eff rfl rfl (O.store (b := bq) (off := 0) (v := .agg (List.toArray q.cells)) (n := 69) (c' := q.cells.toArray) rfl rfl rfl hkq0 sz98 rfl (by decide) (VVote.one hq.ok) rfl ?_)
        intro wb hCb hkq
        have hEb : Ext w5 wb := hEa.trans_new hCb fun i hi => .inl (by omega)
        have hp6' := hp6
        replace n6 := n6.new hEb; replace hp6 := hp6.ext hEb; replace own6 := own6.ext hEb
        refine SeqOps.put 11 rfl rfl rfl (O.assign (v := .nilIface) rfl rfl ?_)
        refine SeqOps.nil ?_
        refine hK22 _ _ ?_
        try clear hK22 K22
        refine W.seq fun K23 hK23 => ?_
        refine W.seq fun K24 hK24 => ?_
        refine W.region ?_
        refine SeqOps.put 38 rfl rfl rfl (O.move (v := .nilIface) rfl rfl ?_)
        refine SeqOps.put 39 rfl rfl rfl (O.ifaceNil (v := .nilIface) (r := false) rfl rfl (.inl rfl) Tryz.underlying162 (.inr ⟨rfl, rfl⟩) ?_)
        refine SeqOps.nil ?_
        refine hK24 _ _ ?_
        try clear hK24 K24
        refine W.cond_false rfl ?_
        refine W.skip ?_
        refine hK23 _ _ ?_
        try clear hK23 K23
        refine W.region ?_
        refine SeqOps.put 46 rfl rfl rfl (O.move (v := out) rfl rfl ?_)
        refine SeqOps.put 47 rfl rfl rfl (O.loadBlk (b := bq) (off := 0) (cs := q.cells) rfl rfl hkq Tryz.underlying98 rfl sz98 rfl ?_)
        refine SeqOps.put 48 rfl rfl rfl (O.buildSlice (vs := [(.agg (List.toArray (q.cells)))]) rfl rfl rfl Tryz.underlying31 inf98 (by intro u hu; simp at hu; subst hu; rfl) (by decide) ?_)
        intro b9 w9 hb9 hb91 hE9 hk9
        have hcat : catV [(.agg (List.toArray (q.cells)))] = q.cells := by simp [catV, Value.cells]
        rw [hcat] at hk9
        have own9 := own6.ext hE9
        have n9 := n6.new hE9
        refine SeqOps.put 49 rfl rfl rfl (O.append (B := w.heap.size) (v := out) (vx := .slice (some ⟨b9, 0, none⟩) 1 1) (m := 1) (xs := List.flatten css) (news := q.cells) rfl rfl rfl Tryz.underlying31 inf98 rfl own9 (Own.ofBlk (H := fun _ => none) (B := 0) (s := 69) (xs := q.cells) hk9 (Nat.zero_le _) rfl rfl (by decide) (VVote.one hq.ok)).rsw rfl (by omega) (by omega) n9.st.chg.size n9.st.agr ?_)
        intro o10 w10 own10 hC10
        refine SeqOps.put 7 rfl rfl rfl (O.assign (v := o10) rfl rfl ?_)
        refine SeqOps.nil ?_
        refine hK20 _ _ ?_
        try clear hK20 K20
        refine W.region ?_
        refine SeqOps.put 50 rfl rfl rfl (O.arith (a := (k : Int)) (b := 1) (r := (k : Int) + 1) (c := (k : Int) + 1) rfl rfl rfl rfl (by exact wrap_i64 (by omega) (by omega)) ?_)
        refine SeqOps.put 28 rfl rfl rfl (O.move (v := (.int .i64 ((k : Int) + 1))) rfl rfl ?_)
        refine SeqOps.nil ?_
        have n10 := n9.step hC10 (fun i hi => ⟨.inl (own9.base hi).1, own9.out i hi⟩)
        have hp10 := (hp6.ext hE9).chg hC10 (fun i hi => ⟨by have := (own9.base hi).1; omega, h0L (own9.base hi).1, Hm.none (h0N (own9.base hi).1) (own9.out i hi)⟩)
        refine ⟨⟨_, _, o10, css ++ [q.cells], k + 1, rfl, by omega, n10, hM6, hp10, hl.mono hle6, by simpa using own10, ?_, ?_, fun ys hy => ?_⟩, by show l.length - ((k + 1 : Nat) : Int).toNat < l.length - ((k : Nat) : Int).toNat; omega⟩
        · intro cs hcs'; rcases List.mem_append.1 hcs' with h' | h'
          · exact hcs cs h'
          · simp at h'; subst h'; rfl
        · rw [hokk, htk, mapO_snoc, hd]; cases mapO dVote (l.take k) <;> rfl
        · rw [htk, mapO_snoc, hd] at hy
          cases hm : mapO dVote (l.take k) with
          | none => rw [hm] at hy; cases hy
          | some zs =>
            rw [hm] at hy; simp at hy; subst hy
            exact ((hall zs hm).imp fun _ _ hc => cVote.mono (by first | exact hle6 | exact hle8) hc).snoc ⟨q, rfl, hq.mono (Hm.right M N5)⟩
      | none =>
        refine W.seq fun K25 hK25 => ?_
        refine W.region ?_
        refine SeqOps.put 29 rfl rfl rfl (O.cmp (a := (k : Int)) (b := (l.length : Int)) (r := true) rfl rfl rfl (by simp [cmpI]; omega) ?_)
        refine SeqOps.nil ?_
        refine hK25 _ _ ?_
        try clear hK25 K25
        refine W.seq fun K26 hK26 => ?_
        refine W.cond_true rfl ?_
        refine W.skip ?_
        refine hK26 _ _ ?_
        try clear hK26 K26
        refine W.seq fun K27 hK27 => ?_
        refine W.block ?_
        refine W.seq fun K28 hK28 => ?_
        refine W.region ?_
        refine SeqOps.put 30 rfl rfl rfl (O.indexAddr (a := ad) (len := l.length) (cap := cap) (i := (k : Int)) (sz := 1) (v := .pointer (some (ad.add k))) rfl rfl rfl Tryz.underlying133 sz22 (by omega) (by omega) (by simp) ?_)
        refine SeqOps.put 31 rfl rfl rfl (O.loadOne (a := ad.add k) (v := .slice ao2 l[k].length cap2) rfl rfl Tryz.underlying22 rfl (nk.st.agr.cell hcel) ?_)
        refine SeqOps.put 9 rfl rfl rfl (O.assign (v := (.slice ao2 l[k].length cap2)) rfl rfl ?_)
        refine SeqOps.nil ?_
        refine hK28 _ _ ?_
        try clear hK28 K28
        refine W.seq fun K29 hK29 => ?_
        refine W.region ?_
        refine SeqOps.put 33 rfl rfl rfl (O.move (v := (.func (.func 83) #[] #[])) rfl rfl ?_)
        refine SeqOps.put 34 rfl rfl rfl (O.move (v := (.slice ao2 l[k].length cap2)) rfl rfl ?_)
        refine SeqOps.put 35 rfl rfl rfl (O.call (fid := 83) (cap := #[]) (args := [(.slice ao2 l[k].length cap2)]) rfl rfl rfl Tryz.func83 rfl rfl ?_)
        refine Calls.mono (read_Vote_calls (a := a) hLM hGM (hel.mono (Hm.right _ _)) (by omega)) ?_
        rintro e w5 hret
        obtain ⟨N5, v5, be, rfl, n5, hwf, her⟩ := RetRd.bad hd hret
        have n6 := nk.trans n5 (fun i hi => hi.elim)
        have hp6 := hp.new n5
        rw [Hm.assoc] at hp6
        have hM6 : Hm M N5 bp = none := Hm.none hM (by rw [n5.st.low bp hp.lt])
        have own6 : Own (Hm M N5) w5 w.heap.size 98 69 out k (List.flatten css) := (own.ext n5.st.chg).heap fun j hj => Hm.none (own.out j hj) (by rw [n5.st.low j (own.base hj).2])
        have hle6 : Hle M (Hm M N5) := nk.le1 n5
        obtain ⟨q, rfl, hqok⟩ := hwf
        refine ⟨_, rfl, ?_⟩
        refine SeqOps.put 32 rfl rfl rfl (O.move (v := (.tuple #[(.agg (List.toArray (q.cells))), (.iface 160 (.pointer (some ⟨be, 0, none⟩)))])) rfl rfl ?_)
        refine SeqOps.put 36 rfl rfl rfl (O.extract (v := (.agg (List.toArray (q.cells)))) rfl rfl rfl ?_)
        refine SeqOps.put 37 rfl rfl rfl (O.extract (v := (.iface 160 (.pointer (some ⟨be, 0, none⟩)))) rfl rfl rfl ?_)
        refine SeqOps.put 10 rfl rfl rfl (O.alloc rfl zr98 ?_)
        intro bq wa hbq hbq1 hEa hkq0
        refine SeqOps.eff rfl rfl (O.store (b := bq) (off := 0) (v := .agg (List.toArray q.cells)) (n := 69) (c' := q.cells.toArray) rfl rfl rfl hkq0 sz98 rfl (by decide) (VVote.one hqok) rfl ?_)
        intro wb hCb hkq
        have hEb : Ext w5 wb := hEa.trans_new hCb fun i hi => .inl (by omega)
        have hp6' := hp6
        replace n6 := n6.new hEb; replace hp6 := hp6.ext hEb; replace own6 := own6.ext hEb
        refine SeqOps.put 11 rfl rfl rfl (O.assign (v := (.iface 160 (.pointer (some ⟨be, 0, none⟩)))) rfl rfl ?_)
        refine SeqOps.nil ?_
        refine hK29 _ _ ?_
        try clear hK29 K29
        refine W.seq fun K30 hK30 => ?_
        refine W.seq fun K31 hK31 => ?_
        refine W.region ?_
        refine SeqOps.put 38 rfl rfl rfl (O.move (v := (.iface 160 (.pointer (some ⟨be, 0, none⟩)))) rfl rfl ?_)
        refine SeqOps.put 39 rfl rfl rfl (O.ifaceNil (v := (.iface 160 (.pointer (some ⟨be, 0, none⟩)))) (r := true) rfl rfl (.inr ⟨_, _, rfl⟩) Tryz.underlying162 (.inr ⟨rfl, rfl⟩) ?_)
        refine SeqOps.nil ?_
        refine hK31 _ _ ?_
        try clear hK31 K31
        refine W.cond_true rfl ?_
        refine W.region ?_
        refine SeqOps.put 40 rfl rfl rfl (O.move (v := (.pointer (some ⟨bp, 0, none⟩))) rfl rfl ?_)
        refine SeqOps.put 41 rfl rfl rfl (O.move (v := (.iface 160 (.pointer (some ⟨be, 0, none⟩)))) rfl rfl ?_)
        refine SeqOps.put 42 rfl rfl rfl (O.build (vps := [(0, (strOf [105, 110, 32, 97, 32, 108, 105, 115, 116])), (1, (.iface 160 (.pointer (some ⟨be, 0, none⟩))))]) (cells := [(strOf [105, 110, 32, 97, 32, 108, 105, 115, 116]), (.iface 160 (.pointer (some ⟨be, 0, none⟩)))]) rfl rfl (by kernel_rfl) ?_)
        refine SeqOps.put 43 rfl rfl rfl (O.box (v := (.agg (List.toArray ([(strOf [105, 110, 32, 97, 32, 108, 105, 115, 116]), (.iface 160 (.pointer (some ⟨be, 0, none⟩)))])))) rfl rfl ?_)
        intro b7 w7 hb7 hb7l hEw7 hkb7
        obtain ⟨h7, hN7, e7⟩ := hp6.wrong hEw7 hb7 hkb7
        refine SeqOps.put 44 rfl rfl rfl (O.makeIface (v := (.pointer (some ⟨b7, 0, none⟩))) rfl rfl Tryz.underlying160 rfl ?_)
        refine SeqOps.put 45 rfl rfl rfl (O.call (fid := 126) (cap := #[]) (args := [(.pointer (some ⟨bp, 0, none⟩)), (.iface 160 (.pointer (some ⟨b7, 0, none⟩)))]) rfl rfl rfl Tryz.func126 rfl rfl ?_)
        refine Calls.mono (bad_calls h7 (.wrap (Hadd_same _ _ _) (her.mono (Hle.trans (Hm.right M N5) (Hle.trans (Hm.right N _) (Hle.add _ (hp6.agrN.none hb7))))))) ?_
        rintro e w8 ⟨rfl, h8, hC8⟩
        have hlt6 := hp6.lt
        have hM7 : Hm (Hm M N5) (Hadd NH b7 (Obj.cells ((.agg (List.toArray ([(strOf [105, 110, 32, 97, 32, 108, 105, 115, 116]), (.iface 160 (.pointer (some ⟨be, 0, none⟩)))]))) : Value).cells 164 (0, 0))) bp = none := Hm.none hM6 (by rw [Hadd_ne _ _ (by omega)])
        have n8 := (n6.trans hN7 (fun i hi => hi.elim)).step hC8 (fun i hi => ⟨.inr hi, by subst hi; exact hM7⟩)
        rw [← e7, Hm.assoc] at h8
        have own8 : Own (Hm (Hm M N5) (Hadd NH b7 (Obj.cells ((.agg (List.toArray ([(strOf [105, 110, 32, 97, 32, 108, 105, 115, 116]), (.iface 160 (.pointer (some ⟨be, 0, none⟩)))]))) : Value).cells 164 (0, 0)))) w8 w.heap.size 98 69 out k (List.flatten css) := ((own6.ext hEw7).chg hC8 fun j hj e => by subst e; have := (own6.base hj).1; omega).heap fun j hj => Hm.none (own6.out j hj) (by have := (own6.base hj).2; rw [Hadd_ne _ _ (by omega)])
        have hkq8 := hC8.blk (Ext.blk hEw7 hkq) (by have := hp6'.lt; omega)
        have hle8 : Hle M (Hm (Hm M N5) (Hadd NH b7 (Obj.cells ((.agg (List.toArray ([(strOf [105, 110, 32, 97, 32, 108, 105, 115, 116]), (.iface 160 (.pointer (some ⟨be, 0, none⟩)))]))) : Value).cells 164 (0, 0)))) := hle6.trans (n6.le1 hN7)
        refine ⟨_, rfl, ?_⟩
        refine SeqOps.nil ?_
        refine hK30 _ _ ?_
        try clear hK30 K30
        refine W.region ?_
        refine SeqOps.put 46 rfl rfl rfl (O.move (v := out) rfl rfl ?_)
        refine SeqOps.put 47 rfl rfl rfl (O.loadBlk (b := bq) (off := 0) (cs := q.cells) rfl rfl hkq8 Tryz.underlying98 rfl sz98 rfl ?_)
        refine SeqOps.put 48 rfl rfl rfl (O.buildSlice (vs := [(.agg (List.toArray (q.cells)))]) rfl rfl rfl Tryz.underlying31 inf98 (by intro u hu; simp at hu; subst hu; rfl) (by decide) ?_)
        intro b9 w9 hb9 hb91 hE9 hk9
        have hcat : catV [(.agg (List.toArray (q.cells)))] = q.cells := by simp [catV, Value.cells]
        rw [hcat] at hk9
        have own9 := own8.ext hE9
        have n9 := n8.new hE9
        refine SeqOps.put 49 rfl rfl rfl (O.append (B := w.heap.size) (v := out) (vx := .slice (some ⟨b9, 0, none⟩) 1 1) (m := 1) (xs := List.flatten css) (news := q.cells) rfl rfl rfl Tryz.underlying31 inf98 rfl own9 (Own.ofBlk (H := fun _ => none) (B := 0) (s := 69) (xs := q.cells) hk9 (Nat.zero_le _) rfl rfl (by decide) (VVote.one hqok)).rsw rfl (by omega) (by omega) n9.st.chg.size n9.st.agr ?_)
        intro o10 w10 own10 hC10
        refine SeqOps.put 7 rfl rfl rfl (O.assign (v := o10) rfl rfl ?_)
        refine SeqOps.nil ?_
        refine hK27 _ _ ?_
        try clear hK27 K27
        refine W.region ?_
        refine SeqOps.put 50 rfl rfl rfl (O.arith (a := (k : Int)) (b := 1) (r := (k : Int) + 1) (c := (k : Int) + 1) rfl rfl rfl rfl (by exact wrap_i64 (by omega) (by omega)) ?_)
        refine SeqOps.put 28 rfl rfl rfl (O.move (v := (.int .i64 ((k : Int) + 1))) rfl rfl ?_)
        refine SeqOps.nil ?_
        have n10 := n9.step hC10 (fun i hi => ⟨.inl (own9.base hi).1, own9.out i hi⟩)
        have hp10 := (h8.ext hE9).chg hC10 (fun i hi => ⟨by have := (own9.base hi).1; omega, h0L (own9.base hi).1, Hm.none (h0N (own9.base hi).1) (own9.out i hi)⟩)
        refine ⟨⟨_, _, o10, css ++ [q.cells], k + 1, rfl, by omega, n10, hM7, hp10, hl.mono hle8, by simpa using own10, ?_, ?_, fun ys hy => ?_⟩, by show l.length - ((k + 1 : Nat) : Int).toNat < l.length - ((k : Nat) : Int).toNat; omega⟩
        · intro cs hcs'; rcases List.mem_append.1 hcs' with h' | h'
          · exact hcs cs h'
          · simp at h'; subst h'; rfl
        · rw [htk, mapO_snoc, hd]; cases mapO dVote (l.take k) <;> simp
        · rw [htk, mapO_snoc, hd] at hy; cases mapO dVote (l.take k) <;> simp at hy
    have hkl : k = l.length := by omega
    refine W.seq fun K32 hK32 => ?_
    refine W.region ?_
    refine SeqOps.put 29 rfl rfl rfl (O.cmp (a := (k : Int)) (b := (l.length : Int)) (r := false) rfl rfl rfl (by simp [cmpI]; omega) ?_)
    refine SeqOps.nil ?_
    refine hK32 _ _ ?_
    try clear hK32 K32
    refine W.seq fun K33 hK33 => ?_
    refine W.cond_false rfl ?_
    refine W.exit ?_
    refine hK16 _ _ ?_
    try clear hK16 K16
    refine W.seq fun K34 hK34 => ?_
    refine W.region ?_
    refine SeqOps.put 51 rfl rfl rfl (O.move (v := out) rfl rfl ?_)
    refine SeqOps.put 4 rfl rfl rfl (O.assign (v := out) rfl rfl ?_)
    refine SeqOps.nil ?_
    refine hK34 _ _ ?_
    try clear hK34 K34
    refine W.ret ?_
    subst hkl
    rw [List.take_length] at hokk hall
    obtain ⟨M2, hle2, n2, hsame, rs2⟩ := own.join nk (Nat.le_refl _)
    have hM2 : M2 bp = none := by rw [hsame bp fun e => by have := (own.base e).1; omega]; exact hM
    have hdl : dList dVote b = mapO dVote l := by unfold dList; rw [hsp]; rfl
    obtain ⟨aof, capf, hof⟩ := rs2.form
    refine retQ_one rfl rfl ⟨M2, out, rfl, n2, hM2, ?_, ⟨_, _, _, hof⟩, fun ys hy => ?_⟩
    · rw [hdl, ← hokk]
      obtain ⟨lv, ev, hblk, hrb, hev⟩ := hp.blk
      refine h.next n2 hM2 ⟨lv, ev, hblk, hrb, hev.imp id fun ⟨e1, e2⟩ => ⟨e1, e2.mono ?_⟩⟩
      intro j o ho; unfold Hm at ho ⊢
      cases hj : M j with
      | some o' => rw [hj] at ho; rw [hle2 j o' hj]; exact ho
      | none =>
        rw [hj] at ho
        have hno := h.agrN.lt ho
        rw [show M2 j = none by rw [n2.st.low j hno]]; exact ho
    · rw [hdl] at hy
      have h2 := hall ys hy
      refine ⟨css, h2.imp fun _ _ hc => cVote.mono hle2 hc, hcs, ?_⟩
      have hlen2 := mapO_length hy
      rw [hlen2]; exact rs2

def wfTimeout (v : Value) : Prop := ∃ q : VTimeout, v = .agg (List.toArray q.cells) ∧ q.ok
def phTimeout (N : Heap) (v : Value) (y : DTimeout) : Prop := ∃ q : VTimeout, v = .agg (List.toArray q.cells) ∧ RTimeout N q y
set_option maxHeartbeats 1000000 in
theorem read_Timeout_calls {a : Addr} {H : Heap} {w : World} {v : Value} {bs : List UInt8} (hA : Agr H w) (hG : hcell H ⟨1, 0, none⟩ = some (eS a)) (r : RB H v bs) (hlen : bs.length ≤ 1099511627776) :
    Calls Tryz.prog 85 #[v] w (RetRd a dTimeout wfTimeout phTimeout w bs) := by
  refine calls_of_W (n := 26) Tryz.func85 rfl Tryz.ntmps85 (Nat.le_of_ble_eq_true rfl) ?_
  refine W.seq fun K1 hK1 => ?_
  refine W.region ?_
  refine SeqOps.put 2 rfl rfl rfl (O.alloc rfl zr105 ?_)
  intro br w0 hbr hbr1 hE0 hk0
  refine SeqOps.put 3 rfl rfl rfl (O.assign (v := .nilIface) rfl rfl ?_)
  refine SeqOps.nil ?_
  refine hK1 _ _ ?_
  try clear hK1 K1
  refine W.seq fun K2 hK2 => ?_
  refine W.region ?_
  refine SeqOps.put 6 rfl rfl rfl (O.move (v := v) rfl rfl ?_)
  refine SeqOps.put 7 rfl rfl rfl (O.call (fid := 87) (cap := #[]) (args := [v, (.int .i64 (6)), (strOf [97, 32, 116, 105, 109, 101, 111, 117, 116])]) rfl rfl rfl Tryz.func87 rfl rfl ?_)
  refine Calls.mono (split_calls (a := a) (n := 6) (Ext.agr hE0 hA) hG r hlen (by omega)) ?_
  rintro e w1 ⟨N0, bp, rem, okS, rfl, n0, hbp, hps, hrl, hok1, hok2, hrle⟩
  obtain ⟨b0, b1, b2, b3, b4, b5, rfl⟩ : ∃ b0 b1 b2 b3 b4 b5, rem = [b0, b1, b2, b3, b4, b5] := by match rem, hrl with | [b0, b1, b2, b3, b4, b5], _ => exact ⟨b0, b1, b2, b3, b4, b5, rfl⟩
  have hbrp : br ≠ bp := by omega
  have hkr := Ext.blk n0.st.chg hk0
  have nn0 := ((New.start w NoX).new hE0).trans n0 (fun i hi => hi.elim)
  rw [Hm.nilL] at nn0
  have hr0 : N0 br = none := by rw [n0.st.low br hbr1]
  refine ⟨_, rfl, ?_⟩
  refine SeqOps.put 4 rfl rfl rfl (O.assign (v := (.pointer (some ⟨bp, 0, none⟩))) rfl rfl ?_)
  refine SeqOps.nil ?_
  refine hK2 _ _ ?_
  try clear hK2 K2
  refine W.seq fun K3 hK3 => ?_
  refine W.region ?_
  refine SeqOps.put 8 rfl rfl rfl (O.move (v := (.pointer (some ⟨bp, 0, none⟩))) rfl rfl ?_)
  refine SeqOps.put 9 rfl rfl rfl (O.call (fid := 88) (cap := #[]) (args := [(.pointer (some ⟨bp, 0, none⟩))]) rfl rfl rfl Tryz.func88 rfl rfl ?_)
  refine Calls.mono (pint_calls hps) ?_
  rintro e wm1 ⟨M1, v0_, rfl, nm1, hM1, hp1, ⟨f0, rfl, hrng0, hy0⟩⟩
  have nn1 := nn0.trans nm1 (fun i hi => ⟨.inl (by subst hi; have := hE0.size; omega), by subst hi; exact hps.outN⟩)
  have hkr1 := nm1.st.chg.blk hkr hbrp
  have hr1 : Hm N0 M1 br = none := Hm.none hr0 (by rw [nm1.st.low br (blk_lt hkr)])
  have hle1 : Hle N0 (Hm N0 M1) := nn0.le1 nm1
  refine ⟨_, rfl, ?_⟩
  refine SeqOps.put 10 rfl rfl rfl (O.move (v := (.pointer (some ⟨bp, 0, none⟩))) rfl rfl ?_)
  refine SeqOps.put 11 rfl rfl rfl (O.call (fid := 88) (cap := #[]) (args := [(.pointer (some ⟨bp, 0, none⟩))]) rfl rfl rfl Tryz.func88 rfl rfl ?_)
  refine Calls.mono (pint_calls hp1) ?_
  rintro e wm2 ⟨M2, v1_, rfl, nm2, hM2, hp2, ⟨f1, rfl, hrng1, hy1⟩⟩
  have nn2 := nn1.trans nm2 (fun i hi => ⟨.inl (by subst hi; have := hE0.size; omega), by subst hi; exact hp1.outN⟩)
  have hkr2 := nm2.st.chg.blk hkr1 hbrp
  have hr2 : Hm (Hm N0 M1) M2 br = none := Hm.none hr1 (by rw [nm2.st.low br (blk_lt hkr1)])
  have hle2 : Hle (Hm N0 M1) (Hm (Hm N0 M1) M2) := nn1.le1 nm2
  refine ⟨_, rfl, ?_⟩
  refine SeqOps.put 12 rfl rfl rfl (O.move (v := (.pointer (some ⟨bp, 0, none⟩))) rfl rfl ?_)
  refine SeqOps.put 13 rfl rfl rfl (O.call (fid := 89) (cap := #[]) (args := [(.pointer (some ⟨bp, 0, none⟩))]) rfl rfl rfl Tryz.func89 rfl rfl ?_)
  refine Calls.mono (pn_calls hp2) ?_
  rintro e wm3 ⟨M3, v2_, rfl, nm3, hM3, hp3, ⟨f2, rfl, hrng2, hy2⟩⟩
  have nn3 := nn2.trans nm3 (fun i hi => ⟨.inl (by subst hi; have := hE0.size; omega), by subst hi; exact hp2.outN⟩)
  have hkr3 := nm3.st.chg.blk hkr2 hbrp
  have hr3 : Hm (Hm (Hm N0 M1) M2) M3 br = none := Hm.none hr2 (by rw [nm3.st.low br (blk_lt hkr2)])
  have hle3 : Hle (Hm (Hm N0 M1) M2) (Hm (Hm (Hm N0 M1) M2) M3) := nn2.le1 nm3
  refine ⟨_, rfl, ?_⟩
  refine SeqOps.put 14 rfl rfl rfl (O.move (v := (.pointer (some ⟨bp, 0, none⟩))) rfl rfl ?_)
  refine SeqOps.put 15 rfl rfl rfl (O.call (fid := 116) (cap := #[]) (args := [(.pointer (some ⟨bp, 0, none⟩)), (.func (.func 71) #[] #[])]) rfl rfl rfl Tryz.func116 rfl rfl ?_)
  refine Calls.mono (one_QC_calls hp3 (by have := hrle b3 (by simp); omega)) ?_
  rintro e wm4 ⟨M4, v3_, rfl, nm4, hM4, hp4, ⟨f3, rfl, hfok3, hy3⟩⟩
  have nn4 := nn3.trans nm4 (fun i hi => ⟨.inl (by subst hi; have := hE0.size; omega), by subst hi; exact hp3.outN⟩)
  have hkr4 := nm4.st.chg.blk hkr3 hbrp
  have hr4 : Hm (Hm (Hm (Hm N0 M1) M2) M3) M4 br = none := Hm.none hr3 (by rw [nm4.st.low br (blk_lt hkr3)])
  have hle4 : Hle (Hm (Hm (Hm N0 M1) M2) M3) (Hm (Hm (Hm (Hm N0 M1) M2) M3) M4) := nn3.le1 nm4
  refine ⟨_, rfl, ?_⟩
  refine SeqOps.put 16 rfl rfl rfl (O.move (v := (.pointer (some ⟨bp, 0, none⟩))) rfl rfl ?_)
  refine SeqOps.put 17 rfl rfl rfl (O.call (fid := 88) (cap := #[]) (args := [(.pointer (some ⟨bp, 0, none⟩))]) rfl rfl rfl Tryz.func88 rfl rfl ?_)
  refine Calls.mono (pint_calls hp4) ?_
  rintro e wm5 ⟨M5, v4_, rfl, nm5, hM5, hp5, ⟨f4, rfl, hrng4, hy4⟩⟩
  have nn5 := nn4.trans nm5 (fun i hi => ⟨.inl (by subst hi; have := hE0.size; omega), by subst hi; exact hp4.outN⟩)
  have hkr5 := nm5.st.chg.blk hkr4 hbrp
  have hr5 : Hm (Hm (Hm (Hm (Hm N0 M1) M2) M3) M4) M5 br = none := Hm.none hr4 (by rw [nm5.st.low br (blk_lt hkr4)])
  have hle5 : Hle (Hm (Hm (Hm (Hm N0 M1) M2) M3) M4) (Hm (Hm (Hm (Hm (Hm N0 M1) M2) M3) M4) M5) := nn4.le1 nm5
  refine ⟨_, rfl, ?_⟩
  refine SeqOps.put 18 rfl rfl rfl (O.move (v := (.pointer (some ⟨bp, 0, none⟩))) rfl rfl ?_)
  refine SeqOps.put 19 rfl rfl rfl (O.call (fid := 120) (cap := #[]) (args := [(.pointer (some ⟨bp, 0, none⟩)), (.func (.func 114) #[] #[])]) rfl rfl rfl Tryz.func120 rfl rfl ?_)
  refine Calls.mono (one_Sig_calls hp5 (by have := hrle b5 (by simp); omega)) ?_
  rintro e wm6 ⟨M6, v5_, rfl, nm6, hM6, hp6, ⟨f5, rfl, hfok5, hy5⟩⟩
  have nn6 := nn5.trans nm6 (fun i hi => ⟨.inl (by subst hi; have := hE0.size; omega), by subst hi; exact hp5.outN⟩)
  have hkr6 := nm6.st.chg.blk hkr5 hbrp
  have hr6 : Hm (Hm (Hm (Hm (Hm (Hm N0 M1) M2) M3) M4) M5) M6 br = none := Hm.none hr5 (by rw [nm6.st.low br (blk_lt hkr5)])
  have hle6 : Hle (Hm (Hm (Hm (Hm (Hm N0 M1) M2) M3) M4) M5) (Hm (Hm (Hm (Hm (Hm (Hm N0 M1) M2) M3) M4) M5) M6) := nn5.le1 nm6
  refine ⟨_, rfl, ?_⟩
  obtain ⟨q, hq⟩ : ∃ q : VTimeout, q = ⟨f0, f1, f2, f3, f4, f5⟩ := ⟨_, rfl⟩
  refine SeqOps.put 20 rfl rfl rfl (O.build (vps := [(0, (.int .i64 (f0))), (1, (.int .i64 (f1))), (2, (.int .i64 (f2))), (3, (.agg (List.toArray (f3.cells)))), (4, (.int .i64 (f4))), (5, (.agg (List.toArray (f5.cells))))]) (cells := (VTimeout.cells ⟨f0, f1, f2, f3, f4, f5⟩)) rfl rfl (by kernel_rfl) ?_)
  rw [← hq]
  have hqok : q.ok := by rw [hq]; exact ⟨hfok3, hfok5⟩
  refine SeqOps.put 5 rfl rfl rfl (O.alloc rfl zr105 ?_)
  intro bq wa hbq hbq1 hEa hkq0
  refine SeqOps.eff rfl rfl (O.store (b := bq) (off := 0) (v := .agg (List.toArray q.cells)) (n := 74) (c' := q.cells.toArray) rfl rfl rfl hkq0 sz105 rfl (by decide) (VTimeout.one hqok) rfl ?_)
  intro wq hCq hkq
  have hEq : Ext wm6 wq := hEa.trans_new hCq fun i hi => .inl (by omega)
  have hpq := hp6.ext hEq
  have hkrq := Ext.blk hEq hkr6
  have hqr : bq ≠ br := by have := blk_lt hkr6; omega
  have hpr : bp ≠ br := Ne.symm hbrp
  obtain ⟨lv, ev, hkp, hevf, hev⟩ := hpq.final
  skip
  refine SeqOps.nil ?_
  refine hK3 _ _ ?_
  try clear hK3 K3
  refine W.seq fun K4 hK4 => ?_
  obtain ⟨obj, hobj⟩ : ∃ o, o = Obj.cells q.cells.toArray 105 (0, 0) := ⟨_, rfl⟩
  refine W.region_any (by kernel_rfl) (by kernel_rfl) [21, 22, 23, 24, 25, 3] rfl (fun a b => RStoreC br (.cells q.cells.toArray 105 (0, 0)) 74 105 a b) (fun _ => RStoreC.refl _ _ _ _ _) (fun h k => RStoreC.trans h k) [
      (fun (u : Value) (_ : World) => u = .agg (List.toArray q.cells)),
      (fun (u : Value) (_ : World) => u = Value.pointer (some ⟨bp, 0, none⟩)),
      (fun (u : Value) (_ : World) => u = Value.pointer (some ⟨bp, 0, none⟩)),
      (fun (u : Value) (_ : World) => u = Value.pointer (some ⟨bp, 1, none⟩)),
      (fun (u : Value) (_ : World) => u = ev),
      (fun (_ : Value) (w : World) => w.heap[br]? = some (.cells q.cells.toArray 105 (0, 0))),
      (fun (u : Value) (_ : World) => u = ev)
    ] ⟨fun _ _ _ _ h => h, fun _ _ _ _ h => h, fun _ _ _ _ h => h, fun _ _ _ _ h => h, fun _ _ _ _ h => h, fun _ _ _ hE h => hE.2.1 h, fun _ _ _ _ h => h, trivial⟩ ⟨?_, ?_, ?_, ?_, ?_, ?_, ?_, trivial⟩ ?_
  · intro g w1 hR hf hd
    have h1 : g 5 = .pointer (some ⟨bq, 0, none⟩) := hf 5 (by decide)
    have hb1 := Chg.blk hR.1 (show wq.drew.heap[bq]? = _ from hkq) hqr
    exact StepT.plain rfl (O.loadBlk (b := bq) (off := 0) (cs := q.cells) rfl h1 hb1 Tryz.underlying105 rfl sz105 rfl ⟨RStoreC.refl _ _ _ _ _, rfl⟩)
  · intro g w1 hR hf hd
    have h1 : g 4 = Value.pointer (some ⟨bp, 0, none⟩) := hf 4 (by decide)
    exact StepT.plain rfl (O.move (v := Value.pointer (some ⟨bp, 0, none⟩)) rfl h1 ⟨RStoreC.refl _ _ _ _ _, rfl⟩)
  · intro g w1 hR hf hd
    have h1 : (fun (u : Value) (_ : World) => u = Value.pointer (some ⟨bp, 0, none⟩)) (g 22) w1 := hd.1 rfl
    exact StepT.plain rfl (O.nilCheckPtr (a := ⟨bp, 0, none⟩) rfl h1 ⟨RStoreC.refl _ _ _ _ _, rfl⟩)
  · intro g w1 hR hf hd
    have h1 : (fun (u : Value) (_ : World) => u = Value.pointer (some ⟨bp, 0, none⟩)) (g 23) w1 := hd.1 rfl
    exact StepT.plain rfl (O.fieldAddr (a := ⟨bp, 0, none⟩) (v := Value.pointer (some ⟨bp, 1, none⟩)) rfl h1 Tryz.underlying177 rfl (by kernel_rfl) rfl ⟨RStoreC.refl _ _ _ _ _, rfl⟩)
  · intro g w1 hR hf hd
    have h1 : (fun (u : Value) (_ : World) => u = Value.pointer (some ⟨bp, 1, none⟩)) (g 24) w1 := hd.1 rfl
    have hb1 := Chg.blk hR.1 (show wq.drew.heap[bp]? = _ from hkp) hpr
    exact StepT.plain rfl (O.loadBlk1 (b := bp) (off := 1) (v := ev) rfl h1 hb1 Tryz.underlying162 rfl rfl ⟨RStoreC.refl _ _ _ _ _, rfl⟩)
  · intro g w1 hR hf hd
    have h1 : g 2 = .pointer (some ⟨br, 0, none⟩) := hf 2 (by decide)
    have h2 : g 21 = .agg (List.toArray q.cells) := hd.1 rfl
    obtain ⟨cr, hcr, hk⟩ := hR.2.2 ⟨_, rfl, show wq.drew.heap[br]? = _ from hkrq⟩
    refine StepT.plain rfl (O.store (b := br) (off := 0) (v := .agg (List.toArray q.cells)) (n := 74) (c' := q.cells.toArray) rfl h1 h2 hk sz105 rfl (by rw [Nat.zero_add, hcr]; exact Nat.le_refl _) (VTimeout.one hqok) (by simp [Value.cells, VTimeout.length, hcr]) ?_)
    intro w2 hC hk2
    exact ⟨⟨hC, fun _ => hk2, fun _ => ⟨_, VTimeout.length q, hk2⟩⟩, hk2⟩
  · intro g w1 hR hf hd
    have h1 : g 25 = ev := hd.1 rfl
    exact StepT.plain rfl (O.assign (v := ev) rfl h1 ⟨RStoreC.refl _ _ _ _ _, rfl⟩)
  intro g w9 hR hf hall
  have hf5 := hall.2.2.2.2.2.1
  have hf6 := hall.2.2.2.2.2.2.1
  refine hK4 _ _ ?_
  try clear hK4 K4
  refine W.ret ?_
  have n9 := ((nn6.new hEq).new (Ext.drew wq)).step hR.1 (fun i hi => ⟨.inl (by omega), by subst hi; exact hr6⟩)
  refine retQ_cell2 (b := br) (cs := q.cells) rfl (hf 2 (by decide)) hf6 hf5 Tryz.underlying105 rfl sz105 ⟨_, _, _, rfl, n9, ⟨q, rfl, hqok⟩, ?_⟩
  rcases hev with ⟨hok, rfl⟩ | ⟨hok, he⟩
  · simp only [Bool.and_eq_true] at hok
    obtain ⟨⟨⟨⟨⟨⟨hok0, hs0⟩, hs1⟩, hs2⟩, hs3⟩, hs4⟩, hs5⟩ := hok
    obtain ⟨y0, hd0⟩ := Option.isSome_iff_exists.1 hs0
    obtain ⟨y1, hd1⟩ := Option.isSome_iff_exists.1 hs1
    obtain ⟨y2, hd2⟩ := Option.isSome_iff_exists.1 hs2
    obtain ⟨y3, hd3⟩ := Option.isSome_iff_exists.1 hs3
    obtain ⟨y4, hd4⟩ := Option.isSome_iff_exists.1 hs4
    obtain ⟨y5, hd5⟩ := Option.isSome_iff_exists.1 hs5
    refine .inl ⟨⟨y0, y1, y2, y3, y4, y5⟩, ?_, rfl, q, rfl, ?_⟩
    · unfold dTimeout; rw [hok1 hok0]; exact dTimeoutL_some hd0 hd1 hd2 hd3 hd4 hd5
    · rw [hq]; exact ⟨⟨hy0 _ hd0, by rw [← hy0 _ hd0]; exact hrng0⟩, ⟨hy1 _ hd1, by rw [← hy1 _ hd1]; exact hrng1⟩, ⟨hy2 _ hd2, by rw [← hy2 _ hd2]; exact hrng2⟩, (hy3 _ hd3).mono (((Hm.right _ M4).trans hle5).trans hle6), ⟨hy4 _ hd4, by rw [← hy4 _ hd4]; exact hrng4⟩, (hy5 _ hd5).mono (Hm.right _ M6)⟩
  · refine .inr ⟨?_, he⟩
    cases hokS : okS with
    | false =>
      unfold dTimeout
      cases hs : split bs with
      | none => rfl
      | some l => exact dTimeoutL_len (hok2 hokS l hs)
    | true =>
      unfold dTimeout
      rw [hok1 hokS]
      have hiss := dTimeoutL_isSome b0 b1 b2 b3 b4 b5
      rw [hokS] at hok; simp only [Bool.true_and] at hok hiss
      rw [hok] at hiss
      simpa using hiss

theorem all_Timeout_calls {a : Addr} {HL N : Heap} {w : World} {bp : Nat} {b : List UInt8} {rem : List (List UInt8)} {ok : Bool} (h : PS a HL N w bp (b :: rem) ok) (hlen : b.length ≤ 1099511627776) :
    Calls Tryz.prog 93 #[.pointer (some ⟨bp, 0, none⟩), .func (.func 85) #[] #[]] w (RetP a HL N w bp rem (ok && (dList dTimeout b).isSome) (fun M v => (∃ ao n cap, v = .slice ao n cap) ∧ ∀ ys, dList dTimeout b = some ys → RL 74 cTimeout M v ys)) := by
  have hlt0 := h.lt
  have h0L : ∀ {k}, w.heap.size ≤ k → HL k = none := fun hk => h.agrL.none hk
  have h0N : ∀ {k}, w.heap.size ≤ k → N k = none := fun hk => h.agrN.none hk
  cases hsp : split b with
  | none =>
    refine calls_of_W (n := 52) Tryz.func93 rfl Tryz.ntmps93 (Nat.le_of_ble_eq_true rfl) ?_
    refine W.seq fun K1 hK1 => ?_
    refine W.region ?_
    refine SeqOps.put 4 rfl rfl rfl (O.assign (v := (.slice none 0 0)) rfl rfl ?_)
    refine SeqOps.nil ?_
    refine hK1 _ _ ?_
    try clear hK1 K1
    refine W.seq fun K2 hK2 => ?_
    refine W.region ?_
    refine SeqOps.put 13 rfl rfl rfl (O.move (v := (.pointer (some ⟨bp, 0, none⟩))) rfl rfl ?_)
    refine SeqOps.put 14 rfl rfl rfl (O.call (fid := 125) (cap := #[]) (args := [(.pointer (some ⟨bp, 0, none⟩))]) rfl rfl rfl Tryz.func125 rfl rfl ?_)
    refine Calls.mono (next_calls h) ?_
    rintro e w1 ⟨v1, rfl, hr, h1, hC1⟩
    refine ⟨_, rfl, ?_⟩
    refine SeqOps.put 15 rfl rfl rfl (O.call (fid := 123) (cap := #[]) (args := [v1]) rfl rfl rfl Tryz.func123 rfl rfl ?_)
    refine Calls.mono (Split_calls h1.agrL hr hlen) ?_
    rintro e w2 ⟨M, v2, st, hres⟩
    obtain ⟨rfl, rfl⟩ : v2 = .slice none 0 0 ∧ e = .returned (.tuple #[v2, .bool false]) := by rcases hres with ⟨l, h1, _⟩ | ⟨_, h2, h3⟩ <;> first | exact ⟨h2, h3⟩ | (rw [hsp] at h1; cases h1; done)
    have n2 := (New.ofChg hC1).trans st (fun i hi => hi.elim)
    rw [Hm.nilL] at n2
    have hM : M bp = none := by rw [st.st.low bp h1.lt]
    replace h1 := h1.new st
    refine ⟨_, rfl, ?_⟩
    refine SeqOps.put 12 rfl rfl rfl (O.move (v := (.tuple #[(.slice none 0 0), (.bool (false))])) rfl rfl ?_)
    refine SeqOps.put 16 rfl rfl rfl (O.extract (v := (.slice none 0 0)) rfl rfl rfl ?_)
    refine SeqOps.put 17 rfl rfl rfl (O.extract (v := (.bool (false))) rfl rfl rfl ?_)
    refine SeqOps.put 5 rfl rfl rfl (O.assign (v := (.slice none 0 0)) rfl rfl ?_)
    refine SeqOps.put 6 rfl rfl rfl (O.assign (v := (.bool (false))) rfl rfl ?_)
    refine SeqOps.nil ?_
    refine hK2 _ _ ?_
    try clear hK2 K2
    refine W.seq fun K3 hK3 => ?_
    refine W.seq fun K4 hK4 => ?_
    refine W.region ?_
    refine SeqOps.put 18 rfl rfl rfl (O.move (v := (.bool (false))) rfl rfl ?_)
    refine SeqOps.put 19 rfl rfl rfl (O.not (b := false) rfl rfl ?_)
    refine SeqOps.nil ?_
    refine hK4 _ _ ?_
    try clear hK4 K4
    refine W.cond_true rfl ?_
    refine W.region ?_
    refine SeqOps.put 20 rfl rfl rfl (O.move (v := (.pointer (some ⟨bp, 0, none⟩))) rfl rfl ?_)
    refine SeqOps.put 21 rfl rfl rfl (O.loadOne (a := ⟨1, 0, none⟩) (v := eS a) rfl rfl Tryz.underlying162 rfl (h1.agrL.cell h1.glob) ?_)
    refine SeqOps.put 22 rfl rfl rfl (O.build (vps := [(0, (strOf [97, 32, 108, 105, 115, 116])), (1, (eS a))]) (cells := [(strOf [97, 32, 108, 105, 115, 116]), (eS a)]) rfl rfl (by kernel_rfl) ?_)
    refine SeqOps.put 23 rfl rfl rfl (O.box (v := (.agg (List.toArray ([(strOf [97, 32, 108, 105, 115, 116]), (eS a)])))) rfl rfl ?_)
    intro b3 w3 hb3 hb3l hEw3 hkb3
    obtain ⟨h3, hN3, e3⟩ := h1.wrong hEw3 hb3 hkb3
    refine SeqOps.put 24 rfl rfl rfl (O.makeIface (v := (.pointer (some ⟨b3, 0, none⟩))) rfl rfl Tryz.underlying160 rfl ?_)
    refine SeqOps.put 25 rfl rfl rfl (O.call (fid := 126) (cap := #[]) (args := [(.pointer (some ⟨bp, 0, none⟩)), (.iface 160 (.pointer (some ⟨b3, 0, none⟩)))]) rfl rfl rfl Tryz.func126 rfl rfl ?_)
    refine Calls.mono (bad_calls h3 (.base (Hadd_same _ _ _))) ?_
    rintro e w4 ⟨rfl, h4, hC4⟩
    refine ⟨_, rfl, ?_⟩
    refine SeqOps.nil ?_
    refine hK3 _ _ ?_
    try clear hK3 K3
    refine W.seq fun K5 hK5 => ?_
    refine W.region ?_
    refine SeqOps.put 7 rfl rfl rfl (O.assign (v := (.slice none 0 0)) rfl rfl ?_)
    refine SeqOps.nil ?_
    refine hK5 _ _ ?_
    try clear hK5 K5
    refine W.seq fun K6 hK6 => ?_
    refine W.seq fun K7 hK7 => ?_
    refine W.region ?_
    refine SeqOps.put 26 rfl rfl rfl (O.move (v := (.slice none 0 0)) rfl rfl ?_)
    refine SeqOps.put 27 rfl rfl rfl (O.lenSlice (ad := none) (n := 0) (c := 0) rfl rfl Tryz.underlying133 ?_)
    refine SeqOps.put 28 rfl rfl rfl (O.move (v := (.int .i64 (0))) rfl rfl ?_)
    refine SeqOps.nil ?_
    refine hK7 _ _ ?_
    try clear hK7 K7
    refine W.block ?_
    refine W.loop [7, 26, 27, 28] (fun vals wk => vals = [.slice none 0 0, .slice none 0 0, .int .i64 0, .int .i64 0] ∧ w4 = wk) (fun _ _ => 0) ⟨rfl, rfl⟩ ?_
    rintro g _ wk ⟨rfl, rfl⟩
    refine W.seq fun K8 hK8 => ?_
    refine W.region ?_
    refine SeqOps.put 29 rfl rfl rfl (O.cmp (a := 0) (b := 0) (r := false) rfl rfl rfl (rfl) ?_)
    refine SeqOps.nil ?_
    refine hK8 _ _ ?_
    try clear hK8 K8
    refine W.seq fun K9 hK9 => ?_
    refine W.cond_false rfl ?_
    refine W.exit ?_
    refine hK6 _ _ ?_
    try clear hK6 K6
    refine W.seq fun K10 hK10 => ?_
    refine W.region ?_
    refine SeqOps.put 51 rfl rfl rfl (O.move (v := (.slice none 0 0)) rfl rfl ?_)
    refine SeqOps.put 4 rfl rfl rfl (O.assign (v := (.slice none 0 0)) rfl rfl ?_)
    refine SeqOps.nil ?_
    refine hK10 _ _ ?_
    try clear hK10 K10
    refine W.ret ?_
    have hlt1 := h1.lt
    have n4 := (n2.trans hN3 (fun i hi => hi.elim)).step hC4 (fun i hi => ⟨.inr hi, by subst hi; exact Hm.none hM (by rw [Hadd_ne _ _ (by omega)])⟩)
    refine retQ_one rfl rfl ⟨_, _, rfl, n4, Hm.none hM (by rw [Hadd_ne _ _ (by omega)]), ?_, ⟨_, _, _, rfl⟩, fun ys hy => ?_⟩
    · have e : (ok && (dList dTimeout b).isSome) = false := by unfold dList; rw [hsp]; simp
      rw [e, ← Hm.assoc, e3]; exact h4
    · unfold dList at hy; rw [hsp] at hy; cases hy
  | some l =>
    have hll : 8 * l.length ≤ b.length := by have h1 := joinTail_ge l; have h2 := join_length l; rw [split_join hsp] at h2; omega
    have hpl := split_parts_le hsp
    refine calls_of_W (n := 52) Tryz.func93 rfl Tryz.ntmps93 (Nat.le_of_ble_eq_true rfl) ?_
    refine W.seq fun K11 hK11 => ?_
    refine W.region ?_
    refine SeqOps.put 4 rfl rfl rfl (O.assign (v := (.slice none 0 0)) rfl rfl ?_)
    refine SeqOps.nil ?_
    refine hK11 _ _ ?_
    try clear hK11 K11
    refine W.seq fun K12 hK12 => ?_
    refine W.region ?_
    refine SeqOps.put 13 rfl rfl rfl (O.move (v := (.pointer (some ⟨bp, 0, none⟩))) rfl rfl ?_)
    refine SeqOps.put 14 rfl rfl rfl (O.call (fid := 125) (cap := #[]) (args := [(.pointer (some ⟨bp, 0, none⟩))]) rfl rfl rfl Tryz.func125 rfl rfl ?_)
    refine Calls.mono (next_calls h) ?_
    rintro e w1 ⟨v1, rfl, hr, h1, hC1⟩
    refine ⟨_, rfl, ?_⟩
    refine SeqOps.put 15 rfl rfl rfl (O.call (fid := 123) (cap := #[]) (args := [v1]) rfl rfl rfl Tryz.func123 rfl rfl ?_)
    refine Calls.mono (Split_calls h1.agrL hr hlen) ?_
    rintro e w2 ⟨M, v2, st, hres⟩
    obtain ⟨rfl, hl⟩ : e = .returned (.tuple #[v2, .bool true]) ∧ RBB M v2 l := by rcases hres with ⟨l', h1, h2, h3⟩ | ⟨h1, _⟩ <;> first | (rw [hsp] at h1; cases h1; exact ⟨h2, h3⟩) | (rw [hsp] at h1; cases h1; done)
    obtain ⟨ao, cap, rfl⟩ : ∃ ao cap, v2 = .slice ao l.length cap := by obtain ⟨vs, _, rs⟩ := hl; exact rs.form
    have n2 := (New.ofChg hC1).trans st (fun i hi => hi.elim)
    rw [Hm.nilL] at n2
    have hM : M bp = none := by rw [st.st.low bp h1.lt]
    replace h1 := h1.new st
    refine ⟨_, rfl, ?_⟩
    refine SeqOps.put 12 rfl rfl rfl (O.move (v := (.tuple #[(.slice ao l.length cap), (.bool (true))])) rfl rfl ?_)
    refine SeqOps.put 16 rfl rfl rfl (O.extract (v := (.slice ao l.length cap)) rfl rfl rfl ?_)
    refine SeqOps.put 17 rfl rfl rfl (O.extract (v := (.bool (true))) rfl rfl rfl ?_)
    refine SeqOps.put 5 rfl rfl rfl (O.assign (v := (.slice ao l.length cap)) rfl rfl ?_)
    refine SeqOps.put 6 rfl rfl rfl (O.assign (v := (.bool (true))) rfl rfl ?_)
    refine SeqOps.nil ?_
    refine hK12 _ _ ?_
    try clear hK12 K12
    refine W.seq fun K13 hK13 => ?_
    refine W.seq fun K14 hK14 => ?_
    refine W.region ?_
    refine SeqOps.put 18 rfl rfl rfl (O.move (v := (.bool (true))) rfl rfl ?_)
    refine SeqOps.put 19 rfl rfl rfl (O.not (b := true) rfl rfl ?_)
    refine SeqOps.nil ?_
    refine hK14 _ _ ?_
    try clear hK14 K14
    refine W.cond_false rfl ?_
    refine W.skip ?_
    refine hK13 _ _ ?_
    try clear hK13 K13
    refine W.seq fun K15 hK15 => ?_
    refine W.region ?_
    refine SeqOps.put 7 rfl rfl rfl (O.assign (v := (.slice none 0 0)) rfl rfl ?_)
    refine SeqOps.nil ?_
    refine hK15 _ _ ?_
    try clear hK15 K15
    refine W.seq fun K16 hK16 => ?_
    refine W.seq fun K17 hK17 => ?_
    refine W.region ?_
    refine SeqOps.put 26 rfl rfl rfl (O.move (v := (.slice ao l.length cap)) rfl rfl ?_)
    refine SeqOps.put 27 rfl rfl rfl (O.lenSlice (ad := ao) (n := l.length) (c := cap) rfl rfl Tryz.underlying133 ?_)
    refine SeqOps.put 28 rfl rfl rfl (O.move (v := (.int .i64 (0))) rfl rfl ?_)
    refine SeqOps.nil ?_
    refine hK17 _ _ ?_
    try clear hK17 K17
    refine W.block ?_
    refine W.loop [0, 1, 7, 26, 27, 28] (fun vals wk => ∃ M okk out css, ∃ k : Nat, vals = [.pointer (some ⟨bp, 0, none⟩), .func (.func 85) #[] #[], out, .slice ao l.length cap, .int .i64 (l.length : Int), .int .i64 (k : Int)] ∧ k ≤ l.length ∧ New w (· = bp) M wk ∧ M bp = none ∧ PS a HL (Hm N M) wk bp rem okk ∧ RBB M (.slice ao l.length cap) l ∧ Own M wk w.heap.size 105 74 out k (List.flatten css) ∧ (∀ cs ∈ css, cs.length = 74) ∧ okk = (ok && (mapO dTimeout (l.take k)).isSome) ∧ (∀ ys, mapO dTimeout (l.take k) = some ys → All2 (cTimeout M) css ys)) (fun vals _ => l.length - (intOf (vals.getD 5 undef)).toNat) ⟨M, ok, _, [], 0, rfl, Nat.zero_le _, n2, hM, h1, hl, Own.nil _ _ _ _ _, by simp, by simp [mapO], fun ys hy => by simp [mapO] at hy; subst hy; exact .nil⟩ ?_
    clear hres n2 hM h1 hl st hC1 hr M
    rintro g _ wk ⟨M, okk, out, css, k, rfl, hk, nk, hM, hp, hl, own, hcs, hokk, hall⟩
    rcases Nat.lt_or_ge k l.length with hlt | hge2
    · have htk : l.take (k + 1) = l.take k ++ [l[k]] := List.take_succ_eq_append_getElem hlt
      have hpk := hpl l[k] (by simp)
      have hl' := hl
      obtain ⟨vs, h2, rs⟩ := hl'
      obtain ⟨hvl, hel⟩ := h2.get hlt
      obtain ⟨ad, rfl, hcel⟩ := rs.elem (i := k) (u := vs[k]) (by simp)
      obtain ⟨ao2, cap2, hv2⟩ := RS.form hel
      rw [hv2] at hcel hel
      have hLM : Agr (Hm HL M) wk := Hm.agr hp.agrL nk.st.agr
      have hGM : hcell (Hm HL M) ⟨1, 0, none⟩ = some (eS a) := (Hm.left h.agrL nk).cell h.glob
      cases hd : dTimeout l[k] with
      | some y =>
        refine W.seq fun K18 hK18 => ?_
        refine W.region ?_
        refine SeqOps.put 29 rfl rfl rfl (O.cmp (a := (k : Int)) (b := (l.length : Int)) (r := true) rfl rfl rfl (by simp [cmpI]; omega) ?_)
        refine SeqOps.nil ?_
        refine hK18 _ _ ?_
        try clear hK18 K18
        refine W.seq fun K19 hK19 => ?_
        refine W.cond_true rfl ?_
        refine W.skip ?_
        refine hK19 _ _ ?_
        try clear hK19 K19
        refine W.seq fun K20 hK20 => ?_
        refine W.block ?_
        refine W.seq fun K21 hK21 => ?_
        refine W.region ?_
        refine SeqOps.put 30 rfl rfl rfl (O.indexAddr (a := ad) (len := l.length) (cap := cap) (i := (k : Int)) (sz := 1) (v := .pointer (some (ad.add k))) rfl rfl rfl Tryz.underlying133 sz22 (by omega) (by omega) (by simp) ?_)
        refine SeqOps.put 31 rfl rfl rfl (O.loadOne (a := ad.add k) (v := .slice ao2 l[k].length cap2) rfl rfl Tryz.underlying22 rfl (nk.st.agr.cell hcel) ?_)
        refine SeqOps.put 9 rfl rfl rfl (O.assign (v := (.slice ao2 l[k].length cap2)) rfl rfl ?_)
        refine SeqOps.nil ?_
        refine hK21 _ _ ?_
        try clear hK21 K21
        refine W.seq fun K22 hK22 => ?_
        refine W.region ?_
        refine SeqOps.put 33 rfl rfl rfl (O.move (v := (.func (.func 85) #[] #[])) rfl rfl ?_)
        refine SeqOps.put 34 rfl rfl rfl (O.move (v := (.slice ao2 l[k].length cap2)) rfl rfl ?_)
        refine SeqOps.put 35 rfl rfl rfl (O.call (fid := 85) (cap := #[]) (args := [(.slice ao2 l[k].length cap2)]) rfl rfl rfl Tryz.func85 rfl rfl ?_)
        refine Calls.mono (read_Timeout_calls (a := a) hLM hGM (hel.mono (Hm.right _ _)) (by omega)) ?_
        rintro e w5 hret
        obtain ⟨N5, v5, rfl, n5, hwf, hph⟩ := RetRd.good hd hret
        have n6 := nk.trans n5 (fun i hi => hi.elim)
        have hp6 := hp.new n5
        rw [Hm.assoc] at hp6
        have hM6 : Hm M N5 bp = none := Hm.none hM (by rw [n5.st.low bp hp.lt])
        have own6 : Own (Hm M N5) w5 w.heap.size 105 74 out k (List.flatten css) := (own.ext n5.st.chg).heap fun j hj => Hm.none (own.out j hj) (by rw [n5.st.low j (own.base hj).2])
        have hle6 : Hle M (Hm M N5) := nk.le1 n5
        obtain ⟨q, rfl, hq⟩ := hph
        refine ⟨_, rfl, ?_⟩
        refine SeqOps.put 32 rfl rfl rfl (O.move (v := (.tuple #[(.agg (List.toArray (q.cells))), .nilIface])) rfl rfl ?_)
        refine SeqOps.put 36 rfl rfl rfl (O.extract (v := (.agg (List.toArray (q.cells)))) rfl rfl rfl ?_)
        refine SeqOps.put 37 rfl rfl rfl (O.extract (v := .nilIface) rfl rfl rfl ?_)
        refine SeqOps.put 10 rfl rfl rfl (O.alloc rfl zr105 ?_)
        intro bq wa hbq hbq1 hEa hkq0
        refine SeqOps.eff rfl rfl (O.store (b := bq) (off := 0) (v := .agg (List.toArray q.cells)) (n := 74) (c' := q.cells.toArray) rfl rfl rfl hkq0 sz105 rfl (by decide) (VTimeout.one hq.ok) rfl ?_)
        intro wb hCb hkq
        have hEb : Ext w5 wb := hEa.trans_new hCb fun i hi => .inl (by omega)
        have hp6' := hp6
        replace n6 := n6.new hEb; replace hp6 := hp6.ext hEb; replace own6 := own6.ext hEb
        refine SeqOps.put 11 rfl rfl rfl (O.assign (v := .nilIface) rfl rfl ?_)
        refine SeqOps.nil ?_
        refine hK22 _ _ ?_
        try clear hK22 K22
        refine W.seq fun K23 hK23 => ?_
        refine W.seq fun K24 hK24 => ?_
        refine W.region ?_
        refine SeqOps.put 38 rfl rfl rfl (O.move (v := .nilIface) rfl rfl ?_)
        refine SeqOps.put 39 rfl rfl rfl (O.ifaceNil (v := .nilIface) (r := false) rfl rfl (.inl rfl) Tryz.underlying162 (.inr ⟨rfl, rfl⟩) ?_)
        refine SeqOps.nil ?_
        refine hK24 _ _ ?_
        try clear hK24 K24
        refine W.cond_false rfl ?_
        refine W.skip ?_
        refine hK23 _ _ ?_
        try clear hK23 K23
        refine W.region ?_
        refine SeqOps.put 46 rfl rfl rfl (O.move (v := out) rfl rfl ?_)
        refine SeqOps.put 47 rfl rfl rfl (O.loadBlk (b := bq) (off := 0) (cs := q.cells) rfl rfl hkq Tryz.underlying105 rfl sz105 rfl ?_)
        refine SeqOps.put 48 rfl rfl rfl (O.buildSlice (vs := [(.agg (List.toArray (q.cells)))]) rfl rfl rfl Tryz.underlying32 inf105 (by intro u hu; simp at hu; subst hu; rfl) (by decide) ?_)
        intro b9 w9 hb9 hb91 hE9 hk9
        have hcat : catV [(.agg (List.toArray (q.cells)))] = q.cells := by simp [catV, Value.cells]
        rw [hcat] at hk9
        have own9 := own6.ext hE9
        have n9 := n6.new hE9
        refine SeqOps.put 49 rfl rfl rfl (O.append (B := w.heap.size) (v := out) (vx := .slice (some ⟨b9, 0, none⟩) 1 1) (m := 1) (xs := List.flatten css) (news := q.cells) rfl rfl rfl Tryz.underlying32 inf105 rfl own9 (Own.ofBlk (H := fun _ => none) (B := 0) (s := 74) (xs := q.cells) hk9 (Nat.zero_le _) rfl rfl (by decide) (VTimeout.one hq.ok)).rsw rfl (by omega) (by omega) n9.st.chg.size n9.st.agr ?_)
        intro o10 w10 own10 hC10
        refine SeqOps.put 7 rfl rfl rfl (O.assign (v := o10) rfl rfl ?_)
        refine SeqOps.nil ?_
        refine hK20 _ _ ?_
        try clear hK20 K20
        refine W.region ?_
        refine SeqOps.put 50 rfl rfl rfl (O.arith (a := (k : Int)) (b := 1) (r := (k : Int) + 1) (c := (k : Int) + 1) rfl rfl rfl rfl (by exact wrap_i64 (by omega) (by omega)) ?_)
        refine SeqOps.put 28 rfl rfl rfl (O.move (v := (.int .i64 ((k : Int) + 1))) rfl rfl ?_)
        refine SeqOps.nil ?_
        have n10 := n9.step hC10 (fun i hi => ⟨.inl (own9.base hi).1, own9.out i hi⟩)
        have hp10 := (hp6.ext hE9).chg hC10 (fun i hi => ⟨by have := (own9.base hi).1; omega, h0L (own9.base hi).1, Hm.none (h0N (own9.base hi).1) (own9.out i hi)⟩)
        refine ⟨⟨_, _, o10, css ++ [q.cells], k + 1, rfl, by omega, n10, hM6, hp10, hl.mono hle6, by simpa using own10, ?_, ?_, fun ys hy => ?_⟩, by show l.length - ((k + 1 : Nat) : Int).toNat < l.length - ((k : Nat) : Int).toNat; omega⟩
        · intro cs hcs'; rcases List.mem_append.1 hcs' with h' | h'
          · exact hcs cs h'
          · simp at h'; subst h'; rfl
        · rw [hokk, htk, mapO_snoc, hd]; cases mapO dTimeout (l.take k) <;> rfl
        · rw [htk, mapO_snoc, hd] at hy
          cases hm : mapO dTimeout (l.take k) with
          | none => rw [hm] at hy; cases hy
          | some zs =>
            rw [hm] at hy; simp at hy; subst hy
            exact ((hall zs hm).imp fun _ _ hc => cTimeout.mono (by first | exact hle6 | exact hle8) hc).snoc ⟨q, rfl, hq.mono (Hm.right M N5)⟩
      | none =>
        refine W.seq fun K25 hK25 => ?_
        refine W.region ?_
        refine SeqOps.put 29 rfl rfl rfl (O.cmp (a := (k : Int)) (b := (l.length : Int)) (r := true) rfl rfl rfl (by simp [cmpI]; omega) ?_)
        refine SeqOps.nil ?_
        refine hK25 _ _ ?_
        try clear hK25 K25
        refine W.seq fun K26 hK26 => ?_
        refine W.cond_true rfl ?_
        refine W.skip ?_
        refine hK26 _ _ ?_
        try clear hK26 K26
        refine W.seq fun K27 hK27 => ?_
        refine W.block ?_
        refine W.seq fun K28 hK28 => ?_
        refine W.region ?_
        refine SeqOps.put 30 rfl rfl rfl (O.indexAddr (a := ad) (len := l.length) (cap := cap) (i := (k : Int)) (sz := 1) (v := .pointer (some (ad.add k))) rfl rfl rfl Tryz.underlying133 sz22 (by omega) (by omega) (by simp) ?_)
        refine SeqOps.put 31 rfl rfl rfl (O.loadOne (a := ad.add k) (v := .slice ao2 l[k].length cap2) rfl rfl Tryz.underlying22 rfl (nk.st.agr.cell hcel) ?_)
        refine SeqOps.put 9 rfl rfl rfl (O.assign (v := (.slice ao2 l[k].length cap2)) rfl rfl ?_)
        refine SeqOps.nil ?_
        refine hK28 _ _ ?_
        try clear hK28 K28
        refine W.seq fun K29 hK29 => ?_
        refine W.region ?_
        refine SeqOps.put 33 rfl rfl rfl (O.move (v := (.func (.func 85) #[] #[])) rfl rfl ?_)
        refine SeqOps.put 34 rfl rfl rfl (O.move (v := (.slice ao2 l[k].length cap2)) rfl rfl ?_)
        refine SeqOps.put 35 rfl rfl rfl (O.call (fid := 85) (cap := #[]) (args := [(.slice ao2 l[k].length cap2)]) rfl rfl rfl Tryz.func85 rfl rfl ?_)
        refine Calls.mono (read_Timeout_calls (a := a) hLM hGM (hel.mono (Hm.right _ _)) (by omega)) ?_
        rintro e w5 hret
        obtain ⟨N5, v5, be, rfl, n5, hwf, her⟩ := RetRd.bad hd hret
        have n6 := nk.trans n5 (fun i hi => hi.elim)
        have hp6 := hp.new n5
        rw [Hm.assoc] at hp6
        have hM6 : Hm M N5 bp = none := Hm.none hM (by rw [n5.st.low bp hp.lt])
        have own6 : Own (Hm M N5) w5 w.heap.size 105 74 out k (List.flatten css) := (own.ext n5.st.chg).heap fun j hj => Hm.none (own.out j hj) (by rw [n5.st.low j (own.base hj).2])
        have hle6 : Hle M (Hm M N5) := nk.le1 n5
        obtain ⟨q, rfl, hqok⟩ := hwf
        refine ⟨_, rfl, ?_⟩
        refine SeqOps.put 32 rfl rfl rfl (O.move (v := (.tuple #[(.agg (List.toArray (q.cells))), (.iface 160 (.pointer (some ⟨be, 0, none⟩)))])) rfl rfl ?_)
        refine SeqOps.put 36 rfl rfl rfl (O.extract (v := (.agg (List.toArray (q.cells)))) rfl rfl rfl ?_)
        refine SeqOps.put 37 rfl rfl rfl (O.extract (v := (.iface 160 (.pointer (some ⟨be, 0, none⟩)))) rfl rfl rfl ?_)
        refine SeqOps.put 10 rfl rfl rfl (O.alloc rfl zr105 ?_)
        intro bq wa hbq hbq1 hEa hkq0
        refine SeqOps.eff rfl rfl (O.store (b := bq) (off := 0) (v := .agg (List.toArray q.cells)) (n := 74) (c' := q.cells.toArray) rfl rfl rfl hkq0 sz105 rfl (by decide) (VTimeout.one hqok) rfl ?_)
        intro wb hCb hkq
        have hEb : Ext w5 wb := hEa.trans_new hCb fun i hi => .inl (by omega)
        have hp6' := hp6
        replace n6 := n6.new hEb; replace hp6 := hp6.ext hEb; replace own6 := own6.ext hEb
        refine SeqOps.put 11 rfl rfl rfl (O.assign (v := (.iface 160 (.pointer (some ⟨be, 0, none⟩)))) rfl rfl ?_)
        refine SeqOps.nil ?_
        refine hK29 _ _ ?_
        try clear hK29 K29
        refine W.seq fun K30 hK30 => ?_
        refine W.seq fun K31 hK31 => ?_
        refine W.region ?_
        refine SeqOps.put 38 rfl rfl rfl (O.move (v := (.iface 160 (.pointer (some ⟨be, 0, none⟩)))) rfl rfl ?_)
        refine SeqOps.put 39 rfl rfl rfl (O.ifaceNil (v := (.iface 160 (.pointer (some ⟨be, 0, none⟩)))) (r := true) rfl rfl (.inr ⟨_, _, rfl⟩) Tryz.underlying162 (.inr ⟨rfl, rfl⟩) ?_)
        refine SeqOps.nil ?_
        refine hK31 _ _ ?_
        try clear hK31 K31
        refine W.cond_true rfl ?_
        refine W.region ?_
        refine SeqOps.put 40 rfl rfl rfl (O.move (v := (.pointer (some ⟨bp, 0, none⟩))) rfl rfl ?_)
        refine SeqOps.put 41 rfl rfl rfl (O.move (v := (.iface 160 (.pointer (some ⟨be, 0, none⟩)))) rfl rfl ?_)
        refine SeqOps.put 42 rfl rfl rfl (O.build (vps := [(0, (strOf [105, 110, 32, 97, 32, 108, 105, 115, 116])), (1, (.iface 160 (.pointer (some ⟨be, 0, none⟩))))]) (cells := [(strOf [105, 110, 32, 97, 32, 108, 105, 115, 116]), (.iface 160 (.pointer (some ⟨be, 0, none⟩)))]) rfl rfl (by kernel_rfl) ?_)
        refine SeqOps.put 43 rfl rfl rfl (O.box (v := (.agg (List.toArray ([(strOf [105, 110, 32, 97, 32, 108, 105, 115, 116]), (.iface 160 (.pointer (some ⟨be, 0, none⟩)))])))) rfl rfl ?_)
        intro b7 w7 hb7 hb7l hEw7 hkb7
        obtain ⟨h7, hN7, e7⟩ := hp6.wrong hEw7 hb7 hkb7
        refine SeqOps.put 44 rfl rfl rfl (O.makeIface (v := (.pointer (some ⟨b7, 0, none⟩))) rfl rfl Tryz.underlying160 rfl ?_)
        refine SeqOps.put 45 rfl rfl rfl (O.call (fid := 126) (cap := #[]) (args := [(.pointer (some ⟨bp, 0, none⟩)), (.iface 160 (.pointer (some ⟨b7, 0, none⟩)))]) rfl rfl rfl Tryz.func126 rfl rfl ?_)
        refine Calls.mono (bad_calls h7 (.wrap (Hadd_same _ _ _) (her.mono (Hle.trans (Hm.right M N5) (Hle.trans (Hm.right N _) (Hle.add _ (hp6.agrN.none hb7))))))) ?_
        rintro e w8 ⟨rfl, h8, hC8⟩
        have hlt6 := hp6.lt
        have hM7 : Hm (Hm M N5) (Hadd NH b7 (Obj.cells ((.agg (List.toArray ([(strOf [105, 110, 32, 97, 32, 108, 105, 115, 116]), (.iface 160 (.pointer (some ⟨be, 0, none⟩)))]))) : Value).cells 164 (0, 0))) bp = none := Hm.none hM6 (by rw [Hadd_ne _ _ (by omega)])
        have n8 := (n6.trans hN7 (fun i hi => hi.elim)).step hC8 (fun i hi => ⟨.inr hi, by subst hi; exact hM7⟩)
        rw [← e7, Hm.assoc] at h8
        have own8 : Own (Hm (Hm M N5) (Hadd NH b7 (Obj.cells ((.agg (List.toArray ([(strOf [105, 110, 32, 97, 32, 108, 105, 115, 116]), (.iface 160 (.pointer (some ⟨be, 0, none⟩)))]))) : Value).cells 164 (0, 0)))) w8 w.heap.size 105 74 out k (List.flatten css) := ((own6.ext hEw7).chg hC8 fun j hj e => by subst e; have := (own6.base hj).1; omega).heap fun j hj => Hm.none (own6.out j hj) (by have := (own6.base hj).2; rw [Hadd_ne _ _ (by omega)])
        have hkq8 := hC8.blk (Ext.blk hEw7 hkq) (by have := hp6'.lt; omega)
        have hle8 : Hle M (Hm (Hm M N5) (Hadd NH b7 (Obj.cells ((.agg (List.toArray ([(strOf [105, 110, 32, 97, 32, 108, 105, 115, 116]), (.iface 160 (.pointer (some ⟨be, 0, none⟩)))]))) : Value).cells 164 (0, 0)))) := hle6.trans (n6.le1 hN7)
        refine ⟨_, rfl, ?_⟩
        refine SeqOps.nil ?_
        refine hK30 _ _ ?_
        try clear hK30 K30
        refine W.region ?_
        refine SeqOps.put 46 rfl rfl rfl (O.move (v := out) rfl rfl ?_)
        refine SeqOps.put 47 rfl rfl rfl (O.loadBlk (b := bq) (off := 0) (cs := q.cells) rfl rfl hkq8 Tryz.underlying105 rfl sz105 rfl ?_)
        refine SeqOps.put 48 rfl rfl rfl (O.buildSlice (vs := [(.agg (List.toArray (q.cells)))]) rfl rfl rfl Tryz.underlying32 inf105 (by intro u hu; simp at hu; subst hu; rfl) (by decide) ?_)
        intro b9 w9 hb9 hb91 hE9 hk9
        have hcat : catV [(.agg (List.toArray (q.cells)))] = q.cells := by simp [catV, Value.cells]
        rw [hcat] at hk9
        have own9 := own8.ext hE9
        have n9 := n8.new hE9
        refine SeqOps.put 49 rfl rfl rfl (O.append (B := w.heap.size) (v := out) (vx := .slice (some ⟨b9, 0, none⟩) 1 1) (m := 1) (xs := List.flatten css) (news := q.cells) rfl rfl rfl Tryz.underlying32 inf105 rfl own9 (Own.ofBlk (H := fun _ => none) (B := 0) (s := 74) (xs := q.cells) hk9 (Nat.zero_le _) rfl rfl (by decide) (VTimeout.one hqok)).rsw rfl (by omega) (by omega) n9.st.chg.size n9.st.agr ?_)
        intro o10 w10 own10 hC10
        refine SeqOps.put 7 rfl rfl rfl (O.assign (v := o10) rfl rfl ?_)
        refine SeqOps.nil ?_
        refine hK27 _ _ ?_
        try clear hK27 K27
        refine W.region ?_
        refine SeqOps.put 50 rfl rfl rfl (O.arith (a := (k : Int)) (b := 1) (r := (k : Int) + 1) (c := (k : Int) + 1) rfl rfl rfl rfl (by exact wrap_i64 (by omega) (by omega)) ?_)
        refine SeqOps.put 28 rfl rfl rfl (O.move (v := (.int .i64 ((k : Int) + 1))) rfl rfl ?_)
        refine SeqOps.nil ?_
        have n10 := n9.step hC10 (fun i hi => ⟨.inl (own9.base hi).1, own9.out i hi⟩)
        have hp10 := (h8.ext hE9).chg hC10 (fun i hi => ⟨by have := (own9.base hi).1; omega, h0L (own9.base hi).1, Hm.none (h0N (own9.base hi).1) (own9.out i hi)⟩)
        refine ⟨⟨_, _, o10, css ++ [q.cells], k + 1, rfl, by omega, n10, hM7, hp10, hl.mono hle8, by simpa using own10, ?_, ?_, fun ys hy => ?_⟩, by show l.length - ((k + 1 : Nat) : Int).toNat < l.length - ((k : Nat) : Int).toNat; omega⟩
        · intro cs hcs'; rcases List.mem_append.1 hcs' with h' | h'
          · exact hcs cs h'
          · simp at h'; subst h'; rfl
        · rw [htk, mapO_snoc, hd]; cases mapO dTimeout (l.take k) <;> simp
        · rw [htk, mapO_snoc, hd] at hy; cases mapO dTimeout (l.take k) <;> simp at hy
    have hkl : k = l.length := by omega
    refine W.seq fun K32 hK32 => ?_
    refine W.region ?_
    refine SeqOps.put 29 rfl rfl rfl (O.cmp (a := (k : Int)) (b := (l.length : Int)) (r := false) rfl rfl rfl (by simp [cmpI]; omega) ?_)
    refine SeqOps.nil ?_
    refine hK32 _ _ ?_
    try clear hK32 K32
    refine W.seq fun K33 hK33 => ?_
    refine W.cond_false rfl ?_
    refine W.exit ?_
    refine hK16 _ _ ?_
    try clear hK16 K16
    refine W.seq fun K34 hK34 => ?_
    refine W.region ?_
    refine SeqOps.put 51 rfl rfl rfl (O.move (v := out) rfl rfl ?_)
    refine SeqOps.put 4 rfl rfl rfl (O.assign (v := out) rfl rfl ?_)
    refine SeqOps.nil ?_
    refine hK34 _ _ ?_
    try clear hK34 K34
    refine W.ret ?_
    subst hkl
    rw [List.take_length] at hokk hall
    obtain ⟨M2, hle2, n2, hsame, rs2⟩ := own.join nk (Nat.le_refl _)
    have hM2 : M2 bp = none := by rw [hsame bp fun e => by have := (own.base e).1; omega]; exact hM
    have hdl : dList dTimeout b = mapO dTimeout l := by unfold dList; rw [hsp]; rfl
    obtain ⟨aof, capf, hof⟩ := rs2.form
    refine retQ_one rfl rfl ⟨M2, out, rfl, n2, hM2, ?_, ⟨_, _, _, hof⟩, fun ys hy => ?_⟩
    · rw [hdl, ← hokk]
      obtain ⟨lv, ev, hblk, hrb, hev⟩ := hp.blk
      refine h.next n2 hM2 ⟨lv, ev, hblk, hrb, hev.imp id fun ⟨e1, e2⟩ => ⟨e1, e2.mono ?_⟩⟩
      intro j o ho; unfold Hm at ho ⊢
      cases hj : M j with
      | some o' => rw [hj] at ho; rw [hle2 j o' hj]; exact ho
      | none =>
        rw [hj] at ho
        have hno := h.agrN.lt ho
        rw [show M2 j = none by rw [n2.st.low j hno]]; exact ho
    · rw [hdl] at hy
      have h2 := hall ys hy
      refine ⟨css, h2.imp fun _ _ hc => cTimeout.mono hle2 hc, hcs, ?_⟩
      have hlen2 := mapO_length hy
      rw [hlen2]; exact rs2

def wfMessage (v : Value) : Prop := ∃ q : VMessage, v = .agg (List.toArray q.cells) ∧ q.ok
def phMessage (N : Heap) (v : Value) (y : DMessage) : Prop := ∃ q : VMessage, v = .agg (List.toArray q.cells) ∧ RMessage N q y
set_option maxHeartbeats 1000000 in
theorem read_Message_calls {a : Addr} {H : Heap} {w : World} {v : Value} {bs : List UInt8} (hA : Agr H w) (hG : hcell H ⟨1, 0, none⟩ = some (eS a)) (r : RB H v bs) (hlen : bs.length ≤ 1099511627776) :
    Calls Tryz.prog 41 #[v] w (RetRd a dMessage wfMessage phMessage w bs) := by
  refine calls_of_W (n := 32) Tryz.func41 rfl Tryz.ntmps41 (Nat.le_of_ble_eq_true rfl) ?_
  refine W.seq fun K1 hK1 => ?_
  refine W.region ?_
  refine SeqOps.put 2 rfl rfl rfl (O.alloc rfl zr36 ?_)
  intro br w0 hbr hbr1 hE0 hk0
  refine SeqOps.put 3 rfl rfl rfl (O.assign (v := .nilIface) rfl rfl ?_)
  refine SeqOps.nil ?_
  refine hK1 _ _ ?_
  try clear hK1 K1
  refine W.seq fun K2 hK2 => ?_
  refine W.region ?_
  refine SeqOps.put 6 rfl rfl rfl (O.move (v := v) rfl rfl ?_)
  refine SeqOps.put 7 rfl rfl rfl (O.call (fid := 87) (cap := #[]) (args := [v, (.int .i64 (9)), (strOf [97, 32, 109, 101, 115, 115, 97, 103, 101])]) rfl rfl rfl Tryz.func87 rfl rfl ?_)
  refine Calls.mono (split_calls (a := a) (n := 9) (Ext.agr hE0 hA) hG r hlen (by omega)) ?_
  rintro e w1 ⟨N0, bp, rem, okS, rfl, n0, hbp, hps, hrl, hok1, hok2, hrle⟩
  obtain ⟨b0, b1, b2, b3, b4, b5, b6, b7, b8, rfl⟩ : ∃ b0 b1 b2 b3 b4 b5 b6 b7 b8, rem = [b0, b1, b2, b3, b4, b5, b6, b7, b8] := by match rem, hrl with | [b0, b1, b2, b3, b4, b5, b6, b7, b8], _ => exact ⟨b0, b1, b2, b3, b4, b5, b6, b7, b8, rfl⟩
  have hbrp : br ≠ bp := by omega
  have hkr := Ext.blk n0.st.chg hk0
  have nn0 := ((New.start w NoX).new hE0).trans n0 (fun i hi => hi.elim)
  rw [Hm.nilL] at nn0
  have hr0 : N0 br = none := by rw [n0.st.low br hbr1]
  refine ⟨_, rfl, ?_⟩
  refine SeqOps.put 4 rfl rfl rfl (O.assign (v := (.pointer (some ⟨bp, 0, none⟩))) rfl rfl ?_)
  refine SeqOps.nil ?_
  refine hK2 _ _ ?_
  try clear hK2 K2
  refine W.seq fun K3 hK3 => ?_
  refine W.region ?_
  refine SeqOps.put 8 rfl rfl rfl (O.move (v := (.pointer (some ⟨bp, 0, none⟩))) rfl rfl ?_)
  refine SeqOps.put 9 rfl rfl rfl (O.call (fid := 88) (cap := #[]) (args := [(.pointer (some ⟨bp, 0, none⟩))]) rfl rfl rfl Tryz.func88 rfl rfl ?_)
  refine Calls.mono (pint_calls hps) ?_
  rintro e wm1 ⟨M1, v0_, rfl, nm1, hM1, hp1, ⟨f0, rfl, hrng0, hy0⟩⟩
  have nn1 := nn0.trans nm1 (fun i hi => ⟨.inl (by subst hi; have := hE0.size; omega), by subst hi; exact hps.outN⟩)
  have hkr1 := nm1.st.chg.blk hkr hbrp
  have hr1 : Hm N0 M1 br = none := Hm.none hr0 (by rw [nm1.st.low br (blk_lt hkr)])
  have hle1 : Hle N0 (Hm N0 M1) := nn0.le1 nm1
  refine ⟨_, rfl, ?_⟩
  refine SeqOps.put 10 rfl rfl rfl (O.move (v := (.pointer (some ⟨bp, 0, none⟩))) rfl rfl ?_)
  refine SeqOps.put 11 rfl rfl rfl (O.call (fid := 88) (cap := #[]) (args := [(.pointer (some ⟨bp, 0, none⟩))]) rfl rfl rfl Tryz.func88 rfl rfl ?_)
  refine Calls.mono (pint_calls hp1) ?_
  rintro e wm2 ⟨M2, v1_, rfl, nm2, hM2, hp2, ⟨f1, rfl, hrng1, hy1⟩⟩
  have nn2 := nn1.trans nm2 (fun i hi => ⟨.inl (by subst hi; have := hE0.size; omega), by subst hi; exact hp1.outN⟩)
  have hkr2 := nm2.st.chg.blk hkr1 hbrp
  have hr2 : Hm (Hm N0 M1) M2 br = none := Hm.none hr1 (by rw [nm2.st.low br (blk_lt hkr1)])
  have hle2 : Hle (Hm N0 M1) (Hm (Hm N0 M1) M2) := nn1.le1 nm2
  refine ⟨_, rfl, ?_⟩
  refine SeqOps.put 12 rfl rfl rfl (O.move (v := (.pointer (some ⟨bp, 0, none⟩))) rfl rfl ?_)
  refine SeqOps.put 13 rfl rfl rfl (O.call (fid := 89) (cap := #[]) (args := [(.pointer (some ⟨bp, 0, none⟩))]) rfl rfl rfl Tryz.func89 rfl rfl ?_)
  refine Calls.mono (pn_calls hp2) ?_
  rintro e wm3 ⟨M3, v2_, rfl, nm3, hM3, hp3, ⟨f2, rfl, hrng2, hy2⟩⟩
  have nn3 := nn2.trans nm3 (fun i hi => ⟨.inl (by subst hi; have := hE0.size; omega), by subst hi; exact hp2.outN⟩)
  have hkr3 := nm3.st.chg.blk hkr2 hbrp
  have hr3 : Hm (Hm (Hm N0 M1) M2) M3 br = none := Hm.none hr2 (by rw [nm3.st.low br (blk_lt hkr2)])
  have hle3 : Hle (Hm (Hm N0 M1) M2) (Hm (Hm (Hm N0 M1) M2) M3) := nn2.le1 nm3
  refine ⟨_, rfl, ?_⟩
  refine SeqOps.put 14 rfl rfl rfl (O.move (v := (.pointer (some ⟨bp, 0, none⟩))) rfl rfl ?_)
  refine SeqOps.put 15 rfl rfl rfl (O.call (fid := 90) (cap := #[]) (args := [(.pointer (some ⟨bp, 0, none⟩))]) rfl rfl rfl Tryz.func90 rfl rfl ?_)
  refine Calls.mono (pdigest_calls hp3) ?_
  rintro e wm4 ⟨M4, v3_, rfl, nm4, hM4, hp4, ⟨f3, rfl, hy3⟩⟩
  have nn4 := nn3.trans nm4 (fun i hi => ⟨.inl (by subst hi; have := hE0.size; omega), by subst hi; exact hp3.outN⟩)
  have hkr4 := nm4.st.chg.blk hkr3 hbrp
  have hr4 : Hm (Hm (Hm (Hm N0 M1) M2) M3) M4 br = none := Hm.none hr3 (by rw [nm4.st.low br (blk_lt hkr3)])
  have hle4 : Hle (Hm (Hm (Hm N0 M1) M2) M3) (Hm (Hm (Hm (Hm N0 M1) M2) M3) M4) := nn3.le1 nm4
  refine ⟨_, rfl, ?_⟩
  refine SeqOps.put 16 rfl rfl rfl (O.move (v := (.pointer (some ⟨bp, 0, none⟩))) rfl rfl ?_)
  refine SeqOps.put 17 rfl rfl rfl (O.call (fid := 91) (cap := #[]) (args := [(.pointer (some ⟨bp, 0, none⟩)), (.func (.func 81) #[] #[])]) rfl rfl rfl Tryz.func91 rfl rfl ?_)
  refine Calls.mono (all_Block_calls hp4 (by have := hrle b4 (by simp); omega)) ?_
  rintro e wm5 ⟨M5, v4_, rfl, nm5, hM5, hp5, ⟨⟨ao4, n4, cap4, rfl⟩, hy4⟩⟩
  have nn5 := nn4.trans nm5 (fun i hi => ⟨.inl (by subst hi; have := hE0.size; omega), by subst hi; exact hp4.outN⟩)
  have hkr5 := nm5.st.chg.blk hkr4 hbrp
  have hr5 : Hm (Hm (Hm (Hm (Hm N0 M1) M2) M3) M4) M5 br = none := Hm.none hr4 (by rw [nm5.st.low br (blk_lt hkr4)])
  have hle5 : Hle (Hm (Hm (Hm (Hm N0 M1) M2) M3) M4) (Hm (Hm (Hm (Hm (Hm N0 M1) M2) M3) M4) M5) := nn4.le1 nm5
  refine ⟨_, rfl, ?_⟩
  refine SeqOps.put 18 rfl rfl rfl (O.move (v := (.pointer (some ⟨bp, 0, none⟩))) rfl rfl ?_)
  refine SeqOps.put 19 rfl rfl rfl (O.call (fid := 92) (cap := #[]) (args := [(.pointer (some ⟨bp, 0, none⟩)), (.func (.func 83) #[] #[])]) rfl rfl rfl Tryz.func92 rfl rfl ?_)
  refine Calls.mono (all_Vote_calls hp5 (by have := hrle b5 (by simp); omega)) ?_
  rintro e wm6 ⟨M6, v5_, rfl, nm6, hM6, hp6, ⟨⟨ao5, n5, cap5, rfl⟩, hy5⟩⟩
  have nn6 := nn5.trans nm6 (fun i hi => ⟨.inl (by subst hi; have := hE0.size; omega), by subst hi; exact hp5.outN⟩)
  have hkr6 := nm6.st.chg.blk hkr5 hbrp
  have hr6 : Hm (Hm (Hm (Hm (Hm (Hm N0 M1) M2) M3) M4) M5) M6 br = none := Hm.none hr5 (by rw [nm6.st.low br (blk_lt hkr5)])
  have hle6 : Hle (Hm (Hm (Hm (Hm (Hm N0 M1) M2) M3) M4) M5) (Hm (Hm (Hm (Hm (Hm (Hm N0 M1) M2) M3) M4) M5) M6) := nn5.le1 nm6
  refine ⟨_, rfl, ?_⟩
  refine SeqOps.put 20 rfl rfl rfl (O.move (v := (.pointer (some ⟨bp, 0, none⟩))) rfl rfl ?_)
  refine SeqOps.put 21 rfl rfl rfl (O.call (fid := 93) (cap := #[]) (args := [(.pointer (some ⟨bp, 0, none⟩)), (.func (.func 85) #[] #[])]) rfl rfl rfl Tryz.func93 rfl rfl ?_)
  refine Calls.mono (all_Timeout_calls hp6 (by have := hrle b6 (by simp); omega)) ?_
  rintro e wm7 ⟨M7, v6_, rfl, nm7, hM7, hp7, ⟨⟨ao6, n6, cap6, rfl⟩, hy6⟩⟩
  have nn7 := nn6.trans nm7 (fun i hi => ⟨.inl (by subst hi; have := hE0.size; omega), by subst hi; exact hp6.outN⟩)
  have hkr7 := nm7.st.chg.blk hkr6 hbrp
  have hr7 : Hm (Hm (Hm (Hm (Hm (Hm (Hm N0 M1) M2) M3) M4) M5) M6) M7 br = none := Hm.none hr6 (by rw [nm7.st.low br (blk_lt hkr6)])
  have hle7 : Hle (Hm (Hm (Hm (Hm (Hm (Hm N0 M1) M2) M3) M4) M5) M6) (Hm (Hm (Hm (Hm (Hm (Hm (Hm N0 M1) M2) M3) M4) M5) M6) M7) := nn6.le1 nm7
  refine ⟨_, rfl, ?_⟩
  refine SeqOps.put 22 rfl rfl rfl (O.move (v := (.pointer (some ⟨bp, 0, none⟩))) rfl rfl ?_)
  refine SeqOps.put 23 rfl rfl rfl (O.call (fid := 94) (cap := #[]) (args := [(.pointer (some ⟨bp, 0, none⟩)), (.func (.func 77) #[] #[])]) rfl rfl rfl Tryz.func94 rfl rfl ?_)
  refine Calls.mono (all_Commit_calls hp7 (by have := hrle b7 (by simp); omega)) ?_
  rintro e wm8 ⟨M8, v7_, rfl, nm8, hM8, hp8, ⟨⟨ao7, n7, cap7, rfl⟩, hy7⟩⟩
  have nn8 := nn7.trans nm8 (fun i hi => ⟨.inl (by subst hi; have := hE0.size; omega), by subst hi; exact hp7.outN⟩)
  have hkr8 := nm8.st.chg.blk hkr7 hbrp
  have hr8 : Hm (Hm (Hm (Hm (Hm (Hm (Hm (Hm N0 M1) M2) M3) M4) M5) M6) M7) M8 br = none := Hm.none hr7 (by rw [nm8.st.low br (blk_lt hkr7)])
  have hle8 : Hle (Hm (Hm (Hm (Hm (Hm (Hm (Hm N0 M1) M2) M3) M4) M5) M6) M7) (Hm (Hm (Hm (Hm (Hm (Hm (Hm (Hm N0 M1) M2) M3) M4) M5) M6) M7) M8) := nn7.le1 nm8
  refine ⟨_, rfl, ?_⟩
  refine SeqOps.put 24 rfl rfl rfl (O.move (v := (.pointer (some ⟨bp, 0, none⟩))) rfl rfl ?_)
  refine SeqOps.put 25 rfl rfl rfl (O.call (fid := 95) (cap := #[]) (args := [(.pointer (some ⟨bp, 0, none⟩)), (.func (.func 79) #[] #[])]) rfl rfl rfl Tryz.func95 rfl rfl ?_)
  refine Calls.mono (all_Tx_calls hp8 (by have := hrle b8 (by simp); omega)) ?_
  rintro e wm9 ⟨M9, v8_, rfl, nm9, hM9, hp9, ⟨⟨ao8, n8, cap8, rfl⟩, hy8⟩⟩
  have nn9 := nn8.trans nm9 (fun i hi => ⟨.inl (by subst hi; have := hE0.size; omega), by subst hi; exact hp8.outN⟩)
  have hkr9 := nm9.st.chg.blk hkr8 hbrp
  have hr9 : Hm (Hm (Hm (Hm (Hm (Hm (Hm (Hm (Hm N0 M1) M2) M3) M4) M5) M6) M7) M8) M9 br = none := Hm.none hr8 (by rw [nm9.st.low br (blk_lt hkr8)])
  have hle9 : Hle (Hm (Hm (Hm (Hm (Hm (Hm (Hm (Hm N0 M1) M2) M3) M4) M5) M6) M7) M8) (Hm (Hm (Hm (Hm (Hm (Hm (Hm (Hm (Hm N0 M1) M2) M3) M4) M5) M6) M7) M8) M9) := nn8.le1 nm9
  refine ⟨_, rfl, ?_⟩
  obtain ⟨q, hq⟩ : ∃ q : VMessage, q = ⟨f0, f1, f2, f3, (.slice ao4 n4 cap4), (.slice ao5 n5 cap5), (.slice ao6 n6 cap6), (.slice ao7 n7 cap7), (.slice ao8 n8 cap8)⟩ := ⟨_, rfl⟩
  refine SeqOps.put 26 rfl rfl rfl (O.build (vps := [(0, (.int .i64 (f0))), (1, (.int .i64 (f1))), (2, (.int .i64 (f2))), (3, (.agg (List.toArray (digC f3)))), (4, (.slice ao4 n4 cap4)), (5, (.slice ao5 n5 cap5)), (6, (.slice ao6 n6 cap6)), (7, (.slice ao7 n7 cap7)), (8, (.slice ao8 n8 cap8))]) (cells := (VMessage.cells ⟨f0, f1, f2, f3, (.slice ao4 n4 cap4), (.slice ao5 n5 cap5), (.slice ao6 n6 cap6), (.slice ao7 n7 cap7), (.slice ao8 n8 cap8)⟩)) rfl rfl (by kernel_rfl) ?_)
  rw [← hq]
  have hqok : q.ok := by rw [hq]; exact ⟨rfl, rfl, rfl, rfl, rfl⟩
  refine SeqOps.put 5 rfl rfl rfl (O.alloc rfl zr36 ?_)
  intro bq wa hbq hbq1 hEa hkq0
  refine SeqOps.eff rfl rfl (O.store (b := bq) (off := 0) (v := .agg (List.toArray q.cells)) (n := 40) (c' := q.cells.toArray) rfl rfl rfl hkq0 sz36 rfl (by decide) (VMessage.one hqok) rfl ?_)
  intro wq hCq hkq
  have hEq : Ext wm9 wq := hEa.trans_new hCq fun i hi => .inl (by omega)
  have hpq := hp9.ext hEq
  have hkrq := Ext.blk hEq hkr9
  have hqr : bq ≠ br := by have := blk_lt hkr9; omega
  have hpr : bp ≠ br := Ne.symm hbrp
  obtain ⟨lv, ev, hkp, hevf, hev⟩ := hpq.final
  skip
  refine SeqOps.nil ?_
  refine hK3 _ _ ?_
  try clear hK3 K3
  refine W.seq fun K4 hK4 => ?_
  obtain ⟨obj, hobj⟩ : ∃ o, o = Obj.cells q.cells.toArray 36 (0, 0) := ⟨_, rfl⟩
  refine W.region_any (by kernel_rfl) (by kernel_rfl) [27, 28, 29, 30, 31, 3] rfl (fun a b => RStoreC br (.cells q.cells.toArray 36 (0, 0)) 40 36 a b) (fun _ => RStoreC.refl _ _ _ _ _) (fun h k => RStoreC.trans h k) [
      (fun (u : Value) (_ : World) => u = .agg (List.toArray q.cells)),
      (fun (u : Value) (_ : World) => u = Value.pointer (some ⟨bp, 0, none⟩)),
      (fun (u : Value) (_ : World) => u = Value.pointer (some ⟨bp, 0, none⟩)),
      (fun (u : Value) (_ : World) => u = Value.pointer (some ⟨bp, 1, none⟩)),
      (fun (u : Value) (_ : World) => u = ev),
      (fun (_ : Value) (w : World) => w.heap[br]? = some (.cells q.cells.toArray 36 (0, 0))),
      (fun (u : Value) (_ : World) => u = ev)
    ] ⟨fun _ _ _ _ h => h, fun _ _ _ _ h => h, fun _ _ _ _ h => h, fun _ _ _ _ h => h, fun _ _ _ _ h => h, fun _ _ _ hE h => hE.2.1 h, fun _ _ _ _ h => h, trivial⟩ ⟨?_, ?_, ?_, ?_, ?_, ?_, ?_, trivial⟩ ?_
  · intro g w1 hR hf hd
    have h1 : g 5 = .pointer (some ⟨bq, 0, none⟩) := hf 5 (by decide)
    have hb1 := Chg.blk hR.1 (show wq.drew.heap[bq]? = _ from hkq) hqr
    exact StepT.plain rfl (O.loadBlk (b := bq) (off := 0) (cs := q.cells) rfl h1 hb1 Tryz.underlying36 rfl sz36 rfl ⟨RStoreC.refl _ _ _ _ _, rfl⟩)
  · intro g w1 hR hf hd
    have h1 : g 4 = Value.pointer (some ⟨bp, 0, none⟩) := hf 4 (by decide)
    exact StepT.plain rfl (O.move (v := Value.pointer (some ⟨bp, 0, none⟩)) rfl h1 ⟨RStoreC.refl _ _ _ _ _, rfl⟩)
  · intro g w1 hR hf hd
    have h1 : (fun (u : Value) (_ : World) => u = Value.pointer (some ⟨bp, 0, none⟩)) (g 28) w1 := hd.1 rfl
    exact StepT.plain rfl (O.nilCheckPtr (a := ⟨bp, 0, none⟩) rfl h1 ⟨RStoreC.refl _ _ _ _ _, rfl⟩)
  · intro g w1 hR hf hd
    have h1 : (fun (u : Value) (_ : World) => u = Value.pointer (some ⟨bp, 0, none⟩)) (g 29) w1 := hd.1 rfl
    exact StepT.plain rfl (O.fieldAddr (a := ⟨bp, 0, none⟩) (v := Value.pointer (some ⟨bp, 1, none⟩)) rfl h1 Tryz.underlying177 rfl (by kernel_rfl) rfl ⟨RStoreC.refl _ _ _ _ _, rfl⟩)
  · intro g w1 hR hf hd
    have h1 : (fun (u : Value) (_ : World) => u = Value.pointer (some ⟨bp, 1, none⟩)) (g 30) w1 := hd.1 rfl
    have hb1 := Chg.blk hR.1 (show wq.drew.heap[bp]? = _ from hkp) hpr
    exact StepT.plain rfl (O.loadBlk1 (b := bp) (off := 1) (v := ev) rfl h1 hb1 Tryz.underlying162 rfl rfl ⟨RStoreC.refl _ _ _ _ _, rfl⟩)
  · intro g w1 hR hf hd
    have h1 : g 2 = .pointer (some ⟨br, 0, none⟩) := hf 2 (by decide)
    have h2 : g 27 = .agg (List.toArray q.cells) := hd.1 rfl
    obtain ⟨cr, hcr, hk⟩ := hR.2.2 ⟨_, rfl, show wq.drew.heap[br]? = _ from hkrq⟩
    refine StepT.plain rfl (O.store (b := br) (off := 0) (v := .agg (List.toArray q.cells)) (n := 40) (c' := q.cells.toArray) rfl h1 h2 hk sz36 rfl (by rw [Nat.zero_add, hcr]; exact Nat.le_refl _) (VMessage.one hqok) (by simp [Value.cells, VMessage.length, hcr]) ?_)
    intro w2 hC hk2
    exact ⟨⟨hC, fun _ => hk2, fun _ => ⟨_, VMessage.length q, hk2⟩⟩, hk2⟩
  · intro g w1 hR hf hd
    have h1 : g 31 = ev := hd.1 rfl
    exact StepT.plain rfl (O.assign (v := ev) rfl h1 ⟨RStoreC.refl _ _ _ _ _, rfl⟩)
  intro g w9 hR hf hall
  have hf5 := hall.2.2.2.2.2.1
  have hf6 := hall.2.2.2.2.2.2.1
  refine hK4 _ _ ?_
  try clear hK4 K4
  refine W.ret ?_
  have n9 := ((nn9.new hEq).new (Ext.drew wq)).step hR.1 (fun i hi => ⟨.inl (by omega), by subst hi; exact hr9⟩)
  refine retQ_cell2 (b := br) (cs := q.cells) rfl (hf 2 (by decide)) hf6 hf5 Tryz.underlying36 rfl sz36 ⟨_, _, _, rfl, n9, ⟨q, rfl, hqok⟩, ?_⟩
  rcases hev with ⟨hok, rfl⟩ | ⟨hok, he⟩
  · simp only [Bool.and_eq_true] at hok
    obtain ⟨⟨⟨⟨⟨⟨⟨⟨⟨hok0, hs0⟩, hs1⟩, hs2⟩, hs3⟩, hs4⟩, hs5⟩, hs6⟩, hs7⟩, hs8⟩ := hok
    obtain ⟨y0, hd0⟩ := Option.isSome_iff_exists.1 hs0
    obtain ⟨y1, hd1⟩ := Option.isSome_iff_exists.1 hs1
    obtain ⟨y2, hd2⟩ := Option.isSome_iff_exists.1 hs2
    obtain ⟨y3, hd3⟩ := Option.isSome_iff_exists.1 hs3
    obtain ⟨y4, hd4⟩ := Option.isSome_iff_exists.1 hs4
    obtain ⟨y5, hd5⟩ := Option.isSome_iff_exists.1 hs5
    obtain ⟨y6, hd6⟩ := Option.isSome_iff_exists.1 hs6
    obtain ⟨y7, hd7⟩ := Option.isSome_iff_exists.1 hs7
    obtain ⟨y8, hd8⟩ := Option.isSome_iff_exists.1 hs8
    refine .inl ⟨⟨y0, y1, y2, y3, y4, y5, y6, y7, y8⟩, ?_, rfl, q, rfl, ?_⟩
    · unfold dMessage; rw [hok1 hok0]; exact dMessageL_some hd0 hd1 hd2 hd3 hd4 hd5 hd6 hd7 hd8
    · rw [hq]; exact ⟨⟨hy0 _ hd0, by rw [← hy0 _ hd0]; exact hrng0⟩, ⟨hy1 _ hd1, by rw [← hy1 _ hd1]; exact hrng1⟩, ⟨hy2 _ hd2, by rw [← hy2 _ hd2]; exact hrng2⟩, hy3 _ hd3, RL.mono (R := cBlock) cBlock.mono (hy4 _ hd4) (((((Hm.right _ M5).trans hle6).trans hle7).trans hle8).trans hle9), RL.mono (R := cVote) cVote.mono (hy5 _ hd5) ((((Hm.right _ M6).trans hle7).trans hle8).trans hle9), RL.mono (R := cTimeout) cTimeout.mono (hy6 _ hd6) (((Hm.right _ M7).trans hle8).trans hle9), RL.mono (R := cCommit) cCommit.mono (hy7 _ hd7) ((Hm.right _ M8).trans hle9), RL.mono (R := cTx) cTx.mono (hy8 _ hd8) (Hm.right _ M9)⟩
  · refine .inr ⟨?_, he⟩
    cases hokS : okS with
    | false =>
      unfold dMessage
      cases hs : split bs with
      | none => rfl
      | some l => exact dMessageL_len (hok2 hokS l hs)
    | true =>
      unfold dMessage
      rw [hok1 hokS]
      have hiss := dMessageL_isSome b0 b1 b2 b3 b4 b5 b6 b7 b8
      rw [hokS] at hok; simp only [Bool.true_and] at hok hiss
      rw [hok] at hiss
      simpa using hiss

end Go.Proofs.YtddpmpbngcbokaaGreatDoor

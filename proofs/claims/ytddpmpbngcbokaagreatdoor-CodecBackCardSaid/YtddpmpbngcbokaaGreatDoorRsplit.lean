/- codec's split. -/
import Derived.Test.YtddpmpbngcbokaaGreatDoorParts2
namespace Go.Proofs.YtddpmpbngcbokaaGreatDoor
open Go Go.RowKit
set_option maxRecDepth 100000


def nils (n : Nat) : List Value := List.replicate n (.slice none 0 0)
theorem madeNils (n : Nat) : (madeCells (Value.cells (.slice none 0 0)) (n * 1)).toList = nils n := by
  apply List.ext_getElem
  · simp [madeCells, nils]
  · intro i h1 h2
    have : Value.cells (.slice none 0 0) = #[.slice none 0 0] := rfl
    simp [madeCells, nils, this, Nat.mod_one]
theorem nils_all2 (H : Heap) : ∀ n, All2 (RB H) (nils n) (List.replicate n [])
  | 0 => .nil
  | n + 1 => .cons (RS.nil H) (nils_all2 H n)
/-- What 'split' answers: the pointer to the parts. -/
def RetSplitP (a : Addr) (H : Heap) (w : World) (bs : List UInt8) (n : Nat) : Ending → World → Prop :=
  fun e w' => ∃ N bp rem ok, e = .returned (.pointer (some ⟨bp, 0, none⟩)) ∧ New w NoX N w' ∧ w.heap.size ≤ bp ∧ PS a (Hm H N) N w' bp rem ok ∧ rem.length = n ∧ (ok = true → split bs = some rem) ∧ (ok = false → ∀ l, split bs = some l → l.length ≠ n) ∧ (∀ p ∈ rem, p.length ≤ bs.length)
theorem split_parts_le {bs : List UInt8} {l : List (List UInt8)} (h : split bs = some l) : ∀ p ∈ l, p.length ≤ bs.length := fun p hp => by
  have h1 := elem_le_joinTail l p hp
  have h2 := join_length l
  rw [split_join h] at h2
  omega
theorem split_calls {a : Addr} {H : Heap} {w : World} {v : Value} {bs wh : List UInt8} {n : Nat} (hA : Agr H w) (hG : hcell H ⟨1, 0, none⟩ = some (eS a)) (r : RB H v bs) (hlen : bs.length ≤ 1099511627776) (hn : n ≤ 1000) :
    Calls Tryz.prog 87 #[v, .int .i64 (n : Int), strOf wh] w (RetSplitP a H w bs n) := by
  cases hsp : split bs with
  | none =>
    refine calls_of_W (n := 34) Tryz.func87 rfl Tryz.ntmps87 (Nat.le_of_ble_eq_true rfl) ?_
    refine W.seq fun K1 hK1 => ?_
    refine W.region ?_
    refine SeqOps.put 6 rfl rfl rfl (O.assign (v := (.pointer none)) rfl rfl ?_)
    refine SeqOps.nil ?_
    refine hK1 _ _ ?_
    try clear hK1 K1
    refine W.seq fun K2 hK2 => ?_
    refine W.region ?_
    refine SeqOps.put 10 rfl rfl rfl (O.move (v := v) rfl rfl ?_)
    refine SeqOps.put 11 rfl rfl rfl (O.call (fid := 123) (cap := #[]) (args := [v]) rfl rfl rfl Tryz.func123 rfl rfl ?_)
    refine Calls.mono (Split_calls hA r hlen) ?_
    rintro e wS ⟨N, v1, st, hres⟩
    have hA1 := st.agr hA
    obtain ⟨rfl, rfl⟩ : v1 = .slice none 0 0 ∧ e = .returned (.tuple #[v1, .bool false]) := by rcases hres with ⟨l, h1, _⟩ | ⟨_, h2, h3⟩ <;> first | exact ⟨h2, h3⟩ | (rw [hsp] at h1; cases h1; done)
    refine ⟨_, rfl, ?_⟩
    refine SeqOps.put 9 rfl rfl rfl (O.move (v := (.tuple #[(.slice none 0 0), (.bool (false))])) rfl rfl ?_)
    refine SeqOps.put 12 rfl rfl rfl (O.extract (v := (.slice none 0 0)) rfl rfl rfl ?_)
    refine SeqOps.put 13 rfl rfl rfl (O.extract (v := (.bool (false))) rfl rfl rfl ?_)
    refine SeqOps.put 7 rfl rfl rfl (O.assign (v := (.slice none 0 0)) rfl rfl ?_)
    refine SeqOps.put 8 rfl rfl rfl (O.assign (v := (.bool (false))) rfl rfl ?_)
    refine SeqOps.nil ?_
    refine hK2 _ _ ?_
    try clear hK2 K2
    refine W.seq fun K3 hK3 => ?_
    refine W.seq fun K4 hK4 => ?_
    refine W.region ?_
    refine SeqOps.put 14 rfl rfl rfl (O.move (v := (.bool (false))) rfl rfl ?_)
    refine SeqOps.put 15 rfl rfl rfl (O.not (b := false) rfl rfl ?_)
    refine SeqOps.put 16 rfl rfl rfl (O.move (v := (.bool (true))) rfl rfl ?_)
    refine SeqOps.put_off 17 rfl rfl rfl rfl rfl ?_
    refine SeqOps.put_off 18 rfl rfl rfl rfl rfl ?_
    refine SeqOps.put_off 19 rfl rfl rfl rfl rfl ?_
    refine SeqOps.put_off 20 rfl rfl rfl rfl rfl ?_
    refine SeqOps.put 21 rfl rfl rfl (O.pick (b := true) (v := (.bool (true))) rfl rfl rfl ?_)
    refine SeqOps.nil ?_
    refine hK4 _ _ ?_
    try clear hK4 K4
    refine W.cond_true rfl ?_
    refine W.seq fun K5 hK5 => ?_
    refine W.region_any (by kernel_rfl) (by kernel_rfl) [22, 23, 24, 25, 26, 27, 28, 29, 30, 6] rfl (fun a b => Ext a b) (fun _ => Chg.refl _ _) (fun h k => Chg.trans h k) [
        (fun (u : Value) (_ : World) => u = Value.int .i64 (n : Int)),
        (fun (u : Value) (w : World) => Own NH w wS.heap.size 22 1 u n (nils n)),
        (fun (u : Value) (_ : World) => u = strOf wh),
        (fun (u : Value) (_ : World) => u = eS a),
        (fun (u : Value) (_ : World) => u = .agg (List.toArray [strOf wh, eS a])),
        (fun (u : Value) (w : World) => ∃ b, u = .pointer (some ⟨b, 0, none⟩) ∧ wS.heap.size ≤ b ∧ w.heap[b]? = some (.cells #[strOf wh, eS a] 164 (0, 0))),
        (fun (u : Value) (w : World) => ∃ b, u = .iface 160 (.pointer (some ⟨b, 0, none⟩)) ∧ wS.heap.size ≤ b ∧ w.heap[b]? = some (.cells #[strOf wh, eS a] 164 (0, 0))),
        (fun (u : Value) (w : World) => ∃ b lv, u = .agg (List.toArray [lv, .iface 160 (.pointer (some ⟨b, 0, none⟩))]) ∧ Own NH w wS.heap.size 22 1 lv n (nils n) ∧ wS.heap.size ≤ b ∧ w.heap[b]? = some (.cells #[strOf wh, eS a] 164 (0, 0))),
        (fun (u : Value) (w : World) => ∃ bp b lv, u = .pointer (some ⟨bp, 0, none⟩) ∧ wS.heap.size ≤ bp ∧ w.heap[bp]? = some (.cells #[lv, .iface 160 (.pointer (some ⟨b, 0, none⟩))] 177 (0, 0)) ∧ Own NH w wS.heap.size 22 1 lv n (nils n) ∧ wS.heap.size ≤ b ∧ w.heap[b]? = some (.cells #[strOf wh, eS a] 164 (0, 0))),
        (fun (u : Value) (w : World) => ∃ bp b lv, u = .pointer (some ⟨bp, 0, none⟩) ∧ wS.heap.size ≤ bp ∧ w.heap[bp]? = some (.cells #[lv, .iface 160 (.pointer (some ⟨b, 0, none⟩))] 177 (0, 0)) ∧ Own NH w wS.heap.size 22 1 lv n (nils n) ∧ wS.heap.size ≤ b ∧ w.heap[b]? = some (.cells #[strOf wh, eS a] 164 (0, 0)))
      ] ⟨fun _ _ _ _ h => h, fun _ _ _ hE h => Own.ext h hE, fun _ _ _ _ h => h, fun _ _ _ _ h => h, fun _ _ _ _ h => h, fun _ _ _ hE h => by obtain ⟨b, h1, h2, h3⟩ := h; exact ⟨b, h1, h2, Ext.blk hE h3⟩, fun _ _ _ hE h => by obtain ⟨b, h1, h2, h3⟩ := h; exact ⟨b, h1, h2, Ext.blk hE h3⟩, fun _ _ _ hE h => by obtain ⟨b, lv, h1, h2, h3, h4⟩ := h; exact ⟨b, lv, h1, Own.ext h2 hE, h3, Ext.blk hE h4⟩, fun _ _ _ hE h => by obtain ⟨bp, b, lv, h0, h1, h2, h3, h4, h5⟩ := h; exact ⟨bp, b, lv, h0, h1, Ext.blk hE h2, Own.ext h3 hE, h4, Ext.blk hE h5⟩, fun _ _ _ hE h => by obtain ⟨bp, b, lv, h0, h1, h2, h3, h4, h5⟩ := h; exact ⟨bp, b, lv, h0, h1, Ext.blk hE h2, Own.ext h3 hE, h4, Ext.blk hE h5⟩, trivial⟩ ⟨?_, ?_, ?_, ?_, ?_, ?_, ?_, ?_, ?_, ?_, trivial⟩ ?_
    · intro g w1 hR hf hd
      have h1 : g 1 = Value.int .i64 (n : Int) := hf 1 (by decide)
      exact StepT.plain rfl (O.move (v := Value.int .i64 (n : Int)) rfl h1 ⟨Chg.refl _ _, rfl⟩)
    · intro g w1 hR hf hd
      have h1 : (fun (u : Value) (_ : World) => u = Value.int .i64 (n : Int)) (g 22) w1 := hd.1 rfl
      refine StepT.plain rfl (O.makeSlice (H := NH) (n := n) rfl h1 h1 Tryz.underlying133 inf22 (by omega) (by simp only [maxLen]; omega) (Agr.NH _) (by intro u hu; simp [Value.cells] at hu; subst hu; rfl) (by decide) ?_)
      intro b2 w2 hb2 hE2 own2
      rw [madeNils] at own2
      exact ⟨hE2, own2.lower hR.size⟩
    · intro g w1 hR hf hd
      have h1 : g 2 = strOf wh := hf 2 (by decide)
      exact StepT.plain rfl (O.move (v := strOf wh) rfl h1 ⟨Chg.refl _ _, rfl⟩)
    · intro g w1 hR hf hd
      exact StepT.plain rfl (O.loadOne (a := ⟨1, 0, none⟩) (v := eS a) rfl rfl Tryz.underlying162 rfl ((Ext.agr hR (show Agr H wS.drew from hA1)).cell hG) ⟨Chg.refl _ _, rfl⟩)
    · intro g w1 hR hf hd
      have h1 : (fun (u : Value) (_ : World) => u = strOf wh) (g 24) w1 := hd.1 rfl
      have h2 : (fun (u : Value) (_ : World) => u = eS a) (g 25) w1 := hd.2.1 rfl
      exact StepT.plain rfl (O.build (vps := [(0, strOf wh), (1, eS a)]) (cells := [strOf wh, eS a]) rfl (by show [(0, g 24), (1, g 25)] = _; rw [h1, h2]) (by kernel_rfl) ⟨Chg.refl _ _, rfl⟩)
    · intro g w1 hR hf hd
      have h1 : (fun (u : Value) (_ : World) => u = .agg (List.toArray [strOf wh, eS a])) (g 26) w1 := hd.1 rfl
      refine StepT.plain rfl (O.box (v := .agg (List.toArray [strOf wh, eS a])) rfl h1 ?_)
      intro b2 w2 hb2 hb21 hE2 hk2
      exact ⟨hE2, b2, rfl, Nat.le_trans hR.size hb2, hk2⟩
    · intro g w1 hR hf hd
      have h0 : (fun (u : Value) (w : World) => ∃ b, u = .pointer (some ⟨b, 0, none⟩) ∧ wS.heap.size ≤ b ∧ w.heap[b]? = some (.cells #[strOf wh, eS a] 164 (0, 0))) (g 27) w1 := hd.1 rfl
      obtain ⟨b, h1, hb, hk⟩ := h0
      exact StepT.plain rfl (O.makeIface (v := .pointer (some ⟨b, 0, none⟩)) rfl h1 Tryz.underlying160 rfl ⟨Chg.refl _ _, b, rfl, hb, hk⟩)
    · intro g w1 hR hf hd
      have h1 : (fun (u : Value) (w : World) => Own NH w wS.heap.size 22 1 u n (nils n)) (g 23) w1 := hd.1 rfl
      have h0 : (fun (u : Value) (w : World) => ∃ b, u = .iface 160 (.pointer (some ⟨b, 0, none⟩)) ∧ wS.heap.size ≤ b ∧ w.heap[b]? = some (.cells #[strOf wh, eS a] 164 (0, 0))) (g 28) w1 := hd.2.1 rfl
      obtain ⟨b, h2, hb, hk⟩ := h0
      obtain ⟨ao9, cap9, h9⟩ := Own.form h1
      have h1o : Own NH w1 wS.heap.size 22 1 (Value.slice ao9 n cap9) n (nils n) := by rw [← h9]; exact h1
      exact StepT.plain rfl (O.build (vps := [(0, .slice ao9 n cap9), (1, .iface 160 (.pointer (some ⟨b, 0, none⟩)))]) (cells := [.slice ao9 n cap9, .iface 160 (.pointer (some ⟨b, 0, none⟩))]) rfl (by show [(0, g 23), (1, g 28)] = _; rw [h9, h2]) (by kernel_rfl) ⟨Chg.refl _ _, b, _, rfl, h1o, hb, hk⟩)
    · intro g w1 hR hf hd
      have h0 : (fun (u : Value) (w : World) => ∃ b lv, u = .agg (List.toArray [lv, .iface 160 (.pointer (some ⟨b, 0, none⟩))]) ∧ Own NH w wS.heap.size 22 1 lv n (nils n) ∧ wS.heap.size ≤ b ∧ w.heap[b]? = some (.cells #[strOf wh, eS a] 164 (0, 0))) (g 29) w1 := hd.1 rfl
      obtain ⟨b, lv, h1, h2, hb, hk⟩ := h0
      refine StepT.plain rfl (O.box (v := .agg (List.toArray [lv, .iface 160 (.pointer (some ⟨b, 0, none⟩))])) rfl h1 ?_)
      intro b2 w2 hb2 hb21 hE2 hk2
      exact ⟨hE2, b2, b, lv, rfl, Nat.le_trans hR.size hb2, hk2, Own.ext h2 hE2, hb, Ext.blk hE2 hk⟩
    · intro g w1 hR hf hd
      have h1 : (fun (u : Value) (w : World) => ∃ bp b lv, u = .pointer (some ⟨bp, 0, none⟩) ∧ wS.heap.size ≤ bp ∧ w.heap[bp]? = some (.cells #[lv, .iface 160 (.pointer (some ⟨b, 0, none⟩))] 177 (0, 0)) ∧ Own NH w wS.heap.size 22 1 lv n (nils n) ∧ wS.heap.size ≤ b ∧ w.heap[b]? = some (.cells #[strOf wh, eS a] 164 (0, 0))) (g 30) w1 := hd.1 rfl
      exact StepT.plain rfl (O.assign (v := g 30) rfl rfl ⟨Chg.refl _ _, h1⟩)
    intro g w2 hR hf hall
    have hfin := hall.2.2.2.2.2.2.2.2.2.1
    refine hK5 _ _ ?_
    try clear hK5 K5
    refine W.ret ?_
    obtain ⟨bp, b, lv, e6, hbp, hkp, own, hb, hkb⟩ := hfin
    have hE : Ext w w2 := st.st.chg.trans (Chg.trans (Ext.drew wS) hR)
    have nb := ((New.start w NoX).new hE).add hkb rfl (Nat.le_trans st.st.chg.size hb)
    have hlvb : ∀ j, lv.ownBlock = some j → j ≠ b := fun j hj e => by
      rcases own.row.2 with ⟨h2, _⟩ | ⟨g0, c0, cur, h2, _, hh, _⟩
      · rw [h2] at hj; simp [Value.ownBlock] at hj
      · rw [h2] at hj; simp [Value.ownBlock] at hj; subst hj; subst e; rw [hkb] at hh; cases hh
    have hlvp : ∀ j, lv.ownBlock = some j → j ≠ bp := fun j hj e => by
      rcases own.row.2 with ⟨h2, _⟩ | ⟨g0, c0, cur, h2, _, hh, _⟩
      · rw [h2] at hj; simp [Value.ownBlock] at hj
      · rw [h2] at hj; simp [Value.ownBlock] at hj; subst hj; subst e; rw [hkp] at hh; cases hh
    have hbbp : bp ≠ b := fun e => by rw [e] at hkp; rw [hkp] at hkb; cases hkb
    obtain ⟨N2, hle, n2, hsame, rs2⟩ := (own.heap (H' := Hadd NH b _) fun j hj => by rw [Hadd_ne _ _ (hlvb j hj)]).join nb st.st.chg.size
    have hN2p : N2 bp = none := by rw [hsame bp fun e => hlvp bp e rfl, Hadd_ne _ _ hbbp]
    have hHp : H bp = none := hA.none (Nat.le_trans st.st.chg.size hbp)
    refine retQ_one rfl e6 ⟨N2, bp, List.replicate n [], false, rfl, n2, Nat.le_trans st.st.chg.size hbp, ⟨⟨lv, _, hkp, ⟨nils n, nils_all2 _ n, by rw [List.length_replicate]; exact rs2.mono (Hm.right _ _)⟩, .inr ⟨rfl, .base (hle _ _ (Hadd_same _ _ _))⟩⟩, Hm.agr (Ext.agr hE hA) n2.st.agr, n2.st.agr, Hm.none hHp hN2p, hN2p, (Hm.left hA n2).cell hG⟩, by simp, by simp, ?_, fun p hp => by rw [List.eq_of_mem_replicate hp]; simp⟩
    intro _ l2 hl2
    rw [hsp] at hl2; cases hl2
  | some l =>
    by_cases hln : l.length = n
    · refine calls_of_W (n := 34) Tryz.func87 rfl Tryz.ntmps87 (Nat.le_of_ble_eq_true rfl) ?_
      refine W.seq fun K1 hK1 => ?_
      refine W.region ?_
      refine SeqOps.put 6 rfl rfl rfl (O.assign (v := (.pointer none)) rfl rfl ?_)
      refine SeqOps.nil ?_
      refine hK1 _ _ ?_
      try clear hK1 K1
      refine W.seq fun K2 hK2 => ?_
      refine W.region ?_
      refine SeqOps.put 10 rfl rfl rfl (O.move (v := v) rfl rfl ?_)
      refine SeqOps.put 11 rfl rfl rfl (O.call (fid := 123) (cap := #[]) (args := [v]) rfl rfl rfl Tryz.func123 rfl rfl ?_)
      refine Calls.mono (Split_calls hA r hlen) ?_
      rintro e wS ⟨N, v1, st, hres⟩
      have hA1 := st.agr hA
      obtain ⟨rfl, hl⟩ : e = .returned (.tuple #[v1, .bool true]) ∧ RBB N v1 l := by rcases hres with ⟨l', h1, h2, h3⟩ | ⟨h1, _⟩ <;> first | (rw [hsp] at h1; cases h1; exact ⟨h2, h3⟩) | (rw [hsp] at h1; cases h1; done)
      obtain ⟨ao, cap, rfl⟩ : ∃ ao cap, v1 = .slice ao l.length cap := by obtain ⟨vs, _, rs⟩ := hl; exact rs.form
      refine ⟨_, rfl, ?_⟩
      refine SeqOps.put 9 rfl rfl rfl (O.move (v := (.tuple #[(.slice ao l.length cap), (.bool (true))])) rfl rfl ?_)
      refine SeqOps.put 12 rfl rfl rfl (O.extract (v := (.slice ao l.length cap)) rfl rfl rfl ?_)
      refine SeqOps.put 13 rfl rfl rfl (O.extract (v := (.bool (true))) rfl rfl rfl ?_)
      refine SeqOps.put 7 rfl rfl rfl (O.assign (v := (.slice ao l.length cap)) rfl rfl ?_)
      refine SeqOps.put 8 rfl rfl rfl (O.assign (v := (.bool (true))) rfl rfl ?_)
      refine SeqOps.nil ?_
      refine hK2 _ _ ?_
      try clear hK2 K2
      refine W.seq fun K3 hK3 => ?_
      refine W.seq fun K4 hK4 => ?_
      refine W.region ?_
      refine SeqOps.put 14 rfl rfl rfl (O.move (v := (.bool (true))) rfl rfl ?_)
      refine SeqOps.put 15 rfl rfl rfl (O.not (b := true) rfl rfl ?_)
      refine SeqOps.put 16 rfl rfl rfl (O.move (v := (.bool (false))) rfl rfl ?_)
      refine SeqOps.put_on 17 rfl rfl rfl rfl (O.move (v := (.slice ao l.length cap)) rfl rfl ?_)
      refine SeqOps.put_on 18 rfl rfl rfl rfl (O.lenSlice (ad := ao) (n := l.length) (c := cap) rfl rfl Tryz.underlying133 ?_)
      refine SeqOps.put_on 19 rfl rfl rfl rfl (O.move (v := (.int .i64 ((n : Int)))) rfl rfl ?_)
      refine SeqOps.put_on 20 rfl rfl rfl rfl (O.cmp (a := ((l.length : Nat) : Int)) (b := (n : Int)) (r := false) rfl rfl rfl (by simp [cmpI]; omega) ?_)
      refine SeqOps.put 21 rfl rfl rfl (O.pick (b := false) (v := (.bool (false))) rfl rfl rfl ?_)
      refine SeqOps.nil ?_
      refine hK4 _ _ ?_
      try clear hK4 K4
      refine W.cond_false rfl ?_
      refine W.skip ?_
      refine hK3 _ _ ?_
      try clear hK3 K3
      refine W.seq fun K5 hK5 => ?_
      refine W.region ?_
      refine SeqOps.put 31 rfl rfl rfl (O.move (v := (.slice ao l.length cap)) rfl rfl ?_)
      refine SeqOps.put 32 rfl rfl rfl (O.build (vps := [(0, .slice ao l.length cap), (1, .nilIface)]) (cells := [.slice ao l.length cap, .nilIface]) rfl rfl (by kernel_rfl) ?_)
      refine SeqOps.put 33 rfl rfl rfl (O.box (v := (.agg (List.toArray ([.slice ao l.length cap, .nilIface])))) rfl rfl ?_)
      intro bp w2 hbp hbp1 hE2 hkp
      refine SeqOps.put 6 rfl rfl rfl (O.assign (v := (.pointer (some ⟨bp, 0, none⟩))) rfl rfl ?_)
      refine SeqOps.nil ?_
      refine hK5 _ _ ?_
      try clear hK5 K5
      refine W.ret ?_
      have n2 := st.new hE2
      have hNp : N bp = none := st.st.agr.none hbp
      have hHp : H bp = none := hA1.none hbp
      exact retQ_one rfl rfl ⟨N, bp, l, true, rfl, n2, Nat.le_trans st.st.chg.size hbp, ⟨⟨_, _, hkp, hl.mono (Hm.right _ _), .inl ⟨rfl, rfl⟩⟩, Hm.agr (Ext.agr hE2 hA1) n2.st.agr, n2.st.agr, Hm.none hHp hNp, hNp, (Hm.left hA st).cell hG⟩, hln, fun _ => hsp, by simp, split_parts_le hsp⟩
    · refine calls_of_W (n := 34) Tryz.func87 rfl Tryz.ntmps87 (Nat.le_of_ble_eq_true rfl) ?_
      refine W.seq fun K6 hK6 => ?_
      refine W.region ?_
      refine SeqOps.put 6 rfl rfl rfl (O.assign (v := (.pointer none)) rfl rfl ?_)
      refine SeqOps.nil ?_
      refine hK6 _ _ ?_
      try clear hK6 K6
      refine W.seq fun K7 hK7 => ?_
      refine W.region ?_
      refine SeqOps.put 10 rfl rfl rfl (O.move (v := v) rfl rfl ?_)
      refine SeqOps.put 11 rfl rfl rfl (O.call (fid := 123) (cap := #[]) (args := [v]) rfl rfl rfl Tryz.func123 rfl rfl ?_)
      refine Calls.mono (Split_calls hA r hlen) ?_
      rintro e wS ⟨N, v1, st, hres⟩
      have hA1 := st.agr hA
      obtain ⟨rfl, hl⟩ : e = .returned (.tuple #[v1, .bool true]) ∧ RBB N v1 l := by rcases hres with ⟨l', h1, h2, h3⟩ | ⟨h1, _⟩ <;> first | (rw [hsp] at h1; cases h1; exact ⟨h2, h3⟩) | (rw [hsp] at h1; cases h1; done)
      obtain ⟨ao, cap, rfl⟩ : ∃ ao cap, v1 = .slice ao l.length cap := by obtain ⟨vs, _, rs⟩ := hl; exact rs.form
      refine ⟨_, rfl, ?_⟩
      refine SeqOps.put 9 rfl rfl rfl (O.move (v := (.tuple #[(.slice ao l.length cap), (.bool (true))])) rfl rfl ?_)
      refine SeqOps.put 12 rfl rfl rfl (O.extract (v := (.slice ao l.length cap)) rfl rfl rfl ?_)
      refine SeqOps.put 13 rfl rfl rfl (O.extract (v := (.bool (true))) rfl rfl rfl ?_)
      refine SeqOps.put 7 rfl rfl rfl (O.assign (v := (.slice ao l.length cap)) rfl rfl ?_)
      refine SeqOps.put 8 rfl rfl rfl (O.assign (v := (.bool (true))) rfl rfl ?_)
      refine SeqOps.nil ?_
      refine hK7 _ _ ?_
      try clear hK7 K7
      refine W.seq fun K8 hK8 => ?_
      refine W.seq fun K9 hK9 => ?_
      refine W.region ?_
      refine SeqOps.put 14 rfl rfl rfl (O.move (v := (.bool (true))) rfl rfl ?_)
      refine SeqOps.put 15 rfl rfl rfl (O.not (b := true) rfl rfl ?_)
      refine SeqOps.put 16 rfl rfl rfl (O.move (v := (.bool (false))) rfl rfl ?_)
      refine SeqOps.put_on 17 rfl rfl rfl rfl (O.move (v := (.slice ao l.length cap)) rfl rfl ?_)
      refine SeqOps.put_on 18 rfl rfl rfl rfl (O.lenSlice (ad := ao) (n := l.length) (c := cap) rfl rfl Tryz.underlying133 ?_)
      refine SeqOps.put_on 19 rfl rfl rfl rfl (O.move (v := (.int .i64 ((n : Int)))) rfl rfl ?_)
      refine SeqOps.put_on 20 rfl rfl rfl rfl (O.cmp (a := ((l.length : Nat) : Int)) (b := (n : Int)) (r := true) rfl rfl rfl (by simp [cmpI]; omega) ?_)
      refine SeqOps.put 21 rfl rfl rfl (O.pick (b := false) (v := (.bool (true))) rfl rfl rfl ?_)
      refine SeqOps.nil ?_
      refine hK9 _ _ ?_
      try clear hK9 K9
      refine W.cond_true rfl ?_
      refine W.seq fun K10 hK10 => ?_
      refine W.region_any (by kernel_rfl) (by kernel_rfl) [22, 23, 24, 25, 26, 27, 28, 29, 30, 6] rfl (fun a b => Ext a b) (fun _ => Chg.refl _ _) (fun h k => Chg.trans h k) [
          (fun (u : Value) (_ : World) => u = Value.int .i64 (n : Int)),
          (fun (u : Value) (w : World) => Own NH w wS.heap.size 22 1 u n (nils n)),
          (fun (u : Value) (_ : World) => u = strOf wh),
          (fun (u : Value) (_ : World) => u = eS a),
          (fun (u : Value) (_ : World) => u = .agg (List.toArray [strOf wh, eS a])),
          (fun (u : Value) (w : World) => ∃ b, u = .pointer (some ⟨b, 0, none⟩) ∧ wS.heap.size ≤ b ∧ w.heap[b]? = some (.cells #[strOf wh, eS a] 164 (0, 0))),
          (fun (u : Value) (w : World) => ∃ b, u = .iface 160 (.pointer (some ⟨b, 0, none⟩)) ∧ wS.heap.size ≤ b ∧ w.heap[b]? = some (.cells #[strOf wh, eS a] 164 (0, 0))),
          (fun (u : Value) (w : World) => ∃ b lv, u = .agg (List.toArray [lv, .iface 160 (.pointer (some ⟨b, 0, none⟩))]) ∧ Own NH w wS.heap.size 22 1 lv n (nils n) ∧ wS.heap.size ≤ b ∧ w.heap[b]? = some (.cells #[strOf wh, eS a] 164 (0, 0))),
          (fun (u : Value) (w : World) => ∃ bp b lv, u = .pointer (some ⟨bp, 0, none⟩) ∧ wS.heap.size ≤ bp ∧ w.heap[bp]? = some (.cells #[lv, .iface 160 (.pointer (some ⟨b, 0, none⟩))] 177 (0, 0)) ∧ Own NH w wS.heap.size 22 1 lv n (nils n) ∧ wS.heap.size ≤ b ∧ w.heap[b]? = some (.cells #[strOf wh, eS a] 164 (0, 0))),
          (fun (u : Value) (w : World) => ∃ bp b lv, u = .pointer (some ⟨bp, 0, none⟩) ∧ wS.heap.size ≤ bp ∧ w.heap[bp]? = some (.cells #[lv, .iface 160 (.pointer (some ⟨b, 0, none⟩))] 177 (0, 0)) ∧ Own NH w wS.heap.size 22 1 lv n (nils n) ∧ wS.heap.size ≤ b ∧ w.heap[b]? = some (.cells #[strOf wh, eS a] 164 (0, 0)))
        ] ⟨fun _ _ _ _ h => h, fun _ _ _ hE h => Own.ext h hE, fun _ _ _ _ h => h, fun _ _ _ _ h => h, fun _ _ _ _ h => h, fun _ _ _ hE h => by obtain ⟨b, h1, h2, h3⟩ := h; exact ⟨b, h1, h2, Ext.blk hE h3⟩, fun _ _ _ hE h => by obtain ⟨b, h1, h2, h3⟩ := h; exact ⟨b, h1, h2, Ext.blk hE h3⟩, fun _ _ _ hE h => by obtain ⟨b, lv, h1, h2, h3, h4⟩ := h; exact ⟨b, lv, h1, Own.ext h2 hE, h3, Ext.blk hE h4⟩, fun _ _ _ hE h => by obtain ⟨bp, b, lv, h0, h1, h2, h3, h4, h5⟩ := h; exact ⟨bp, b, lv, h0, h1, Ext.blk hE h2, Own.ext h3 hE, h4, Ext.blk hE h5⟩, fun _ _ _ hE h => by obtain ⟨bp, b, lv, h0, h1, h2, h3, h4, h5⟩ := h; exact ⟨bp, b, lv, h0, h1, Ext.blk hE h2, Own.ext h3 hE, h4, Ext.blk hE h5⟩, trivial⟩ ⟨?_, ?_, ?_, ?_, ?_, ?_, ?_, ?_, ?_, ?_, trivial⟩ ?_
      · intro g w1 hR hf hd
        have h1 : g 1 = Value.int .i64 (n : Int) := hf 1 (by decide)
        exact StepT.plain rfl (O.move (v := Value.int .i64 (n : Int)) rfl h1 ⟨Chg.refl _ _, rfl⟩)
      · intro g w1 hR hf hd
        have h1 : (fun (u : Value) (_ : World) => u = Value.int .i64 (n : Int)) (g 22) w1 := hd.1 rfl
        refine StepT.plain rfl (O.makeSlice (H := NH) (n := n) rfl h1 h1 Tryz.underlying133 inf22 (by omega) (by simp only [maxLen]; omega) (Agr.NH _) (by intro u hu; simp [Value.cells] at hu; subst hu; rfl) (by decide) ?_)
        intro b2 w2 hb2 hE2 own2
        rw [madeNils] at own2
        exact ⟨hE2, own2.lower hR.size⟩
      · intro g w1 hR hf hd
        have h1 : g 2 = strOf wh := hf 2 (by decide)
        exact StepT.plain rfl (O.move (v := strOf wh) rfl h1 ⟨Chg.refl _ _, rfl⟩)
      · intro g w1 hR hf hd
        exact StepT.plain rfl (O.loadOne (a := ⟨1, 0, none⟩) (v := eS a) rfl rfl Tryz.underlying162 rfl ((Ext.agr hR (show Agr H wS.drew from hA1)).cell hG) ⟨Chg.refl _ _, rfl⟩)
      · intro g w1 hR hf hd
        have h1 : (fun (u : Value) (_ : World) => u = strOf wh) (g 24) w1 := hd.1 rfl
        have h2 : (fun (u : Value) (_ : World) => u = eS a) (g 25) w1 := hd.2.1 rfl
        exact StepT.plain rfl (O.build (vps := [(0, strOf wh), (1, eS a)]) (cells := [strOf wh, eS a]) rfl (by show [(0, g 24), (1, g 25)] = _; rw [h1, h2]) (by kernel_rfl) ⟨Chg.refl _ _, rfl⟩)
      · intro g w1 hR hf hd
        have h1 : (fun (u : Value) (_ : World) => u = .agg (List.toArray [strOf wh, eS a])) (g 26) w1 := hd.1 rfl
        refine StepT.plain rfl (O.box (v := .agg (List.toArray [strOf wh, eS a])) rfl h1 ?_)
        intro b2 w2 hb2 hb21 hE2 hk2
        exact ⟨hE2, b2, rfl, Nat.le_trans hR.size hb2, hk2⟩
      · intro g w1 hR hf hd
        have h0 : (fun (u : Value) (w : World) => ∃ b, u = .pointer (some ⟨b, 0, none⟩) ∧ wS.heap.size ≤ b ∧ w.heap[b]? = some (.cells #[strOf wh, eS a] 164 (0, 0))) (g 27) w1 := hd.1 rfl
        obtain ⟨b, h1, hb, hk⟩ := h0
        exact StepT.plain rfl (O.makeIface (v := .pointer (some ⟨b, 0, none⟩)) rfl h1 Tryz.underlying160 rfl ⟨Chg.refl _ _, b, rfl, hb, hk⟩)
      · intro g w1 hR hf hd
        have h1 : (fun (u : Value) (w : World) => Own NH w wS.heap.size 22 1 u n (nils n)) (g 23) w1 := hd.1 rfl
        have h0 : (fun (u : Value) (w : World) => ∃ b, u = .iface 160 (.pointer (some ⟨b, 0, none⟩)) ∧ wS.heap.size ≤ b ∧ w.heap[b]? = some (.cells #[strOf wh, eS a] 164 (0, 0))) (g 28) w1 := hd.2.1 rfl
        obtain ⟨b, h2, hb, hk⟩ := h0
        obtain ⟨ao9, cap9, h9⟩ := Own.form h1
        have h1o : Own NH w1 wS.heap.size 22 1 (Value.slice ao9 n cap9) n (nils n) := by rw [← h9]; exact h1
        exact StepT.plain rfl (O.build (vps := [(0, .slice ao9 n cap9), (1, .iface 160 (.pointer (some ⟨b, 0, none⟩)))]) (cells := [.slice ao9 n cap9, .iface 160 (.pointer (some ⟨b, 0, none⟩))]) rfl (by show [(0, g 23), (1, g 28)] = _; rw [h9, h2]) (by kernel_rfl) ⟨Chg.refl _ _, b, _, rfl, h1o, hb, hk⟩)
      · intro g w1 hR hf hd
        have h0 : (fun (u : Value) (w : World) => ∃ b lv, u = .agg (List.toArray [lv, .iface 160 (.pointer (some ⟨b, 0, none⟩))]) ∧ Own NH w wS.heap.size 22 1 lv n (nils n) ∧ wS.heap.size ≤ b ∧ w.heap[b]? = some (.cells #[strOf wh, eS a] 164 (0, 0))) (g 29) w1 := hd.1 rfl
        obtain ⟨b, lv, h1, h2, hb, hk⟩ := h0
        refine StepT.plain rfl (O.box (v := .agg (List.toArray [lv, .iface 160 (.pointer (some ⟨b, 0, none⟩))])) rfl h1 ?_)
        intro b2 w2 hb2 hb21 hE2 hk2
        exact ⟨hE2, b2, b, lv, rfl, Nat.le_trans hR.size hb2, hk2, Own.ext h2 hE2, hb, Ext.blk hE2 hk⟩
      · intro g w1 hR hf hd
        have h1 : (fun (u : Value) (w : World) => ∃ bp b lv, u = .pointer (some ⟨bp, 0, none⟩) ∧ wS.heap.size ≤ bp ∧ w.heap[bp]? = some (.cells #[lv, .iface 160 (.pointer (some ⟨b, 0, none⟩))] 177 (0, 0)) ∧ Own NH w wS.heap.size 22 1 lv n (nils n) ∧ wS.heap.size ≤ b ∧ w.heap[b]? = some (.cells #[strOf wh, eS a] 164 (0, 0))) (g 30) w1 := hd.1 rfl
        exact StepT.plain rfl (O.assign (v := g 30) rfl rfl ⟨Chg.refl _ _, h1⟩)
      intro g w2 hR hf hall
      have hfin := hall.2.2.2.2.2.2.2.2.2.1
      refine hK10 _ _ ?_
      try clear hK10 K10
      refine W.ret ?_
      obtain ⟨bp, b, lv, e6, hbp, hkp, own, hb, hkb⟩ := hfin
      have hE : Ext w w2 := st.st.chg.trans (Chg.trans (Ext.drew wS) hR)
      have nb := ((New.start w NoX).new hE).add hkb rfl (Nat.le_trans st.st.chg.size hb)
      have hlvb : ∀ j, lv.ownBlock = some j → j ≠ b := fun j hj e => by
        rcases own.row.2 with ⟨h2, _⟩ | ⟨g0, c0, cur, h2, _, hh, _⟩
        · rw [h2] at hj; simp [Value.ownBlock] at hj
        · rw [h2] at hj; simp [Value.ownBlock] at hj; subst hj; subst e; rw [hkb] at hh; cases hh
      have hlvp : ∀ j, lv.ownBlock = some j → j ≠ bp := fun j hj e => by
        rcases own.row.2 with ⟨h2, _⟩ | ⟨g0, c0, cur, h2, _, hh, _⟩
        · rw [h2] at hj; simp [Value.ownBlock] at hj
        · rw [h2] at hj; simp [Value.ownBlock] at hj; subst hj; subst e; rw [hkp] at hh; cases hh
      have hbbp : bp ≠ b := fun e => by rw [e] at hkp; rw [hkp] at hkb; cases hkb
      obtain ⟨N2, hle, n2, hsame, rs2⟩ := (own.heap (H' := Hadd NH b _) fun j hj => by rw [Hadd_ne _ _ (hlvb j hj)]).join nb st.st.chg.size
      have hN2p : N2 bp = none := by rw [hsame bp fun e => hlvp bp e rfl, Hadd_ne _ _ hbbp]
      have hHp : H bp = none := hA.none (Nat.le_trans st.st.chg.size hbp)
      refine retQ_one rfl e6 ⟨N2, bp, List.replicate n [], false, rfl, n2, Nat.le_trans st.st.chg.size hbp, ⟨⟨lv, _, hkp, ⟨nils n, nils_all2 _ n, by rw [List.length_replicate]; exact rs2.mono (Hm.right _ _)⟩, .inr ⟨rfl, .base (hle _ _ (Hadd_same _ _ _))⟩⟩, Hm.agr (Ext.agr hE hA) n2.st.agr, n2.st.agr, Hm.none hHp hN2p, hN2p, (Hm.left hA n2).cell hG⟩, by simp, by simp, ?_, fun p hp => by rw [List.eq_of_mem_replicate hp]; simp⟩
      intro _ l2 hl2
      rw [hsp] at hl2; cases hl2; exact hln

end Go.Proofs.YtddpmpbngcbokaaGreatDoor

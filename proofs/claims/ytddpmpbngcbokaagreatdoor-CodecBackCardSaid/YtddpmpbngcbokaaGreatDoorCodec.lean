/- codec's readers as they are called. -/
import Derived.Test.YtddpmpbngcbokaaGreatDoorRead
import Derived.Test.YtddpmpbngcbokaaGreatDoorTold
namespace Go.Proofs.YtddpmpbngcbokaaGreatDoor
open Go Go.RowKit
set_option maxRecDepth 100000


/-- What codec's readers return: the thing and 0; or the zero thing and what is wrong. -/
def RetC {α : Type} (d : List UInt8 → Option α) (wf : Value → Prop) (z : Value) (Φ : Heap → Value → α → Prop) (w : World) (bs : List UInt8) : Ending → World → Prop :=
  fun e w' => ∃ N v n, e = .returned (.tuple #[v, .int .i64 n]) ∧ New w NoX N w' ∧ wf v ∧
    ((262144 < bs.length ∧ n = 4 ∧ v = z) ∨ (bs.length ≤ 262144 ∧ d bs = none ∧ n = 5 ∧ v = z) ∨ ∃ x, bs.length ≤ 262144 ∧ d bs = some x ∧ n = 0 ∧ Φ N v x)

def zVSig : VSig := { index := 0, tag := fun _ => 0 }
theorem zVSig_ok : zVSig.ok := by trivial

def zVHeader : VHeader := { chain := 0, epoch := 0, height := 0, view := 0, parent := fun _ => 0, txs := fun _ => 0, root := fun _ => 0, proposer := 0 }
theorem zVHeader_ok : zVHeader.ok := by trivial
theorem zVHeader_cells : zl59 = zVHeader.cells := by kernel_rfl
def zVQC : VQC := { chain := 0, epoch := 0, view := 0, block := fun _ => 0, signers := .slice none 0 0, sigs := .slice none 0 0 }
theorem zVQC_ok : zVQC.ok := by exact ⟨rfl, rfl⟩
theorem zVQC_cells : zl43 = zVQC.cells := by kernel_rfl
def zVCommit : VCommit := { path := .slice none 0 0, qc := zVQC }
theorem zVCommit_ok : zVCommit.ok := by exact ⟨rfl, zVQC_ok⟩
theorem zVCommit_cells : zl45 = zVCommit.cells := by kernel_rfl
def zVFact : VFact := { commit := zVCommit, key := fun _ => 0, value := .slice none 0 0, absent := false, proof := .slice none 0 0 }
theorem zVFact_ok : zVFact.ok := by exact ⟨zVCommit_ok, rfl, rfl⟩
theorem zVFact_cells : zl47 = zVFact.cells := by kernel_rfl
def zVRecord : VRecord := { epoch := 0, members := .slice none 0 0, seats := .slice none 0 0 }
theorem zVRecord_ok : zVRecord.ok := by exact ⟨rfl, rfl⟩
theorem zVRecord_cells : zl55 = zVRecord.cells := by kernel_rfl
def zVTx : VTx := { kind := 0, frm := 0, to_ := 0, amount := 0, nonce := 0, dst := 0, deadline := 0, id_ := fun _ => 0, member := 0, facts := .slice none 0 0 }
theorem zVTx_ok : zVTx.ok := by exact rfl
theorem zVTx_cells : zl82 = zVTx.cells := by kernel_rfl
def zVBlock : VBlock := { header := zVHeader, justify := zVQC, handover := .slice none 0 0, txs := .slice none 0 0, sig := zVSig }
theorem zVBlock_ok : zVBlock.ok := by exact ⟨zVHeader_ok, zVQC_ok, rfl, rfl, zVSig_ok⟩
theorem zVBlock_cells : zl91 = zVBlock.cells := by kernel_rfl
def zVVote : VVote := { chain := 0, epoch := 0, view := 0, block := fun _ => 0, signer := 0, sig := zVSig }
theorem zVVote_ok : zVVote.ok := by exact zVSig_ok
theorem zVVote_cells : zl98 = zVVote.cells := by kernel_rfl
def zVTimeout : VTimeout := { chain := 0, epoch := 0, view := 0, high := zVQC, signer := 0, sig := zVSig }
theorem zVTimeout_ok : zVTimeout.ok := by exact ⟨zVQC_ok, zVSig_ok⟩
theorem zVTimeout_cells : zl105 = zVTimeout.cells := by kernel_rfl
def zVMessage : VMessage := { kind := 0, chain := 0, height := 0, digest := fun _ => 0, blocks := .slice none 0 0, votes := .slice none 0 0, timeouts := .slice none 0 0, commits := .slice none 0 0, txs := .slice none 0 0 }
theorem zVMessage_ok : zVMessage.ok := by exact ⟨rfl, rfl, rfl, rfl, rfl⟩
theorem zVMessage_cells : zl36 = zVMessage.cells := by kernel_rfl
theorem face_Header_calls {aF aB : Addr} {H : Heap} {w : World} {v : Value} {bs : List UInt8} (hA : Agr H w) (hG : Globs aF aB H) (r : RB H v bs) :
    Calls Tryz.prog 63 #[v, .func (.func 64) #[] #[]] w (RetC dHeader wfHeader (.agg (List.toArray zVHeader.cells)) phHeader w bs) := by
  obtain ⟨ao, cap, rfl⟩ := RS.form r
  have hz : (Tryz.prog.info? 59).bind (·.zero) = some (.agg (List.toArray zVHeader.cells)) := by rw [← zVHeader_cells]; exact zr59
  refine calls_of_W (n := 30) Tryz.func63 rfl Tryz.ntmps63 (Nat.le_of_ble_eq_true rfl) ?_
  refine W.seq fun K1 hK1 => ?_
  refine W.region ?_
  refine SeqOps.put 4 rfl rfl rfl (O.alloc rfl hz ?_)
  intro b1 w1 hb1 hb1l hE1 hkb1
  refine SeqOps.put 5 rfl rfl rfl (O.assign (v := (.int .i64 (0))) rfl rfl ?_)
  refine SeqOps.nil ?_
  refine hK1 _ _ ?_
  try clear hK1 K1
  refine W.seq fun K2 hK2 => ?_
  refine W.region ?_
  refine SeqOps.put 6 rfl rfl rfl (O.alloc rfl hz ?_)
  intro b2 w2 hb2 hb2l hE2 hkb2
  refine SeqOps.nil ?_
  refine hK2 _ _ ?_
  try clear hK2 K2
  refine W.seq fun K3 hK3 => ?_
  refine W.seq fun K4 hK4 => ?_
  refine W.region ?_
  refine SeqOps.put 9 rfl rfl rfl (O.move (v := (.slice ao bs.length cap)) rfl rfl ?_)
  refine SeqOps.put 10 rfl rfl rfl (O.lenSlice (ad := ao) (n := bs.length) (c := cap) rfl rfl Tryz.underlying22 ?_)
  refine SeqOps.put 11 rfl rfl rfl (O.cmp (a := ((bs.length : Nat) : Int)) (b := 262144) (r := decide (((bs.length : Nat) : Int) > 262144)) rfl rfl rfl rfl ?_)
  refine SeqOps.nil ?_
  refine hK4 _ _ ?_
  try clear hK4 K4
  rcases Nat.lt_or_ge 262144 bs.length with hbig | hsm
  · have hEE : Ext w w2 := hE1.trans hE2
    have hk1 : w2.heap[b1]? = some (.cells zVHeader.cells.toArray 59 (0, 0)) := Ext.blk hE2 hkb1
    refine W.cond_true (show evF _ _ = .bool true from congrArg Value.bool (by rw [decide_eq_true_iff]; show (262144 : Int) < bs.length; omega)) ?_
    refine W.seq fun K5 hK5 => ?_
    refine W.region_any (by kernel_rfl) (by kernel_rfl) [12, 13, 14, 15, 16, 17, 5] rfl (fun a b => RStore b1 (.cells zVHeader.cells.toArray 59 (0, 0)) a b) (fun _ => RStore.refl _ _ _) (fun h k => RStore.trans h k) [
        (fun (u : Value) (_ : World) => u = (.agg (List.toArray zVHeader.cells))),
        (fun (u : Value) (_ : World) => u = eS aB),
        (fun (u : Value) (_ : World) => u = .agg #[(strOf [97, 108, 108]), eS aB]),
        (fun (u : Value) (w : World) => ∃ b, u = .pointer (some ⟨b, 0, none⟩) ∧ b ≠ b1 ∧ w.heap[b]? = some (.cells #[(strOf [97, 108, 108]), eS aB] 164 (0, 0))),
        (fun (u : Value) (w : World) => ∃ b, u = .iface 160 (.pointer (some ⟨b, 0, none⟩)) ∧ b ≠ b1 ∧ w.heap[b]? = some (.cells #[(strOf [97, 108, 108]), eS aB] 164 (0, 0))),
        (fun (u : Value) (_ : World) => u = .int .i64 4),
        (fun (_ : Value) (w : World) => w.heap[b1]? = some (.cells zVHeader.cells.toArray 59 (0, 0))),
        (fun (u : Value) (_ : World) => u = .int .i64 4)
      ] ⟨fun _ _ _ _ h => h, fun _ _ _ _ h => h, fun _ _ _ _ h => h, fun _ _ _ hE ⟨b, h1, h2, h3⟩ => ⟨b, h1, h2, Chg.blk hE.1 h3 h2⟩, fun _ _ _ hE ⟨b, h1, h2, h3⟩ => ⟨b, h1, h2, Chg.blk hE.1 h3 h2⟩, fun _ _ _ _ h => h, fun _ _ _ hE h => hE.2 h, fun _ _ _ _ h => h, trivial⟩ ⟨?_, ?_, ?_, ?_, ?_, ?_, ?_, ?_, trivial⟩ ?_
    · intro g w1 hR hf hd
      have h1 : g 6 = .pointer (some ⟨b2, 0, none⟩) := hf 6 (by decide)
      have hb1x := Chg.blk hR.1 (show w2.drew.heap[b2]? = _ from hkb2) (by omega)
      exact StepT.plain rfl (O.loadBlk (b := b2) (off := 0) (cs := zVHeader.cells) rfl h1 hb1x Tryz.underlying59 rfl sz59 rfl ⟨RStore.refl _ _ _, rfl⟩)
    · intro g w1 hR hf hd
      exact StepT.plain rfl (O.loadOne (a := ⟨0, 0, none⟩) (v := eS aB) rfl rfl Tryz.underlying162 rfl ((hR.1.agr (show Agr H w2.drew from Ext.agr hEE hA) (fun k hk => by subst hk; exact hA.none hb1)).cell hG.gB) ⟨RStore.refl _ _ _, rfl⟩)
    · intro g w1 hR hf hd
      have h1 : (fun (u : Value) (_ : World) => u = eS aB) (g 13) w1 := hd.1 rfl
      exact StepT.plain rfl (O.build (vps := [(0, (strOf [97, 108, 108])), (1, eS aB)]) (cells := [(strOf [97, 108, 108]), eS aB]) rfl (by show [(0, _), (1, g 13)] = _; rw [h1]; rfl) (by kernel_rfl) ⟨RStore.refl _ _ _, rfl⟩)
    · intro g w1 hR hf hd
      have hkk := hR.2 (show w2.drew.heap[b1]? = _ from hk1)
      have h1 : (fun (u : Value) (_ : World) => u = .agg #[(strOf [97, 108, 108]), eS aB]) (g 14) w1 := hd.1 rfl
      refine StepT.plain rfl (O.box (v := .agg #[(strOf [97, 108, 108]), eS aB]) rfl h1 ?_)
      intro b w9 hb hb9 hE9 hk9
      exact ⟨⟨Chg.ofExt hE9, fun h => Ext.blk hE9 h⟩, b, rfl, (by have := blk_lt hkk; omega), hk9⟩
    · intro g w1 hR hf hd
      have h0 : (fun (u : Value) (w : World) => ∃ b, u = .pointer (some ⟨b, 0, none⟩) ∧ b ≠ b1 ∧ w.heap[b]? = some (.cells #[(strOf [97, 108, 108]), eS aB] 164 (0, 0))) (g 15) w1 := hd.1 rfl
      obtain ⟨b, h1, h2, h3⟩ := h0
      exact StepT.plain rfl (O.makeIface (v := .pointer (some ⟨b, 0, none⟩)) rfl h1 Tryz.underlying160 rfl ⟨RStore.refl _ _ _, b, rfl, h2, h3⟩)
    · intro g w1 hR hf hd
      have h0 : (fun (u : Value) (w : World) => ∃ b, u = .iface 160 (.pointer (some ⟨b, 0, none⟩)) ∧ b ≠ b1 ∧ w.heap[b]? = some (.cells #[(strOf [97, 108, 108]), eS aB] 164 (0, 0))) (g 16) w1 := hd.1 rfl
      obtain ⟨b, h1, h2, h3⟩ := h0
      have hN9 : Agr (Hadd NH b (.cells #[(strOf [97, 108, 108]), eS aB] 164 (0, 0))) w1 := fun k o ho => by
        by_cases hkb : k = b
        · subst hkb; rw [Hadd_same] at ho; cases ho; exact h3
        · rw [Hadd_ne _ _ hkb] at ho; cases ho
      refine StepT.plain rfl (O.call (fid := 86) (cap := #[]) (args := [.iface 160 (.pointer (some ⟨b, 0, none⟩))]) rfl rfl (by show [g 16] = _; rw [h1]) Tryz.func86 rfl rfl ?_)
      refine Calls.mono (told_bytes hG (hR.1.agr (show Agr H w2.drew from Ext.agr hEE hA) (fun k hk => by subst hk; exact hA.none hb1)) hN9 (.base (Hadd_same _ _ _))) ?_
      rintro r w9 ⟨rfl, hE9⟩
      exact ⟨_, rfl, ⟨Chg.ofExt hE9, fun h => Ext.blk hE9 h⟩, rfl⟩
    · intro g w1 hR hf hd
      have h1 : g 4 = .pointer (some ⟨b1, 0, none⟩) := hf 4 (by decide)
      have h2 : g 12 = (.agg (List.toArray zVHeader.cells)) := hd.1 rfl
      have hkk := hR.2 (show w2.drew.heap[b1]? = _ from hk1)
      refine StepT.plain rfl (O.store (b := b1) (off := 0) (v := (.agg (List.toArray zVHeader.cells))) (n := 101) (c' := zVHeader.cells.toArray) rfl h1 h2 hkk sz59 rfl (Nat.le_refl _) (VHeader.one zVHeader_ok) rfl ?_)
      intro w9 hC hk9
      exact ⟨⟨hC, fun _ => hk9⟩, hk9⟩
    · intro g w1 hR hf hd
      have h1 : (fun (u : Value) (_ : World) => u = .int .i64 4) (g 17) w1 := hd.1 rfl
      exact StepT.plain rfl (O.assign (v := .int .i64 4) rfl h1 ⟨RStore.refl _ _ _, rfl⟩)
    intro g w9 hR hf hall
    have hk9 := hall.2.2.2.2.2.2.1
    have hf7 := hall.2.2.2.2.2.2.2.1
    have hf4 : g 4 = .pointer (some ⟨b1, 0, none⟩) := hf 4 (by decide)
    have hE9 : Ext w w9 := (hEE.trans (Ext.drew w2)).trans_new hR.1 fun i hi => .inl (by omega)
    refine hK5 _ _ ?_
    try clear hK5 K5
    refine W.ret ?_
    exact retQ_cell2 (b := b1) (cs := zVHeader.cells) rfl hf4 hf7 hk9 Tryz.underlying59 rfl sz59 ⟨NH, _, _, rfl, (New.start w NoX).new hE9, ⟨zVHeader, rfl, zVHeader_ok⟩, .inl ⟨hbig, rfl, rfl⟩⟩
  refine W.cond_false (show evF _ _ = .bool false from congrArg Value.bool (by rw [decide_eq_false_iff_not]; show ¬ (262144 : Int) < bs.length; omega)) ?_
  refine W.skip ?_
  refine hK3 _ _ ?_
  cases hd : dHeader bs with
  | some y =>
    refine W.seq fun K6 hK6 => ?_
    refine W.region ?_
    refine SeqOps.put 19 rfl rfl rfl (O.move (v := (.func (.func 64) #[] #[])) rfl rfl ?_)
    refine SeqOps.put 20 rfl rfl rfl (O.move (v := (.slice ao bs.length cap)) rfl rfl ?_)
    refine SeqOps.put 21 rfl rfl rfl (O.call (fid := 64) (cap := #[]) (args := [(.slice ao bs.length cap)]) rfl rfl rfl Tryz.func64 rfl rfl ?_)
    refine Calls.mono (read_Header_calls (Ext.agr (hE1.trans hE2) hA) hG.gF r (Nat.le_trans hsm (by decide))) ?_
    intro e w3 hret
    obtain ⟨N, v5, rfl, n3, ⟨q, rfl, hqok⟩, hph⟩ := RetRd.good hd hret
    refine ⟨_, rfl, ?_⟩
    refine SeqOps.put 18 rfl rfl rfl (O.move (v := (.tuple #[(.agg (List.toArray q.cells)), .nilIface])) rfl rfl ?_)
    refine SeqOps.put 22 rfl rfl rfl (O.extract (v := (.agg (List.toArray q.cells))) rfl rfl rfl ?_)
    refine SeqOps.put 23 rfl rfl rfl (O.extract (v := .nilIface) rfl rfl rfl ?_)
    refine SeqOps.put 7 rfl rfl rfl (O.alloc rfl hz ?_)
    intro b7 w7 hb7 hb7l hE7 hk7
    refine SeqOps.eff rfl rfl (O.store (b := b7) (off := 0) (v := .agg (List.toArray q.cells)) (n := 101) (c' := q.cells.toArray) rfl rfl rfl hk7 sz59 rfl (Nat.le_refl _) (VHeader.one hqok) rfl ?_)
    intro w8 hC8 hk8
    have hE8 : Ext w3 w8 := hE7.trans_new hC8 fun i hi => .inl (by omega)
    have n8 := n3.new hE8
    have hk1 : w8.heap[b1]? = some (.cells zVHeader.cells.toArray 59 (0, 0)) := Ext.blk (n8.st.chg) (Ext.blk hE2 hkb1)
    have hs2 := hE2.size
    have hs8 := n8.st.chg.size
    have hs3 := n3.st.chg.size
    have hNb1 : N b1 = none := n3.st.low b1 (by omega)
    refine SeqOps.put 8 rfl rfl rfl (O.assign (v := .nilIface) rfl rfl ?_)
    refine SeqOps.nil ?_
    refine hK6 _ _ ?_
    try clear hK6 K6
    refine W.seq fun K7 hK7 => ?_
    refine W.seq fun K8 hK8 => ?_
    refine W.region ?_
    refine SeqOps.put 24 rfl rfl rfl (O.move (v := .nilIface) rfl rfl ?_)
    refine SeqOps.put 25 rfl rfl rfl (O.ifaceNil (v := .nilIface) (r := false) rfl rfl (.inl rfl) Tryz.underlying162 (.inr ⟨rfl, rfl⟩) ?_)
    refine SeqOps.nil ?_
    refine hK8 _ _ ?_
    try clear hK8 K8
    refine W.cond_false rfl ?_
    refine W.skip ?_
    refine hK7 _ _ ?_
    try clear hK7 K7
    refine W.seq fun K9 hK9 => ?_
    refine W.region ?_
    refine SeqOps.put 29 rfl rfl rfl (O.loadBlk (b := b7) (off := 0) (cs := q.cells) rfl rfl hk8 Tryz.underlying59 rfl sz59 rfl ?_)
    refine SeqOps.eff rfl rfl (O.store (b := b1) (off := 0) (v := .agg (List.toArray q.cells)) (n := 101) (c' := q.cells.toArray) rfl rfl rfl hk1 sz59 rfl (Nat.le_refl _) (VHeader.one hqok) rfl ?_)
    intro w9 hC9 hk9
    refine SeqOps.put 5 rfl rfl rfl (O.assign (v := (.int .i64 (0))) rfl rfl ?_)
    refine SeqOps.nil ?_
    refine hK9 _ _ ?_
    try clear hK9 K9
    refine W.ret ?_
    have n9 := ((New.start w NoX).new (hE1.trans hE2)).trans (n8) (fun i hi => hi.elim)
    rw [Hm.nilL] at n9
    have nf := n9.step hC9 fun i hi => ⟨.inl (by omega), by subst hi; exact hNb1⟩
    exact retQ_cell2 (b := b1) (cs := q.cells) rfl rfl rfl hk9 Tryz.underlying59 rfl sz59 ⟨N, _, _, rfl, nf, ⟨q, rfl, hqok⟩, .inr (.inr ⟨y, hsm, hd, rfl, hph⟩)⟩
  | none =>
    refine W.seq fun K10 hK10 => ?_
    refine W.region ?_
    refine SeqOps.put 19 rfl rfl rfl (O.move (v := (.func (.func 64) #[] #[])) rfl rfl ?_)
    refine SeqOps.put 20 rfl rfl rfl (O.move (v := (.slice ao bs.length cap)) rfl rfl ?_)
    refine SeqOps.put 21 rfl rfl rfl (O.call (fid := 64) (cap := #[]) (args := [(.slice ao bs.length cap)]) rfl rfl rfl Tryz.func64 rfl rfl ?_)
    refine Calls.mono (read_Header_calls (Ext.agr (hE1.trans hE2) hA) hG.gF r (Nat.le_trans hsm (by decide))) ?_
    intro e w3 hret
    obtain ⟨N, v5, be, rfl, n3, ⟨q, rfl, hqok⟩, her⟩ := RetRd.bad hd hret
    refine ⟨_, rfl, ?_⟩
    refine SeqOps.put 18 rfl rfl rfl (O.move (v := (.tuple #[(.agg (List.toArray q.cells)), (.iface 160 (.pointer (some ⟨be, 0, none⟩)))])) rfl rfl ?_)
    refine SeqOps.put 22 rfl rfl rfl (O.extract (v := (.agg (List.toArray q.cells))) rfl rfl rfl ?_)
    refine SeqOps.put 23 rfl rfl rfl (O.extract (v := (.iface 160 (.pointer (some ⟨be, 0, none⟩)))) rfl rfl rfl ?_)
    refine SeqOps.put 7 rfl rfl rfl (O.alloc rfl hz ?_)
    intro b7 w7 hb7 hb7l hE7 hk7
    refine SeqOps.eff rfl rfl (O.store (b := b7) (off := 0) (v := .agg (List.toArray q.cells)) (n := 101) (c' := q.cells.toArray) rfl rfl rfl hk7 sz59 rfl (Nat.le_refl _) (VHeader.one hqok) rfl ?_)
    intro w8 hC8 hk8
    have hE8 : Ext w3 w8 := hE7.trans_new hC8 fun i hi => .inl (by omega)
    have n8 := n3.new hE8
    have hk1 : w8.heap[b1]? = some (.cells zVHeader.cells.toArray 59 (0, 0)) := Ext.blk (n8.st.chg) (Ext.blk hE2 hkb1)
    have hs2 := hE2.size
    have hs8 := n8.st.chg.size
    have hs3 := n3.st.chg.size
    have hNb1 : N b1 = none := n3.st.low b1 (by omega)
    refine SeqOps.put 8 rfl rfl rfl (O.assign (v := (.iface 160 (.pointer (some ⟨be, 0, none⟩)))) rfl rfl ?_)
    refine SeqOps.nil ?_
    refine hK10 _ _ ?_
    try clear hK10 K10
    refine W.seq fun K11 hK11 => ?_
    refine W.seq fun K12 hK12 => ?_
    refine W.region ?_
    refine SeqOps.put 24 rfl rfl rfl (O.move (v := (.iface 160 (.pointer (some ⟨be, 0, none⟩)))) rfl rfl ?_)
    refine SeqOps.put 25 rfl rfl rfl (O.ifaceNil (v := (.iface 160 (.pointer (some ⟨be, 0, none⟩)))) (r := true) rfl rfl (.inr ⟨_, _, rfl⟩) Tryz.underlying162 (.inr ⟨rfl, rfl⟩) ?_)
    refine SeqOps.nil ?_
    refine hK12 _ _ ?_
    try clear hK12 K12
    refine W.cond_true rfl ?_
    refine W.seq fun K13 hK13 => ?_
    refine W.region_any (by kernel_rfl) (by kernel_rfl) [26, 27, 28, 5] rfl (fun a b => RStore b1 (.cells zVHeader.cells.toArray 59 (0, 0)) a b) (fun _ => RStore.refl _ _ _) (fun h k => RStore.trans h k) [
        (fun (u : Value) (_ : World) => u = (.agg (List.toArray zVHeader.cells))),
        (fun (u : Value) (_ : World) => u = .iface 160 (.pointer (some ⟨be, 0, none⟩))),
        (fun (u : Value) (_ : World) => u = .int .i64 5),
        (fun (_ : Value) (w : World) => w.heap[b1]? = some (.cells zVHeader.cells.toArray 59 (0, 0))),
        (fun (u : Value) (_ : World) => u = .int .i64 5)
      ] ⟨fun _ _ _ _ h => h, fun _ _ _ _ h => h, fun _ _ _ _ h => h, fun _ _ _ hE h => hE.2 h, fun _ _ _ _ h => h, trivial⟩ ⟨?_, ?_, ?_, ?_, ?_, trivial⟩ ?_
    · intro g w1 hR hf hd
      have h1 : g 6 = .pointer (some ⟨b2, 0, none⟩) := hf 6 (by decide)
      have hb1x := Chg.blk hR.1 (show w8.drew.heap[b2]? = _ from Ext.blk n8.st.chg hkb2) (by omega)
      exact StepT.plain rfl (O.loadBlk (b := b2) (off := 0) (cs := zVHeader.cells) rfl h1 hb1x Tryz.underlying59 rfl sz59 rfl ⟨RStore.refl _ _ _, rfl⟩)
    · intro g w1 hR hf hd
      have h1 : g 8 = .iface 160 (.pointer (some ⟨be, 0, none⟩)) := hf 8 (by decide)
      exact StepT.plain rfl (O.move (v := .iface 160 (.pointer (some ⟨be, 0, none⟩))) rfl h1 ⟨RStore.refl _ _ _, rfl⟩)
    · intro g w1 hR hf hd
      have h1 : (fun (u : Value) (_ : World) => u = .iface 160 (.pointer (some ⟨be, 0, none⟩))) (g 27) w1 := hd.1 rfl
      refine StepT.plain rfl (O.call (fid := 86) (cap := #[]) (args := [.iface 160 (.pointer (some ⟨be, 0, none⟩))]) rfl rfl (by show [g 27] = _; rw [h1]) Tryz.func86 rfl rfl ?_)
      refine Calls.mono (told_form hG (hR.1.agr (show Agr H w8.drew from Ext.agr ((hE1.trans hE2).trans n8.st.chg) hA) (fun k hk => by subst hk; exact hA.none hb1)) (hR.1.agr (show Agr N w8.drew from n8.st.agr) (fun k hk => by subst hk; exact hNb1)) her) ?_
      rintro r w9 ⟨rfl, hE9⟩
      exact ⟨_, rfl, ⟨Chg.ofExt hE9, fun h => Ext.blk hE9 h⟩, rfl⟩
    · intro g w1 hR hf hd
      have h1 : g 4 = .pointer (some ⟨b1, 0, none⟩) := hf 4 (by decide)
      have h2 : g 26 = (.agg (List.toArray zVHeader.cells)) := hd.1 rfl
      have hkk := hR.2 (show w8.drew.heap[b1]? = _ from hk1)
      refine StepT.plain rfl (O.store (b := b1) (off := 0) (v := (.agg (List.toArray zVHeader.cells))) (n := 101) (c' := zVHeader.cells.toArray) rfl h1 h2 hkk sz59 rfl (Nat.le_refl _) (VHeader.one zVHeader_ok) rfl ?_)
      intro w9 hC hk9
      exact ⟨⟨hC, fun _ => hk9⟩, hk9⟩
    · intro g w1 hR hf hd
      have h1 : (fun (u : Value) (_ : World) => u = .int .i64 5) (g 28) w1 := hd.1 rfl
      exact StepT.plain rfl (O.assign (v := .int .i64 5) rfl h1 ⟨RStore.refl _ _ _, rfl⟩)
    intro g w9 hR hf hall
    have hk9 := hall.2.2.2.1
    have hf7 := hall.2.2.2.2.1
    have hf4 : g 4 = .pointer (some ⟨b1, 0, none⟩) := hf 4 (by decide)
    refine hK13 _ _ ?_
    try clear hK13 K13
    refine W.ret ?_
    have n9 := ((New.start w NoX).new (hE1.trans hE2)).trans (n8) (fun i hi => hi.elim)
    rw [Hm.nilL] at n9
    have nf := (n9.new (Ext.drew w8)).step hR.1 fun i hi => ⟨.inl (by omega), by subst hi; exact hNb1⟩
    exact retQ_cell2 (b := b1) (cs := zVHeader.cells) rfl hf4 hf7 hk9 Tryz.underlying59 rfl sz59 ⟨N, _, _, rfl, nf, ⟨zVHeader, rfl, zVHeader_ok⟩, .inr (.inl ⟨hsm, hd, rfl, rfl⟩)⟩

theorem ReadHeader_calls {aF aB : Addr} {H : Heap} {w : World} {v : Value} {bs : List UInt8} (hA : Agr H w) (hG : Globs aF aB H) (r : RB H v bs) :
    Calls Tryz.prog 13 #[v] w (RetC dHeader wfHeader (.agg (List.toArray zVHeader.cells)) phHeader w bs) := by
  have hz : (Tryz.prog.info? 59).bind (·.zero) = some (.agg (List.toArray zVHeader.cells)) := by rw [← zVHeader_cells]; exact zr59
  refine calls_of_W (n := 8) Tryz.func13 rfl Tryz.ntmps13 (Nat.le_of_ble_eq_true rfl) ?_
  refine W.seq fun K1 hK1 => ?_
  refine W.region ?_
  refine SeqOps.put 2 rfl rfl rfl (O.alloc rfl hz ?_)
  intro b1 w1 hb1 hb1l hE1 hkb1
  refine SeqOps.put 3 rfl rfl rfl (O.assign (v := (.int .i64 (0))) rfl rfl ?_)
  refine SeqOps.nil ?_
  refine hK1 _ _ ?_
  try clear hK1 K1
  refine W.seq fun K2 hK2 => ?_
  refine W.region ?_
  refine SeqOps.put 4 rfl rfl rfl (O.move (v := v) rfl rfl ?_)
  refine SeqOps.put 5 rfl rfl rfl (O.call (fid := 63) (cap := #[]) (args := [v, (.func (.func 64) #[] #[])]) rfl rfl rfl Tryz.func63 rfl rfl ?_)
  refine Calls.mono (face_Header_calls (Ext.agr hE1 hA) hG r) ?_
  rintro e w3 ⟨N, _, n, rfl, n3, ⟨q, rfl, hqok⟩, hret⟩
  refine ⟨_, rfl, ?_⟩
  refine SeqOps.put 6 rfl rfl rfl (O.extract (v := (.agg (List.toArray q.cells))) rfl rfl rfl ?_)
  refine SeqOps.put 7 rfl rfl rfl (O.extract (v := (.int .i64 (n))) rfl rfl rfl ?_)
  refine SeqOps.eff rfl rfl (O.store (b := b1) (off := 0) (v := .agg (List.toArray q.cells)) (n := 101) (c' := q.cells.toArray) rfl rfl rfl (Ext.blk n3.st.chg hkb1) sz59 rfl (Nat.le_refl _) (VHeader.one hqok) rfl ?_)
  intro w9 hC9 hk9
  refine SeqOps.put 3 rfl rfl rfl (O.assign (v := (.int .i64 (n))) rfl rfl ?_)
  refine SeqOps.nil ?_
  refine hK2 _ _ ?_
  try clear hK2 K2
  refine W.ret ?_
  have n9 := ((New.start w NoX).new hE1).trans n3 (fun i hi => hi.elim)
  rw [Hm.nilL] at n9
  have nf := n9.step hC9 fun i hi => ⟨.inl (by omega), by have e : i = b1 := hi; rw [e]; exact n3.st.low b1 (by omega)⟩
  exact retQ_cell2 (b := b1) (cs := q.cells) rfl rfl rfl hk9 Tryz.underlying59 rfl sz59 ⟨N, _, _, rfl, nf, ⟨q, rfl, hqok⟩, hret⟩

theorem face_QC_calls {aF aB : Addr} {H : Heap} {w : World} {v : Value} {bs : List UInt8} (hA : Agr H w) (hG : Globs aF aB H) (r : RB H v bs) :
    Calls Tryz.prog 70 #[v, .func (.func 71) #[] #[]] w (RetC dQC wfQC (.agg (List.toArray zVQC.cells)) phQC w bs) := by
  obtain ⟨ao, cap, rfl⟩ := RS.form r
  have hz : (Tryz.prog.info? 43).bind (·.zero) = some (.agg (List.toArray zVQC.cells)) := by rw [← zVQC_cells]; exact zr43
  refine calls_of_W (n := 30) Tryz.func70 rfl Tryz.ntmps70 (Nat.le_of_ble_eq_true rfl) ?_
  refine W.seq fun K1 hK1 => ?_
  refine W.region ?_
  refine SeqOps.put 4 rfl rfl rfl (O.alloc rfl hz ?_)
  intro b1 w1 hb1 hb1l hE1 hkb1
  refine SeqOps.put 5 rfl rfl rfl (O.assign (v := (.int .i64 (0))) rfl rfl ?_)
  refine SeqOps.nil ?_
  refine hK1 _ _ ?_
  try clear hK1 K1
  refine W.seq fun K2 hK2 => ?_
  refine W.region ?_
  refine SeqOps.put 6 rfl rfl rfl (O.alloc rfl hz ?_)
  intro b2 w2 hb2 hb2l hE2 hkb2
  refine SeqOps.nil ?_
  refine hK2 _ _ ?_
  try clear hK2 K2
  refine W.seq fun K3 hK3 => ?_
  refine W.seq fun K4 hK4 => ?_
  refine W.region ?_
  refine SeqOps.put 9 rfl rfl rfl (O.move (v := (.slice ao bs.length cap)) rfl rfl ?_)
  refine SeqOps.put 10 rfl rfl rfl (O.lenSlice (ad := ao) (n := bs.length) (c := cap) rfl rfl Tryz.underlying22 ?_)
  refine SeqOps.put 11 rfl rfl rfl (O.cmp (a := ((bs.length : Nat) : Int)) (b := 262144) (r := decide (((bs.length : Nat) : Int) > 262144)) rfl rfl rfl rfl ?_)
  refine SeqOps.nil ?_
  refine hK4 _ _ ?_
  try clear hK4 K4
  rcases Nat.lt_or_ge 262144 bs.length with hbig | hsm
  · have hEE : Ext w w2 := hE1.trans hE2
    have hk1 : w2.heap[b1]? = some (.cells zVQC.cells.toArray 43 (0, 0)) := Ext.blk hE2 hkb1
    refine W.cond_true (show evF _ _ = .bool true from congrArg Value.bool (by rw [decide_eq_true_iff]; show (262144 : Int) < bs.length; omega)) ?_
    refine W.seq fun K5 hK5 => ?_
    refine W.region_any (by kernel_rfl) (by kernel_rfl) [12, 13, 14, 15, 16, 17, 5] rfl (fun a b => RStore b1 (.cells zVQC.cells.toArray 43 (0, 0)) a b) (fun _ => RStore.refl _ _ _) (fun h k => RStore.trans h k) [
        (fun (u : Value) (_ : World) => u = (.agg (List.toArray zVQC.cells))),
        (fun (u : Value) (_ : World) => u = eS aB),
        (fun (u : Value) (_ : World) => u = .agg #[(strOf [97, 108, 108]), eS aB]),
        (fun (u : Value) (w : World) => ∃ b, u = .pointer (some ⟨b, 0, none⟩) ∧ b ≠ b1 ∧ w.heap[b]? = some (.cells #[(strOf [97, 108, 108]), eS aB] 164 (0, 0))),
        (fun (u : Value) (w : World) => ∃ b, u = .iface 160 (.pointer (some ⟨b, 0, none⟩)) ∧ b ≠ b1 ∧ w.heap[b]? = some (.cells #[(strOf [97, 108, 108]), eS aB] 164 (0, 0))),
        (fun (u : Value) (_ : World) => u = .int .i64 4),
        (fun (_ : Value) (w : World) => w.heap[b1]? = some (.cells zVQC.cells.toArray 43 (0, 0))),
        (fun (u : Value) (_ : World) => u = .int .i64 4)
      ] ⟨fun _ _ _ _ h => h, fun _ _ _ _ h => h, fun _ _ _ _ h => h, fun _ _ _ hE ⟨b, h1, h2, h3⟩ => ⟨b, h1, h2, Chg.blk hE.1 h3 h2⟩, fun _ _ _ hE ⟨b, h1, h2, h3⟩ => ⟨b, h1, h2, Chg.blk hE.1 h3 h2⟩, fun _ _ _ _ h => h, fun _ _ _ hE h => hE.2 h, fun _ _ _ _ h => h, trivial⟩ ⟨?_, ?_, ?_, ?_, ?_, ?_, ?_, ?_, trivial⟩ ?_
    · intro g w1 hR hf hd
      have h1 : g 6 = .pointer (some ⟨b2, 0, none⟩) := hf 6 (by decide)
      have hb1x := Chg.blk hR.1 (show w2.drew.heap[b2]? = _ from hkb2) (by omega)
      exact StepT.plain rfl (O.loadBlk (b := b2) (off := 0) (cs := zVQC.cells) rfl h1 hb1x Tryz.underlying43 rfl sz43 rfl ⟨RStore.refl _ _ _, rfl⟩)
    · intro g w1 hR hf hd
      exact StepT.plain rfl (O.loadOne (a := ⟨0, 0, none⟩) (v := eS aB) rfl rfl Tryz.underlying162 rfl ((hR.1.agr (show Agr H w2.drew from Ext.agr hEE hA) (fun k hk => by subst hk; exact hA.none hb1)).cell hG.gB) ⟨RStore.refl _ _ _, rfl⟩)
    · intro g w1 hR hf hd
      have h1 : (fun (u : Value) (_ : World) => u = eS aB) (g 13) w1 := hd.1 rfl
      exact StepT.plain rfl (O.build (vps := [(0, (strOf [97, 108, 108])), (1, eS aB)]) (cells := [(strOf [97, 108, 108]), eS aB]) rfl (by show [(0, _), (1, g 13)] = _; rw [h1]; rfl) (by kernel_rfl) ⟨RStore.refl _ _ _, rfl⟩)
    · intro g w1 hR hf hd
      have hkk := hR.2 (show w2.drew.heap[b1]? = _ from hk1)
      have h1 : (fun (u : Value) (_ : World) => u = .agg #[(strOf [97, 108, 108]), eS aB]) (g 14) w1 := hd.1 rfl
      refine StepT.plain rfl (O.box (v := .agg #[(strOf [97, 108, 108]), eS aB]) rfl h1 ?_)
      intro b w9 hb hb9 hE9 hk9
      exact ⟨⟨Chg.ofExt hE9, fun h => Ext.blk hE9 h⟩, b, rfl, (by have := blk_lt hkk; omega), hk9⟩
    · intro g w1 hR hf hd
      have h0 : (fun (u : Value) (w : World) => ∃ b, u = .pointer (some ⟨b, 0, none⟩) ∧ b ≠ b1 ∧ w.heap[b]? = some (.cells #[(strOf [97, 108, 108]), eS aB] 164 (0, 0))) (g 15) w1 := hd.1 rfl
      obtain ⟨b, h1, h2, h3⟩ := h0
      exact StepT.plain rfl (O.makeIface (v := .pointer (some ⟨b, 0, none⟩)) rfl h1 Tryz.underlying160 rfl ⟨RStore.refl _ _ _, b, rfl, h2, h3⟩)
    · intro g w1 hR hf hd
      have h0 : (fun (u : Value) (w : World) => ∃ b, u = .iface 160 (.pointer (some ⟨b, 0, none⟩)) ∧ b ≠ b1 ∧ w.heap[b]? = some (.cells #[(strOf [97, 108, 108]), eS aB] 164 (0, 0))) (g 16) w1 := hd.1 rfl
      obtain ⟨b, h1, h2, h3⟩ := h0
      have hN9 : Agr (Hadd NH b (.cells #[(strOf [97, 108, 108]), eS aB] 164 (0, 0))) w1 := fun k o ho => by
        by_cases hkb : k = b
        · subst hkb; rw [Hadd_same] at ho; cases ho; exact h3
        · rw [Hadd_ne _ _ hkb] at ho; cases ho
      refine StepT.plain rfl (O.call (fid := 86) (cap := #[]) (args := [.iface 160 (.pointer (some ⟨b, 0, none⟩))]) rfl rfl (by show [g 16] = _; rw [h1]) Tryz.func86 rfl rfl ?_)
      refine Calls.mono (told_bytes hG (hR.1.agr (show Agr H w2.drew from Ext.agr hEE hA) (fun k hk => by subst hk; exact hA.none hb1)) hN9 (.base (Hadd_same _ _ _))) ?_
      rintro r w9 ⟨rfl, hE9⟩
      exact ⟨_, rfl, ⟨Chg.ofExt hE9, fun h => Ext.blk hE9 h⟩, rfl⟩
    · intro g w1 hR hf hd
      have h1 : g 4 = .pointer (some ⟨b1, 0, none⟩) := hf 4 (by decide)
      have h2 : g 12 = (.agg (List.toArray zVQC.cells)) := hd.1 rfl
      have hkk := hR.2 (show w2.drew.heap[b1]? = _ from hk1)
      refine StepT.plain rfl (O.store (b := b1) (off := 0) (v := (.agg (List.toArray zVQC.cells))) (n := 37) (c' := zVQC.cells.toArray) rfl h1 h2 hkk sz43 rfl (Nat.le_refl _) (VQC.one zVQC_ok) rfl ?_)
      intro w9 hC hk9
      exact ⟨⟨hC, fun _ => hk9⟩, hk9⟩
    · intro g w1 hR hf hd
      have h1 : (fun (u : Value) (_ : World) => u = .int .i64 4) (g 17) w1 := hd.1 rfl
      exact StepT.plain rfl (O.assign (v := .int .i64 4) rfl h1 ⟨RStore.refl _ _ _, rfl⟩)
    intro g w9 hR hf hall
    have hk9 := hall.2.2.2.2.2.2.1
    have hf7 := hall.2.2.2.2.2.2.2.1
    have hf4 : g 4 = .pointer (some ⟨b1, 0, none⟩) := hf 4 (by decide)
    have hE9 : Ext w w9 := (hEE.trans (Ext.drew w2)).trans_new hR.1 fun i hi => .inl (by omega)
    refine hK5 _ _ ?_
    try clear hK5 K5
    refine W.ret ?_
    exact retQ_cell2 (b := b1) (cs := zVQC.cells) rfl hf4 hf7 hk9 Tryz.underlying43 rfl sz43 ⟨NH, _, _, rfl, (New.start w NoX).new hE9, ⟨zVQC, rfl, zVQC_ok⟩, .inl ⟨hbig, rfl, rfl⟩⟩
  refine W.cond_false (show evF _ _ = .bool false from congrArg Value.bool (by rw [decide_eq_false_iff_not]; show ¬ (262144 : Int) < bs.length; omega)) ?_
  refine W.skip ?_
  refine hK3 _ _ ?_
  cases hd : dQC bs with
  | some y =>
    refine W.seq fun K6 hK6 => ?_
    refine W.region ?_
    refine SeqOps.put 19 rfl rfl rfl (O.move (v := (.func (.func 71) #[] #[])) rfl rfl ?_)
    refine SeqOps.put 20 rfl rfl rfl (O.move (v := (.slice ao bs.length cap)) rfl rfl ?_)
    refine SeqOps.put 21 rfl rfl rfl (O.call (fid := 71) (cap := #[]) (args := [(.slice ao bs.length cap)]) rfl rfl rfl Tryz.func71 rfl rfl ?_)
    refine Calls.mono (read_QC_calls (Ext.agr (hE1.trans hE2) hA) hG.gF r (Nat.le_trans hsm (by decide))) ?_
    intro e w3 hret
    obtain ⟨N, v5, rfl, n3, ⟨q, rfl, hqok⟩, hph⟩ := RetRd.good hd hret
    refine ⟨_, rfl, ?_⟩
    refine SeqOps.put 18 rfl rfl rfl (O.move (v := (.tuple #[(.agg (List.toArray q.cells)), .nilIface])) rfl rfl ?_)
    refine SeqOps.put 22 rfl rfl rfl (O.extract (v := (.agg (List.toArray q.cells))) rfl rfl rfl ?_)
    refine SeqOps.put 23 rfl rfl rfl (O.extract (v := .nilIface) rfl rfl rfl ?_)
    refine SeqOps.put 7 rfl rfl rfl (O.alloc rfl hz ?_)
    intro b7 w7 hb7 hb7l hE7 hk7
    refine SeqOps.eff rfl rfl (O.store (b := b7) (off := 0) (v := .agg (List.toArray q.cells)) (n := 37) (c' := q.cells.toArray) rfl rfl rfl hk7 sz43 rfl (Nat.le_refl _) (VQC.one hqok) rfl ?_)
    intro w8 hC8 hk8
    have hE8 : Ext w3 w8 := hE7.trans_new hC8 fun i hi => .inl (by omega)
    have n8 := n3.new hE8
    have hk1 : w8.heap[b1]? = some (.cells zVQC.cells.toArray 43 (0, 0)) := Ext.blk (n8.st.chg) (Ext.blk hE2 hkb1)
    have hs2 := hE2.size
    have hs8 := n8.st.chg.size
    have hs3 := n3.st.chg.size
    have hNb1 : N b1 = none := n3.st.low b1 (by omega)
    refine SeqOps.put 8 rfl rfl rfl (O.assign (v := .nilIface) rfl rfl ?_)
    refine SeqOps.nil ?_
    refine hK6 _ _ ?_
    try clear hK6 K6
    refine W.seq fun K7 hK7 => ?_
    refine W.seq fun K8 hK8 => ?_
    refine W.region ?_
    refine SeqOps.put 24 rfl rfl rfl (O.move (v := .nilIface) rfl rfl ?_)
    refine SeqOps.put 25 rfl rfl rfl (O.ifaceNil (v := .nilIface) (r := false) rfl rfl (.inl rfl) Tryz.underlying162 (.inr ⟨rfl, rfl⟩) ?_)
    refine SeqOps.nil ?_
    refine hK8 _ _ ?_
    try clear hK8 K8
    refine W.cond_false rfl ?_
    refine W.skip ?_
    refine hK7 _ _ ?_
    try clear hK7 K7
    refine W.seq fun K9 hK9 => ?_
    refine W.region ?_
    refine SeqOps.put 29 rfl rfl rfl (O.loadBlk (b := b7) (off := 0) (cs := q.cells) rfl rfl hk8 Tryz.underlying43 rfl sz43 rfl ?_)
    refine SeqOps.eff rfl rfl (O.store (b := b1) (off := 0) (v := .agg (List.toArray q.cells)) (n := 37) (c' := q.cells.toArray) rfl rfl rfl hk1 sz43 rfl (Nat.le_refl _) (VQC.one hqok) rfl ?_)
    intro w9 hC9 hk9
    refine SeqOps.put 5 rfl rfl rfl (O.assign (v := (.int .i64 (0))) rfl rfl ?_)
    refine SeqOps.nil ?_
    refine hK9 _ _ ?_
    try clear hK9 K9
    refine W.ret ?_
    have n9 := ((New.start w NoX).new (hE1.trans hE2)).trans (n8) (fun i hi => hi.elim)
    rw [Hm.nilL] at n9
    have nf := n9.step hC9 fun i hi => ⟨.inl (by omega), by subst hi; exact hNb1⟩
    exact retQ_cell2 (b := b1) (cs := q.cells) rfl rfl rfl hk9 Tryz.underlying43 rfl sz43 ⟨N, _, _, rfl, nf, ⟨q, rfl, hqok⟩, .inr (.inr ⟨y, hsm, hd, rfl, hph⟩)⟩
  | none =>
    refine W.seq fun K10 hK10 => ?_
    refine W.region ?_
    refine SeqOps.put 19 rfl rfl rfl (O.move (v := (.func (.func 71) #[] #[])) rfl rfl ?_)
    refine SeqOps.put 20 rfl rfl rfl (O.move (v := (.slice ao bs.length cap)) rfl rfl ?_)
    refine SeqOps.put 21 rfl rfl rfl (O.call (fid := 71) (cap := #[]) (args := [(.slice ao bs.length cap)]) rfl rfl rfl Tryz.func71 rfl rfl ?_)
    refine Calls.mono (read_QC_calls (Ext.agr (hE1.trans hE2) hA) hG.gF r (Nat.le_trans hsm (by decide))) ?_
    intro e w3 hret
    obtain ⟨N, v5, be, rfl, n3, ⟨q, rfl, hqok⟩, her⟩ := RetRd.bad hd hret
    refine ⟨_, rfl, ?_⟩
    refine SeqOps.put 18 rfl rfl rfl (O.move (v := (.tuple #[(.agg (List.toArray q.cells)), (.iface 160 (.pointer (some ⟨be, 0, none⟩)))])) rfl rfl ?_)
    refine SeqOps.put 22 rfl rfl rfl (O.extract (v := (.agg (List.toArray q.cells))) rfl rfl rfl ?_)
    refine SeqOps.put 23 rfl rfl rfl (O.extract (v := (.iface 160 (.pointer (some ⟨be, 0, none⟩)))) rfl rfl rfl ?_)
    refine SeqOps.put 7 rfl rfl rfl (O.alloc rfl hz ?_)
    intro b7 w7 hb7 hb7l hE7 hk7
    refine SeqOps.eff rfl rfl (O.store (b := b7) (off := 0) (v := .agg (List.toArray q.cells)) (n := 37) (c' := q.cells.toArray) rfl rfl rfl hk7 sz43 rfl (Nat.le_refl _) (VQC.one hqok) rfl ?_)
    intro w8 hC8 hk8
    have hE8 : Ext w3 w8 := hE7.trans_new hC8 fun i hi => .inl (by omega)
    have n8 := n3.new hE8
    have hk1 : w8.heap[b1]? = some (.cells zVQC.cells.toArray 43 (0, 0)) := Ext.blk (n8.st.chg) (Ext.blk hE2 hkb1)
    have hs2 := hE2.size
    have hs8 := n8.st.chg.size
    have hs3 := n3.st.chg.size
    have hNb1 : N b1 = none := n3.st.low b1 (by omega)
    refine SeqOps.put 8 rfl rfl rfl (O.assign (v := (.iface 160 (.pointer (some ⟨be, 0, none⟩)))) rfl rfl ?_)
    refine SeqOps.nil ?_
    refine hK10 _ _ ?_
    try clear hK10 K10
    refine W.seq fun K11 hK11 => ?_
    refine W.seq fun K12 hK12 => ?_
    refine W.region ?_
    refine SeqOps.put 24 rfl rfl rfl (O.move (v := (.iface 160 (.pointer (some ⟨be, 0, none⟩)))) rfl rfl ?_)
    refine SeqOps.put 25 rfl rfl rfl (O.ifaceNil (v := (.iface 160 (.pointer (some ⟨be, 0, none⟩)))) (r := true) rfl rfl (.inr ⟨_, _, rfl⟩) Tryz.underlying162 (.inr ⟨rfl, rfl⟩) ?_)
    refine SeqOps.nil ?_
    refine hK12 _ _ ?_
    try clear hK12 K12
    refine W.cond_true rfl ?_
    refine W.seq fun K13 hK13 => ?_
    refine W.region_any (by kernel_rfl) (by kernel_rfl) [26, 27, 28, 5] rfl (fun a b => RStore b1 (.cells zVQC.cells.toArray 43 (0, 0)) a b) (fun _ => RStore.refl _ _ _) (fun h k => RStore.trans h k) [
        (fun (u : Value) (_ : World) => u = (.agg (List.toArray zVQC.cells))),
        (fun (u : Value) (_ : World) => u = .iface 160 (.pointer (some ⟨be, 0, none⟩))),
        (fun (u : Value) (_ : World) => u = .int .i64 5),
        (fun (_ : Value) (w : World) => w.heap[b1]? = some (.cells zVQC.cells.toArray 43 (0, 0))),
        (fun (u : Value) (_ : World) => u = .int .i64 5)
      ] ⟨fun _ _ _ _ h => h, fun _ _ _ _ h => h, fun _ _ _ _ h => h, fun _ _ _ hE h => hE.2 h, fun _ _ _ _ h => h, trivial⟩ ⟨?_, ?_, ?_, ?_, ?_, trivial⟩ ?_
    · intro g w1 hR hf hd
      have h1 : g 6 = .pointer (some ⟨b2, 0, none⟩) := hf 6 (by decide)
      have hb1x := Chg.blk hR.1 (show w8.drew.heap[b2]? = _ from Ext.blk n8.st.chg hkb2) (by omega)
      exact StepT.plain rfl (O.loadBlk (b := b2) (off := 0) (cs := zVQC.cells) rfl h1 hb1x Tryz.underlying43 rfl sz43 rfl ⟨RStore.refl _ _ _, rfl⟩)
    · intro g w1 hR hf hd
      have h1 : g 8 = .iface 160 (.pointer (some ⟨be, 0, none⟩)) := hf 8 (by decide)
      exact StepT.plain rfl (O.move (v := .iface 160 (.pointer (some ⟨be, 0, none⟩))) rfl h1 ⟨RStore.refl _ _ _, rfl⟩)
    · intro g w1 hR hf hd
      have h1 : (fun (u : Value) (_ : World) => u = .iface 160 (.pointer (some ⟨be, 0, none⟩))) (g 27) w1 := hd.1 rfl
      refine StepT.plain rfl (O.call (fid := 86) (cap := #[]) (args := [.iface 160 (.pointer (some ⟨be, 0, none⟩))]) rfl rfl (by show [g 27] = _; rw [h1]) Tryz.func86 rfl rfl ?_)
      refine Calls.mono (told_form hG (hR.1.agr (show Agr H w8.drew from Ext.agr ((hE1.trans hE2).trans n8.st.chg) hA) (fun k hk => by subst hk; exact hA.none hb1)) (hR.1.agr (show Agr N w8.drew from n8.st.agr) (fun k hk => by subst hk; exact hNb1)) her) ?_
      rintro r w9 ⟨rfl, hE9⟩
      exact ⟨_, rfl, ⟨Chg.ofExt hE9, fun h => Ext.blk hE9 h⟩, rfl⟩
    · intro g w1 hR hf hd
      have h1 : g 4 = .pointer (some ⟨b1, 0, none⟩) := hf 4 (by decide)
      have h2 : g 26 = (.agg (List.toArray zVQC.cells)) := hd.1 rfl
      have hkk := hR.2 (show w8.drew.heap[b1]? = _ from hk1)
      refine StepT.plain rfl (O.store (b := b1) (off := 0) (v := (.agg (List.toArray zVQC.cells))) (n := 37) (c' := zVQC.cells.toArray) rfl h1 h2 hkk sz43 rfl (Nat.le_refl _) (VQC.one zVQC_ok) rfl ?_)
      intro w9 hC hk9
      exact ⟨⟨hC, fun _ => hk9⟩, hk9⟩
    · intro g w1 hR hf hd
      have h1 : (fun (u : Value) (_ : World) => u = .int .i64 5) (g 28) w1 := hd.1 rfl
      exact StepT.plain rfl (O.assign (v := .int .i64 5) rfl h1 ⟨RStore.refl _ _ _, rfl⟩)
    intro g w9 hR hf hall
    have hk9 := hall.2.2.2.1
    have hf7 := hall.2.2.2.2.1
    have hf4 : g 4 = .pointer (some ⟨b1, 0, none⟩) := hf 4 (by decide)
    refine hK13 _ _ ?_
    try clear hK13 K13
    refine W.ret ?_
    have n9 := ((New.start w NoX).new (hE1.trans hE2)).trans (n8) (fun i hi => hi.elim)
    rw [Hm.nilL] at n9
    have nf := (n9.new (Ext.drew w8)).step hR.1 fun i hi => ⟨.inl (by omega), by subst hi; exact hNb1⟩
    exact retQ_cell2 (b := b1) (cs := zVQC.cells) rfl hf4 hf7 hk9 Tryz.underlying43 rfl sz43 ⟨N, _, _, rfl, nf, ⟨zVQC, rfl, zVQC_ok⟩, .inr (.inl ⟨hsm, hd, rfl, rfl⟩)⟩

theorem ReadQC_calls {aF aB : Addr} {H : Heap} {w : World} {v : Value} {bs : List UInt8} (hA : Agr H w) (hG : Globs aF aB H) (r : RB H v bs) :
    Calls Tryz.prog 16 #[v] w (RetC dQC wfQC (.agg (List.toArray zVQC.cells)) phQC w bs) := by
  have hz : (Tryz.prog.info? 43).bind (·.zero) = some (.agg (List.toArray zVQC.cells)) := by rw [← zVQC_cells]; exact zr43
  refine calls_of_W (n := 8) Tryz.func16 rfl Tryz.ntmps16 (Nat.le_of_ble_eq_true rfl) ?_
  refine W.seq fun K1 hK1 => ?_
  refine W.region ?_
  refine SeqOps.put 2 rfl rfl rfl (O.alloc rfl hz ?_)
  intro b1 w1 hb1 hb1l hE1 hkb1
  refine SeqOps.put 3 rfl rfl rfl (O.assign (v := (.int .i64 (0))) rfl rfl ?_)
  refine SeqOps.nil ?_
  refine hK1 _ _ ?_
  try clear hK1 K1
  refine W.seq fun K2 hK2 => ?_
  refine W.region ?_
  refine SeqOps.put 4 rfl rfl rfl (O.move (v := v) rfl rfl ?_)
  refine SeqOps.put 5 rfl rfl rfl (O.call (fid := 70) (cap := #[]) (args := [v, (.func (.func 71) #[] #[])]) rfl rfl rfl Tryz.func70 rfl rfl ?_)
  refine Calls.mono (face_QC_calls (Ext.agr hE1 hA) hG r) ?_
  rintro e w3 ⟨N, _, n, rfl, n3, ⟨q, rfl, hqok⟩, hret⟩
  refine ⟨_, rfl, ?_⟩
  refine SeqOps.put 6 rfl rfl rfl (O.extract (v := (.agg (List.toArray q.cells))) rfl rfl rfl ?_)
  refine SeqOps.put 7 rfl rfl rfl (O.extract (v := (.int .i64 (n))) rfl rfl rfl ?_)
  refine SeqOps.eff rfl rfl (O.store (b := b1) (off := 0) (v := .agg (List.toArray q.cells)) (n := 37) (c' := q.cells.toArray) rfl rfl rfl (Ext.blk n3.st.chg hkb1) sz43 rfl (Nat.le_refl _) (VQC.one hqok) rfl ?_)
  intro w9 hC9 hk9
  refine SeqOps.put 3 rfl rfl rfl (O.assign (v := (.int .i64 (n))) rfl rfl ?_)
  refine SeqOps.nil ?_
  refine hK2 _ _ ?_
  try clear hK2 K2
  refine W.ret ?_
  have n9 := ((New.start w NoX).new hE1).trans n3 (fun i hi => hi.elim)
  rw [Hm.nilL] at n9
  have nf := n9.step hC9 fun i hi => ⟨.inl (by omega), by have e : i = b1 := hi; rw [e]; exact n3.st.low b1 (by omega)⟩
  exact retQ_cell2 (b := b1) (cs := q.cells) rfl rfl rfl hk9 Tryz.underlying43 rfl sz43 ⟨N, _, _, rfl, nf, ⟨q, rfl, hqok⟩, hret⟩

theorem face_Commit_calls {aF aB : Addr} {H : Heap} {w : World} {v : Value} {bs : List UInt8} (hA : Agr H w) (hG : Globs aF aB H) (r : RB H v bs) :
    Calls Tryz.prog 76 #[v, .func (.func 77) #[] #[]] w (RetC dCommit wfCommit (.agg (List.toArray zVCommit.cells)) phCommit w bs) := by
  obtain ⟨ao, cap, rfl⟩ := RS.form r
  have hz : (Tryz.prog.info? 45).bind (·.zero) = some (.agg (List.toArray zVCommit.cells)) := by rw [← zVCommit_cells]; exact zr45
  refine calls_of_W (n := 30) Tryz.func76 rfl Tryz.ntmps76 (Nat.le_of_ble_eq_true rfl) ?_
  refine W.seq fun K1 hK1 => ?_
  refine W.region ?_
  refine SeqOps.put 4 rfl rfl rfl (O.alloc rfl hz ?_)
  intro b1 w1 hb1 hb1l hE1 hkb1
  refine SeqOps.put 5 rfl rfl rfl (O.assign (v := (.int .i64 (0))) rfl rfl ?_)
  refine SeqOps.nil ?_
  refine hK1 _ _ ?_
  try clear hK1 K1
  refine W.seq fun K2 hK2 => ?_
  refine W.region ?_
  refine SeqOps.put 6 rfl rfl rfl (O.alloc rfl hz ?_)
  intro b2 w2 hb2 hb2l hE2 hkb2
  refine SeqOps.nil ?_
  refine hK2 _ _ ?_
  try clear hK2 K2
  refine W.seq fun K3 hK3 => ?_
  refine W.seq fun K4 hK4 => ?_
  refine W.region ?_
  refine SeqOps.put 9 rfl rfl rfl (O.move (v := (.slice ao bs.length cap)) rfl rfl ?_)
  refine SeqOps.put 10 rfl rfl rfl (O.lenSlice (ad := ao) (n := bs.length) (c := cap) rfl rfl Tryz.underlying22 ?_)
  refine SeqOps.put 11 rfl rfl rfl (O.cmp (a := ((bs.length : Nat) : Int)) (b := 262144) (r := decide (((bs.length : Nat) : Int) > 262144)) rfl rfl rfl rfl ?_)
  refine SeqOps.nil ?_
  refine hK4 _ _ ?_
  try clear hK4 K4
  rcases Nat.lt_or_ge 262144 bs.length with hbig | hsm
  · have hEE : Ext w w2 := hE1.trans hE2
    have hk1 : w2.heap[b1]? = some (.cells zVCommit.cells.toArray 45 (0, 0)) := Ext.blk hE2 hkb1
    refine W.cond_true (show evF _ _ = .bool true from congrArg Value.bool (by rw [decide_eq_true_iff]; show (262144 : Int) < bs.length; omega)) ?_
    refine W.seq fun K5 hK5 => ?_
    refine W.region_any (by kernel_rfl) (by kernel_rfl) [12, 13, 14, 15, 16, 17, 5] rfl (fun a b => RStore b1 (.cells zVCommit.cells.toArray 45 (0, 0)) a b) (fun _ => RStore.refl _ _ _) (fun h k => RStore.trans h k) [
        (fun (u : Value) (_ : World) => u = (.agg (List.toArray zVCommit.cells))),
        (fun (u : Value) (_ : World) => u = eS aB),
        (fun (u : Value) (_ : World) => u = .agg #[(strOf [97, 108, 108]), eS aB]),
        (fun (u : Value) (w : World) => ∃ b, u = .pointer (some ⟨b, 0, none⟩) ∧ b ≠ b1 ∧ w.heap[b]? = some (.cells #[(strOf [97, 108, 108]), eS aB] 164 (0, 0))),
        (fun (u : Value) (w : World) => ∃ b, u = .iface 160 (.pointer (some ⟨b, 0, none⟩)) ∧ b ≠ b1 ∧ w.heap[b]? = some (.cells #[(strOf [97, 108, 108]), eS aB] 164 (0, 0))),
        (fun (u : Value) (_ : World) => u = .int .i64 4),
        (fun (_ : Value) (w : World) => w.heap[b1]? = some (.cells zVCommit.cells.toArray 45 (0, 0))),
        (fun (u : Value) (_ : World) => u = .int .i64 4)
      ] ⟨fun _ _ _ _ h => h, fun _ _ _ _ h => h, fun _ _ _ _ h => h, fun _ _ _ hE ⟨b, h1, h2, h3⟩ => ⟨b, h1, h2, Chg.blk hE.1 h3 h2⟩, fun _ _ _ hE ⟨b, h1, h2, h3⟩ => ⟨b, h1, h2, Chg.blk hE.1 h3 h2⟩, fun _ _ _ _ h => h, fun _ _ _ hE h => hE.2 h, fun _ _ _ _ h => h, trivial⟩ ⟨?_, ?_, ?_, ?_, ?_, ?_, ?_, ?_, trivial⟩ ?_
    · intro g w1 hR hf hd
      have h1 : g 6 = .pointer (some ⟨b2, 0, none⟩) := hf 6 (by decide)
      have hb1x := Chg.blk hR.1 (show w2.drew.heap[b2]? = _ from hkb2) (by omega)
      exact StepT.plain rfl (O.loadBlk (b := b2) (off := 0) (cs := zVCommit.cells) rfl h1 hb1x Tryz.underlying45 rfl sz45 rfl ⟨RStore.refl _ _ _, rfl⟩)
    · intro g w1 hR hf hd
      exact StepT.plain rfl (O.loadOne (a := ⟨0, 0, none⟩) (v := eS aB) rfl rfl Tryz.underlying162 rfl ((hR.1.agr (show Agr H w2.drew from Ext.agr hEE hA) (fun k hk => by subst hk; exact hA.none hb1)).cell hG.gB) ⟨RStore.refl _ _ _, rfl⟩)
    · intro g w1 hR hf hd
      have h1 : (fun (u : Value) (_ : World) => u = eS aB) (g 13) w1 := hd.1 rfl
      exact StepT.plain rfl (O.build (vps := [(0, (strOf [97, 108, 108])), (1, eS aB)]) (cells := [(strOf [97, 108, 108]), eS aB]) rfl (by show [(0, _), (1, g 13)] = _; rw [h1]; rfl) (by kernel_rfl) ⟨RStore.refl _ _ _, rfl⟩)
    · intro g w1 hR hf hd
      have hkk := hR.2 (show w2.drew.heap[b1]? = _ from hk1)
      have h1 : (fun (u : Value) (_ : World) => u = .agg #[(strOf [97, 108, 108]), eS aB]) (g 14) w1 := hd.1 rfl
      refine StepT.plain rfl (O.box (v := .agg #[(strOf [97, 108, 108]), eS aB]) rfl h1 ?_)
      intro b w9 hb hb9 hE9 hk9
      exact ⟨⟨Chg.ofExt hE9, fun h => Ext.blk hE9 h⟩, b, rfl, (by have := blk_lt hkk; omega), hk9⟩
    · intro g w1 hR hf hd
      have h0 : (fun (u : Value) (w : World) => ∃ b, u = .pointer (some ⟨b, 0, none⟩) ∧ b ≠ b1 ∧ w.heap[b]? = some (.cells #[(strOf [97, 108, 108]), eS aB] 164 (0, 0))) (g 15) w1 := hd.1 rfl
      obtain ⟨b, h1, h2, h3⟩ := h0
      exact StepT.plain rfl (O.makeIface (v := .pointer (some ⟨b, 0, none⟩)) rfl h1 Tryz.underlying160 rfl ⟨RStore.refl _ _ _, b, rfl, h2, h3⟩)
    · intro g w1 hR hf hd
      have h0 : (fun (u : Value) (w : World) => ∃ b, u = .iface 160 (.pointer (some ⟨b, 0, none⟩)) ∧ b ≠ b1 ∧ w.heap[b]? = some (.cells #[(strOf [97, 108, 108]), eS aB] 164 (0, 0))) (g 16) w1 := hd.1 rfl
      obtain ⟨b, h1, h2, h3⟩ := h0
      have hN9 : Agr (Hadd NH b (.cells #[(strOf [97, 108, 108]), eS aB] 164 (0, 0))) w1 := fun k o ho => by
        by_cases hkb : k = b
        · subst hkb; rw [Hadd_same] at ho; cases ho; exact h3
        · rw [Hadd_ne _ _ hkb] at ho; cases ho
      refine StepT.plain rfl (O.call (fid := 86) (cap := #[]) (args := [.iface 160 (.pointer (some ⟨b, 0, none⟩))]) rfl rfl (by show [g 16] = _; rw [h1]) Tryz.func86 rfl rfl ?_)
      refine Calls.mono (told_bytes hG (hR.1.agr (show Agr H w2.drew from Ext.agr hEE hA) (fun k hk => by subst hk; exact hA.none hb1)) hN9 (.base (Hadd_same _ _ _))) ?_
      rintro r w9 ⟨rfl, hE9⟩
      exact ⟨_, rfl, ⟨Chg.ofExt hE9, fun h => Ext.blk hE9 h⟩, rfl⟩
    · intro g w1 hR hf hd
      have h1 : g 4 = .pointer (some ⟨b1, 0, none⟩) := hf 4 (by decide)
      have h2 : g 12 = (.agg (List.toArray zVCommit.cells)) := hd.1 rfl
      have hkk := hR.2 (show w2.drew.heap[b1]? = _ from hk1)
      refine StepT.plain rfl (O.store (b := b1) (off := 0) (v := (.agg (List.toArray zVCommit.cells))) (n := 38) (c' := zVCommit.cells.toArray) rfl h1 h2 hkk sz45 rfl (Nat.le_refl _) (VCommit.one zVCommit_ok) rfl ?_)
      intro w9 hC hk9
      exact ⟨⟨hC, fun _ => hk9⟩, hk9⟩
    · intro g w1 hR hf hd
      have h1 : (fun (u : Value) (_ : World) => u = .int .i64 4) (g 17) w1 := hd.1 rfl
      exact StepT.plain rfl (O.assign (v := .int .i64 4) rfl h1 ⟨RStore.refl _ _ _, rfl⟩)
    intro g w9 hR hf hall
    have hk9 := hall.2.2.2.2.2.2.1
    have hf7 := hall.2.2.2.2.2.2.2.1
    have hf4 : g 4 = .pointer (some ⟨b1, 0, none⟩) := hf 4 (by decide)
    have hE9 : Ext w w9 := (hEE.trans (Ext.drew w2)).trans_new hR.1 fun i hi => .inl (by omega)
    refine hK5 _ _ ?_
    try clear hK5 K5
    refine W.ret ?_
    exact retQ_cell2 (b := b1) (cs := zVCommit.cells) rfl hf4 hf7 hk9 Tryz.underlying45 rfl sz45 ⟨NH, _, _, rfl, (New.start w NoX).new hE9, ⟨zVCommit, rfl, zVCommit_ok⟩, .inl ⟨hbig, rfl, rfl⟩⟩
  refine W.cond_false (show evF _ _ = .bool false from congrArg Value.bool (by rw [decide_eq_false_iff_not]; show ¬ (262144 : Int) < bs.length; omega)) ?_
  refine W.skip ?_
  refine hK3 _ _ ?_
  cases hd : dCommit bs with
  | some y =>
    refine W.seq fun K6 hK6 => ?_
    refine W.region ?_
    refine SeqOps.put 19 rfl rfl rfl (O.move (v := (.func (.func 77) #[] #[])) rfl rfl ?_)
    refine SeqOps.put 20 rfl rfl rfl (O.move (v := (.slice ao bs.length cap)) rfl rfl ?_)
    refine SeqOps.put 21 rfl rfl rfl (O.call (fid := 77) (cap := #[]) (args := [(.slice ao bs.length cap)]) rfl rfl rfl Tryz.func77 rfl rfl ?_)
    refine Calls.mono (read_Commit_calls (Ext.agr (hE1.trans hE2) hA) hG.gF r (Nat.le_trans hsm (by decide))) ?_
    intro e w3 hret
    obtain ⟨N, v5, rfl, n3, ⟨q, rfl, hqok⟩, hph⟩ := RetRd.good hd hret
    refine ⟨_, rfl, ?_⟩
    refine SeqOps.put 18 rfl rfl rfl (O.move (v := (.tuple #[(.agg (List.toArray q.cells)), .nilIface])) rfl rfl ?_)
    refine SeqOps.put 22 rfl rfl rfl (O.extract (v := (.agg (List.toArray q.cells))) rfl rfl rfl ?_)
    refine SeqOps.put 23 rfl rfl rfl (O.extract (v := .nilIface) rfl rfl rfl ?_)
    refine SeqOps.put 7 rfl rfl rfl (O.alloc rfl hz ?_)
    intro b7 w7 hb7 hb7l hE7 hk7
    refine SeqOps.eff rfl rfl (O.store (b := b7) (off := 0) (v := .agg (List.toArray q.cells)) (n := 38) (c' := q.cells.toArray) rfl rfl rfl hk7 sz45 rfl (Nat.le_refl _) (VCommit.one hqok) rfl ?_)
    intro w8 hC8 hk8
    have hE8 : Ext w3 w8 := hE7.trans_new hC8 fun i hi => .inl (by omega)
    have n8 := n3.new hE8
    have hk1 : w8.heap[b1]? = some (.cells zVCommit.cells.toArray 45 (0, 0)) := Ext.blk (n8.st.chg) (Ext.blk hE2 hkb1)
    have hs2 := hE2.size
    have hs8 := n8.st.chg.size
    have hs3 := n3.st.chg.size
    have hNb1 : N b1 = none := n3.st.low b1 (by omega)
    refine SeqOps.put 8 rfl rfl rfl (O.assign (v := .nilIface) rfl rfl ?_)
    refine SeqOps.nil ?_
    refine hK6 _ _ ?_
    try clear hK6 K6
    refine W.seq fun K7 hK7 => ?_
    refine W.seq fun K8 hK8 => ?_
    refine W.region ?_
    refine SeqOps.put 24 rfl rfl rfl (O.move (v := .nilIface) rfl rfl ?_)
    refine SeqOps.put 25 rfl rfl rfl (O.ifaceNil (v := .nilIface) (r := false) rfl rfl (.inl rfl) Tryz.underlying162 (.inr ⟨rfl, rfl⟩) ?_)
    refine SeqOps.nil ?_
    refine hK8 _ _ ?_
    try clear hK8 K8
    refine W.cond_false rfl ?_
    refine W.skip ?_
    refine hK7 _ _ ?_
    try clear hK7 K7
    refine W.seq fun K9 hK9 => ?_
    refine W.region ?_
    refine SeqOps.put 29 rfl rfl rfl (O.loadBlk (b := b7) (off := 0) (cs := q.cells) rfl rfl hk8 Tryz.underlying45 rfl sz45 rfl ?_)
    refine SeqOps.eff rfl rfl (O.store (b := b1) (off := 0) (v := .agg (List.toArray q.cells)) (n := 38) (c' := q.cells.toArray) rfl rfl rfl hk1 sz45 rfl (Nat.le_refl _) (VCommit.one hqok) rfl ?_)
    intro w9 hC9 hk9
    refine SeqOps.put 5 rfl rfl rfl (O.assign (v := (.int .i64 (0))) rfl rfl ?_)
    refine SeqOps.nil ?_
    refine hK9 _ _ ?_
    try clear hK9 K9
    refine W.ret ?_
    have n9 := ((New.start w NoX).new (hE1.trans hE2)).trans (n8) (fun i hi => hi.elim)
    rw [Hm.nilL] at n9
    have nf := n9.step hC9 fun i hi => ⟨.inl (by omega), by subst hi; exact hNb1⟩
    exact retQ_cell2 (b := b1) (cs := q.cells) rfl rfl rfl hk9 Tryz.underlying45 rfl sz45 ⟨N, _, _, rfl, nf, ⟨q, rfl, hqok⟩, .inr (.inr ⟨y, hsm, hd, rfl, hph⟩)⟩
  | none =>
    refine W.seq fun K10 hK10 => ?_
    refine W.region ?_
    refine SeqOps.put 19 rfl rfl rfl (O.move (v := (.func (.func 77) #[] #[])) rfl rfl ?_)
    refine SeqOps.put 20 rfl rfl rfl (O.move (v := (.slice ao bs.length cap)) rfl rfl ?_)
    refine SeqOps.put 21 rfl rfl rfl (O.call (fid := 77) (cap := #[]) (args := [(.slice ao bs.length cap)]) rfl rfl rfl Tryz.func77 rfl rfl ?_)
    refine Calls.mono (read_Commit_calls (Ext.agr (hE1.trans hE2) hA) hG.gF r (Nat.le_trans hsm (by decide))) ?_
    intro e w3 hret
    obtain ⟨N, v5, be, rfl, n3, ⟨q, rfl, hqok⟩, her⟩ := RetRd.bad hd hret
    refine ⟨_, rfl, ?_⟩
    refine SeqOps.put 18 rfl rfl rfl (O.move (v := (.tuple #[(.agg (List.toArray q.cells)), (.iface 160 (.pointer (some ⟨be, 0, none⟩)))])) rfl rfl ?_)
    refine SeqOps.put 22 rfl rfl rfl (O.extract (v := (.agg (List.toArray q.cells))) rfl rfl rfl ?_)
    refine SeqOps.put 23 rfl rfl rfl (O.extract (v := (.iface 160 (.pointer (some ⟨be, 0, none⟩)))) rfl rfl rfl ?_)
    refine SeqOps.put 7 rfl rfl rfl (O.alloc rfl hz ?_)
    intro b7 w7 hb7 hb7l hE7 hk7
    refine SeqOps.eff rfl rfl (O.store (b := b7) (off := 0) (v := .agg (List.toArray q.cells)) (n := 38) (c' := q.cells.toArray) rfl rfl rfl hk7 sz45 rfl (Nat.le_refl _) (VCommit.one hqok) rfl ?_)
    intro w8 hC8 hk8
    have hE8 : Ext w3 w8 := hE7.trans_new hC8 fun i hi => .inl (by omega)
    have n8 := n3.new hE8
    have hk1 : w8.heap[b1]? = some (.cells zVCommit.cells.toArray 45 (0, 0)) := Ext.blk (n8.st.chg) (Ext.blk hE2 hkb1)
    have hs2 := hE2.size
    have hs8 := n8.st.chg.size
    have hs3 := n3.st.chg.size
    have hNb1 : N b1 = none := n3.st.low b1 (by omega)
    refine SeqOps.put 8 rfl rfl rfl (O.assign (v := (.iface 160 (.pointer (some ⟨be, 0, none⟩)))) rfl rfl ?_)
    refine SeqOps.nil ?_
    refine hK10 _ _ ?_
    try clear hK10 K10
    refine W.seq fun K11 hK11 => ?_
    refine W.seq fun K12 hK12 => ?_
    refine W.region ?_
    refine SeqOps.put 24 rfl rfl rfl (O.move (v := (.iface 160 (.pointer (some ⟨be, 0, none⟩)))) rfl rfl ?_)
    refine SeqOps.put 25 rfl rfl rfl (O.ifaceNil (v := (.iface 160 (.pointer (some ⟨be, 0, none⟩)))) (r := true) rfl rfl (.inr ⟨_, _, rfl⟩) Tryz.underlying162 (.inr ⟨rfl, rfl⟩) ?_)
    refine SeqOps.nil ?_
    refine hK12 _ _ ?_
    try clear hK12 K12
    refine W.cond_true rfl ?_
    refine W.seq fun K13 hK13 => ?_
    refine W.region_any (by kernel_rfl) (by kernel_rfl) [26, 27, 28, 5] rfl (fun a b => RStore b1 (.cells zVCommit.cells.toArray 45 (0, 0)) a b) (fun _ => RStore.refl _ _ _) (fun h k => RStore.trans h k) [
        (fun (u : Value) (_ : World) => u = (.agg (List.toArray zVCommit.cells))),
        (fun (u : Value) (_ : World) => u = .iface 160 (.pointer (some ⟨be, 0, none⟩))),
        (fun (u : Value) (_ : World) => u = .int .i64 5),
        (fun (_ : Value) (w : World) => w.heap[b1]? = some (.cells zVCommit.cells.toArray 45 (0, 0))),
        (fun (u : Value) (_ : World) => u = .int .i64 5)
      ] ⟨fun _ _ _ _ h => h, fun _ _ _ _ h => h, fun _ _ _ _ h => h, fun _ _ _ hE h => hE.2 h, fun _ _ _ _ h => h, trivial⟩ ⟨?_, ?_, ?_, ?_, ?_, trivial⟩ ?_
    · intro g w1 hR hf hd
      have h1 : g 6 = .pointer (some ⟨b2, 0, none⟩) := hf 6 (by decide)
      have hb1x := Chg.blk hR.1 (show w8.drew.heap[b2]? = _ from Ext.blk n8.st.chg hkb2) (by omega)
      exact StepT.plain rfl (O.loadBlk (b := b2) (off := 0) (cs := zVCommit.cells) rfl h1 hb1x Tryz.underlying45 rfl sz45 rfl ⟨RStore.refl _ _ _, rfl⟩)
    · intro g w1 hR hf hd
      have h1 : g 8 = .iface 160 (.pointer (some ⟨be, 0, none⟩)) := hf 8 (by decide)
      exact StepT.plain rfl (O.move (v := .iface 160 (.pointer (some ⟨be, 0, none⟩))) rfl h1 ⟨RStore.refl _ _ _, rfl⟩)
    · intro g w1 hR hf hd
      have h1 : (fun (u : Value) (_ : World) => u = .iface 160 (.pointer (some ⟨be, 0, none⟩))) (g 27) w1 := hd.1 rfl
      refine StepT.plain rfl (O.call (fid := 86) (cap := #[]) (args := [.iface 160 (.pointer (some ⟨be, 0, none⟩))]) rfl rfl (by show [g 27] = _; rw [h1]) Tryz.func86 rfl rfl ?_)
      refine Calls.mono (told_form hG (hR.1.agr (show Agr H w8.drew from Ext.agr ((hE1.trans hE2).trans n8.st.chg) hA) (fun k hk => by subst hk; exact hA.none hb1)) (hR.1.agr (show Agr N w8.drew from n8.st.agr) (fun k hk => by subst hk; exact hNb1)) her) ?_
      rintro r w9 ⟨rfl, hE9⟩
      exact ⟨_, rfl, ⟨Chg.ofExt hE9, fun h => Ext.blk hE9 h⟩, rfl⟩
    · intro g w1 hR hf hd
      have h1 : g 4 = .pointer (some ⟨b1, 0, none⟩) := hf 4 (by decide)
      have h2 : g 26 = (.agg (List.toArray zVCommit.cells)) := hd.1 rfl
      have hkk := hR.2 (show w8.drew.heap[b1]? = _ from hk1)
      refine StepT.plain rfl (O.store (b := b1) (off := 0) (v := (.agg (List.toArray zVCommit.cells))) (n := 38) (c' := zVCommit.cells.toArray) rfl h1 h2 hkk sz45 rfl (Nat.le_refl _) (VCommit.one zVCommit_ok) rfl ?_)
      intro w9 hC hk9
      exact ⟨⟨hC, fun _ => hk9⟩, hk9⟩
    · intro g w1 hR hf hd
      have h1 : (fun (u : Value) (_ : World) => u = .int .i64 5) (g 28) w1 := hd.1 rfl
      exact StepT.plain rfl (O.assign (v := .int .i64 5) rfl h1 ⟨RStore.refl _ _ _, rfl⟩)
    intro g w9 hR hf hall
    have hk9 := hall.2.2.2.1
    have hf7 := hall.2.2.2.2.1
    have hf4 : g 4 = .pointer (some ⟨b1, 0, none⟩) := hf 4 (by decide)
    refine hK13 _ _ ?_
    try clear hK13 K13
    refine W.ret ?_
    have n9 := ((New.start w NoX).new (hE1.trans hE2)).trans (n8) (fun i hi => hi.elim)
    rw [Hm.nilL] at n9
    have nf := (n9.new (Ext.drew w8)).step hR.1 fun i hi => ⟨.inl (by omega), by subst hi; exact hNb1⟩
    exact retQ_cell2 (b := b1) (cs := zVCommit.cells) rfl hf4 hf7 hk9 Tryz.underlying45 rfl sz45 ⟨N, _, _, rfl, nf, ⟨zVCommit, rfl, zVCommit_ok⟩, .inr (.inl ⟨hsm, hd, rfl, rfl⟩)⟩

theorem ReadCommit_calls {aF aB : Addr} {H : Heap} {w : World} {v : Value} {bs : List UInt8} (hA : Agr H w) (hG : Globs aF aB H) (r : RB H v bs) :
    Calls Tryz.prog 19 #[v] w (RetC dCommit wfCommit (.agg (List.toArray zVCommit.cells)) phCommit w bs) := by
  have hz : (Tryz.prog.info? 45).bind (·.zero) = some (.agg (List.toArray zVCommit.cells)) := by rw [← zVCommit_cells]; exact zr45
  refine calls_of_W (n := 8) Tryz.func19 rfl Tryz.ntmps19 (Nat.le_of_ble_eq_true rfl) ?_
  refine W.seq fun K1 hK1 => ?_
  refine W.region ?_
  refine SeqOps.put 2 rfl rfl rfl (O.alloc rfl hz ?_)
  intro b1 w1 hb1 hb1l hE1 hkb1
  refine SeqOps.put 3 rfl rfl rfl (O.assign (v := (.int .i64 (0))) rfl rfl ?_)
  refine SeqOps.nil ?_
  refine hK1 _ _ ?_
  try clear hK1 K1
  refine W.seq fun K2 hK2 => ?_
  refine W.region ?_
  refine SeqOps.put 4 rfl rfl rfl (O.move (v := v) rfl rfl ?_)
  refine SeqOps.put 5 rfl rfl rfl (O.call (fid := 76) (cap := #[]) (args := [v, (.func (.func 77) #[] #[])]) rfl rfl rfl Tryz.func76 rfl rfl ?_)
  refine Calls.mono (face_Commit_calls (Ext.agr hE1 hA) hG r) ?_
  rintro e w3 ⟨N, _, n, rfl, n3, ⟨q, rfl, hqok⟩, hret⟩
  refine ⟨_, rfl, ?_⟩
  refine SeqOps.put 6 rfl rfl rfl (O.extract (v := (.agg (List.toArray q.cells))) rfl rfl rfl ?_)
  refine SeqOps.put 7 rfl rfl rfl (O.extract (v := (.int .i64 (n))) rfl rfl rfl ?_)
  refine SeqOps.eff rfl rfl (O.store (b := b1) (off := 0) (v := .agg (List.toArray q.cells)) (n := 38) (c' := q.cells.toArray) rfl rfl rfl (Ext.blk n3.st.chg hkb1) sz45 rfl (Nat.le_refl _) (VCommit.one hqok) rfl ?_)
  intro w9 hC9 hk9
  refine SeqOps.put 3 rfl rfl rfl (O.assign (v := (.int .i64 (n))) rfl rfl ?_)
  refine SeqOps.nil ?_
  refine hK2 _ _ ?_
  try clear hK2 K2
  refine W.ret ?_
  have n9 := ((New.start w NoX).new hE1).trans n3 (fun i hi => hi.elim)
  rw [Hm.nilL] at n9
  have nf := n9.step hC9 fun i hi => ⟨.inl (by omega), by have e : i = b1 := hi; rw [e]; exact n3.st.low b1 (by omega)⟩
  exact retQ_cell2 (b := b1) (cs := q.cells) rfl rfl rfl hk9 Tryz.underlying45 rfl sz45 ⟨N, _, _, rfl, nf, ⟨q, rfl, hqok⟩, hret⟩

theorem face_Fact_calls {aF aB : Addr} {H : Heap} {w : World} {v : Value} {bs : List UInt8} (hA : Agr H w) (hG : Globs aF aB H) (r : RB H v bs) :
    Calls Tryz.prog 42 #[v, .func (.func 43) #[] #[]] w (RetC dFact wfFact (.agg (List.toArray zVFact.cells)) phFact w bs) := by
  obtain ⟨ao, cap, rfl⟩ := RS.form r
  have hz : (Tryz.prog.info? 47).bind (·.zero) = some (.agg (List.toArray zVFact.cells)) := by rw [← zVFact_cells]; exact zr47
  refine calls_of_W (n := 30) Tryz.func42 rfl Tryz.ntmps42 (Nat.le_of_ble_eq_true rfl) ?_
  refine W.seq fun K1 hK1 => ?_
  refine W.region ?_
  refine SeqOps.put 4 rfl rfl rfl (O.alloc rfl hz ?_)
  intro b1 w1 hb1 hb1l hE1 hkb1
  refine SeqOps.put 5 rfl rfl rfl (O.assign (v := (.int .i64 (0))) rfl rfl ?_)
  refine SeqOps.nil ?_
  refine hK1 _ _ ?_
  try clear hK1 K1
  refine W.seq fun K2 hK2 => ?_
  refine W.region ?_
  refine SeqOps.put 6 rfl rfl rfl (O.alloc rfl hz ?_)
  intro b2 w2 hb2 hb2l hE2 hkb2
  refine SeqOps.nil ?_
  refine hK2 _ _ ?_
  try clear hK2 K2
  refine W.seq fun K3 hK3 => ?_
  refine W.seq fun K4 hK4 => ?_
  refine W.region ?_
  refine SeqOps.put 9 rfl rfl rfl (O.move (v := (.slice ao bs.length cap)) rfl rfl ?_)
  refine SeqOps.put 10 rfl rfl rfl (O.lenSlice (ad := ao) (n := bs.length) (c := cap) rfl rfl Tryz.underlying22 ?_)
  refine SeqOps.put 11 rfl rfl rfl (O.cmp (a := ((bs.length : Nat) : Int)) (b := 262144) (r := decide (((bs.length : Nat) : Int) > 262144)) rfl rfl rfl rfl ?_)
  refine SeqOps.nil ?_
  refine hK4 _ _ ?_
  try clear hK4 K4
  rcases Nat.lt_or_ge 262144 bs.length with hbig | hsm
  · have hEE : Ext w w2 := hE1.trans hE2
    have hk1 : w2.heap[b1]? = some (.cells zVFact.cells.toArray 47 (0, 0)) := Ext.blk hE2 hkb1
    refine W.cond_true (show evF _ _ = .bool true from congrArg Value.bool (by rw [decide_eq_true_iff]; show (262144 : Int) < bs.length; omega)) ?_
    refine W.seq fun K5 hK5 => ?_
    refine W.region_any (by kernel_rfl) (by kernel_rfl) [12, 13, 14, 15, 16, 17, 5] rfl (fun a b => RStore b1 (.cells zVFact.cells.toArray 47 (0, 0)) a b) (fun _ => RStore.refl _ _ _) (fun h k => RStore.trans h k) [
        (fun (u : Value) (_ : World) => u = (.agg (List.toArray zVFact.cells))),
        (fun (u : Value) (_ : World) => u = eS aB),
        (fun (u : Value) (_ : World) => u = .agg #[(strOf [97, 108, 108]), eS aB]),
        (fun (u : Value) (w : World) => ∃ b, u = .pointer (some ⟨b, 0, none⟩) ∧ b ≠ b1 ∧ w.heap[b]? = some (.cells #[(strOf [97, 108, 108]), eS aB] 164 (0, 0))),
        (fun (u : Value) (w : World) => ∃ b, u = .iface 160 (.pointer (some ⟨b, 0, none⟩)) ∧ b ≠ b1 ∧ w.heap[b]? = some (.cells #[(strOf [97, 108, 108]), eS aB] 164 (0, 0))),
        (fun (u : Value) (_ : World) => u = .int .i64 4),
        (fun (_ : Value) (w : World) => w.heap[b1]? = some (.cells zVFact.cells.toArray 47 (0, 0))),
        (fun (u : Value) (_ : World) => u = .int .i64 4)
      ] ⟨fun _ _ _ _ h => h, fun _ _ _ _ h => h, fun _ _ _ _ h => h, fun _ _ _ hE ⟨b, h1, h2, h3⟩ => ⟨b, h1, h2, Chg.blk hE.1 h3 h2⟩, fun _ _ _ hE ⟨b, h1, h2, h3⟩ => ⟨b, h1, h2, Chg.blk hE.1 h3 h2⟩, fun _ _ _ _ h => h, fun _ _ _ hE h => hE.2 h, fun _ _ _ _ h => h, trivial⟩ ⟨?_, ?_, ?_, ?_, ?_, ?_, ?_, ?_, trivial⟩ ?_
    · intro g w1 hR hf hd
      have h1 : g 6 = .pointer (some ⟨b2, 0, none⟩) := hf 6 (by decide)
      have hb1x := Chg.blk hR.1 (show w2.drew.heap[b2]? = _ from hkb2) (by omega)
      exact StepT.plain rfl (O.loadBlk (b := b2) (off := 0) (cs := zVFact.cells) rfl h1 hb1x Tryz.underlying47 rfl sz47 rfl ⟨RStore.refl _ _ _, rfl⟩)
    · intro g w1 hR hf hd
      exact StepT.plain rfl (O.loadOne (a := ⟨0, 0, none⟩) (v := eS aB) rfl rfl Tryz.underlying162 rfl ((hR.1.agr (show Agr H w2.drew from Ext.agr hEE hA) (fun k hk => by subst hk; exact hA.none hb1)).cell hG.gB) ⟨RStore.refl _ _ _, rfl⟩)
    · intro g w1 hR hf hd
      have h1 : (fun (u : Value) (_ : World) => u = eS aB) (g 13) w1 := hd.1 rfl
      exact StepT.plain rfl (O.build (vps := [(0, (strOf [97, 108, 108])), (1, eS aB)]) (cells := [(strOf [97, 108, 108]), eS aB]) rfl (by show [(0, _), (1, g 13)] = _; rw [h1]; rfl) (by kernel_rfl) ⟨RStore.refl _ _ _, rfl⟩)
    · intro g w1 hR hf hd
      have hkk := hR.2 (show w2.drew.heap[b1]? = _ from hk1)
      have h1 : (fun (u : Value) (_ : World) => u = .agg #[(strOf [97, 108, 108]), eS aB]) (g 14) w1 := hd.1 rfl
      refine StepT.plain rfl (O.box (v := .agg #[(strOf [97, 108, 108]), eS aB]) rfl h1 ?_)
      intro b w9 hb hb9 hE9 hk9
      exact ⟨⟨Chg.ofExt hE9, fun h => Ext.blk hE9 h⟩, b, rfl, (by have := blk_lt hkk; omega), hk9⟩
    · intro g w1 hR hf hd
      have h0 : (fun (u : Value) (w : World) => ∃ b, u = .pointer (some ⟨b, 0, none⟩) ∧ b ≠ b1 ∧ w.heap[b]? = some (.cells #[(strOf [97, 108, 108]), eS aB] 164 (0, 0))) (g 15) w1 := hd.1 rfl
      obtain ⟨b, h1, h2, h3⟩ := h0
      exact StepT.plain rfl (O.makeIface (v := .pointer (some ⟨b, 0, none⟩)) rfl h1 Tryz.underlying160 rfl ⟨RStore.refl _ _ _, b, rfl, h2, h3⟩)
    · intro g w1 hR hf hd
      have h0 : (fun (u : Value) (w : World) => ∃ b, u = .iface 160 (.pointer (some ⟨b, 0, none⟩)) ∧ b ≠ b1 ∧ w.heap[b]? = some (.cells #[(strOf [97, 108, 108]), eS aB] 164 (0, 0))) (g 16) w1 := hd.1 rfl
      obtain ⟨b, h1, h2, h3⟩ := h0
      have hN9 : Agr (Hadd NH b (.cells #[(strOf [97, 108, 108]), eS aB] 164 (0, 0))) w1 := fun k o ho => by
        by_cases hkb : k = b
        · subst hkb; rw [Hadd_same] at ho; cases ho; exact h3
        · rw [Hadd_ne _ _ hkb] at ho; cases ho
      refine StepT.plain rfl (O.call (fid := 86) (cap := #[]) (args := [.iface 160 (.pointer (some ⟨b, 0, none⟩))]) rfl rfl (by show [g 16] = _; rw [h1]) Tryz.func86 rfl rfl ?_)
      refine Calls.mono (told_bytes hG (hR.1.agr (show Agr H w2.drew from Ext.agr hEE hA) (fun k hk => by subst hk; exact hA.none hb1)) hN9 (.base (Hadd_same _ _ _))) ?_
      rintro r w9 ⟨rfl, hE9⟩
      exact ⟨_, rfl, ⟨Chg.ofExt hE9, fun h => Ext.blk hE9 h⟩, rfl⟩
    · intro g w1 hR hf hd
      have h1 : g 4 = .pointer (some ⟨b1, 0, none⟩) := hf 4 (by decide)
      have h2 : g 12 = (.agg (List.toArray zVFact.cells)) := hd.1 rfl
      have hkk := hR.2 (show w2.drew.heap[b1]? = _ from hk1)
      refine StepT.plain rfl (O.store (b := b1) (off := 0) (v := (.agg (List.toArray zVFact.cells))) (n := 73) (c' := zVFact.cells.toArray) rfl h1 h2 hkk sz47 rfl (Nat.le_refl _) (VFact.one zVFact_ok) rfl ?_)
      intro w9 hC hk9
      exact ⟨⟨hC, fun _ => hk9⟩, hk9⟩
    · intro g w1 hR hf hd
      have h1 : (fun (u : Value) (_ : World) => u = .int .i64 4) (g 17) w1 := hd.1 rfl
      exact StepT.plain rfl (O.assign (v := .int .i64 4) rfl h1 ⟨RStore.refl _ _ _, rfl⟩)
    intro g w9 hR hf hall
    have hk9 := hall.2.2.2.2.2.2.1
    have hf7 := hall.2.2.2.2.2.2.2.1
    have hf4 : g 4 = .pointer (some ⟨b1, 0, none⟩) := hf 4 (by decide)
    have hE9 : Ext w w9 := (hEE.trans (Ext.drew w2)).trans_new hR.1 fun i hi => .inl (by omega)
    refine hK5 _ _ ?_
    try clear hK5 K5
    refine W.ret ?_
    exact retQ_cell2 (b := b1) (cs := zVFact.cells) rfl hf4 hf7 hk9 Tryz.underlying47 rfl sz47 ⟨NH, _, _, rfl, (New.start w NoX).new hE9, ⟨zVFact, rfl, zVFact_ok⟩, .inl ⟨hbig, rfl, rfl⟩⟩
  refine W.cond_false (show evF _ _ = .bool false from congrArg Value.bool (by rw [decide_eq_false_iff_not]; show ¬ (262144 : Int) < bs.length; omega)) ?_
  refine W.skip ?_
  refine hK3 _ _ ?_
  cases hd : dFact bs with
  | some y =>
    refine W.seq fun K6 hK6 => ?_
    refine W.region ?_
    refine SeqOps.put 19 rfl rfl rfl (O.move (v := (.func (.func 43) #[] #[])) rfl rfl ?_)
    refine SeqOps.put 20 rfl rfl rfl (O.move (v := (.slice ao bs.length cap)) rfl rfl ?_)
    refine SeqOps.put 21 rfl rfl rfl (O.call (fid := 43) (cap := #[]) (args := [(.slice ao bs.length cap)]) rfl rfl rfl Tryz.func43 rfl rfl ?_)
    refine Calls.mono (read_Fact_calls (Ext.agr (hE1.trans hE2) hA) hG.gF r (Nat.le_trans hsm (by decide))) ?_
    intro e w3 hret
    obtain ⟨N, v5, rfl, n3, ⟨q, rfl, hqok⟩, hph⟩ := RetRd.good hd hret
    refine ⟨_, rfl, ?_⟩
    refine SeqOps.put 18 rfl rfl rfl (O.move (v := (.tuple #[(.agg (List.toArray q.cells)), .nilIface])) rfl rfl ?_)
    refine SeqOps.put 22 rfl rfl rfl (O.extract (v := (.agg (List.toArray q.cells))) rfl rfl rfl ?_)
    refine SeqOps.put 23 rfl rfl rfl (O.extract (v := .nilIface) rfl rfl rfl ?_)
    refine SeqOps.put 7 rfl rfl rfl (O.alloc rfl hz ?_)
    intro b7 w7 hb7 hb7l hE7 hk7
    refine SeqOps.eff rfl rfl (O.store (b := b7) (off := 0) (v := .agg (List.toArray q.cells)) (n := 73) (c' := q.cells.toArray) rfl rfl rfl hk7 sz47 rfl (Nat.le_refl _) (VFact.one hqok) rfl ?_)
    intro w8 hC8 hk8
    have hE8 : Ext w3 w8 := hE7.trans_new hC8 fun i hi => .inl (by omega)
    have n8 := n3.new hE8
    have hk1 : w8.heap[b1]? = some (.cells zVFact.cells.toArray 47 (0, 0)) := Ext.blk (n8.st.chg) (Ext.blk hE2 hkb1)
    have hs2 := hE2.size
    have hs8 := n8.st.chg.size
    have hs3 := n3.st.chg.size
    have hNb1 : N b1 = none := n3.st.low b1 (by omega)
    refine SeqOps.put 8 rfl rfl rfl (O.assign (v := .nilIface) rfl rfl ?_)
    refine SeqOps.nil ?_
    refine hK6 _ _ ?_
    try clear hK6 K6
    refine W.seq fun K7 hK7 => ?_
    refine W.seq fun K8 hK8 => ?_
    refine W.region ?_
    refine SeqOps.put 24 rfl rfl rfl (O.move (v := .nilIface) rfl rfl ?_)
    refine SeqOps.put 25 rfl rfl rfl (O.ifaceNil (v := .nilIface) (r := false) rfl rfl (.inl rfl) Tryz.underlying162 (.inr ⟨rfl, rfl⟩) ?_)
    refine SeqOps.nil ?_
    refine hK8 _ _ ?_
    try clear hK8 K8
    refine W.cond_false rfl ?_
    refine W.skip ?_
    refine hK7 _ _ ?_
    try clear hK7 K7
    refine W.seq fun K9 hK9 => ?_
    refine W.region ?_
    refine SeqOps.put 29 rfl rfl rfl (O.loadBlk (b := b7) (off := 0) (cs := q.cells) rfl rfl hk8 Tryz.underlying47 rfl sz47 rfl ?_)
    refine SeqOps.eff rfl rfl (O.store (b := b1) (off := 0) (v := .agg (List.toArray q.cells)) (n := 73) (c' := q.cells.toArray) rfl rfl rfl hk1 sz47 rfl (Nat.le_refl _) (VFact.one hqok) rfl ?_)
    intro w9 hC9 hk9
    refine SeqOps.put 5 rfl rfl rfl (O.assign (v := (.int .i64 (0))) rfl rfl ?_)
    refine SeqOps.nil ?_
    refine hK9 _ _ ?_
    try clear hK9 K9
    refine W.ret ?_
    have n9 := ((New.start w NoX).new (hE1.trans hE2)).trans (n8) (fun i hi => hi.elim)
    rw [Hm.nilL] at n9
    have nf := n9.step hC9 fun i hi => ⟨.inl (by omega), by subst hi; exact hNb1⟩
    exact retQ_cell2 (b := b1) (cs := q.cells) rfl rfl rfl hk9 Tryz.underlying47 rfl sz47 ⟨N, _, _, rfl, nf, ⟨q, rfl, hqok⟩, .inr (.inr ⟨y, hsm, hd, rfl, hph⟩)⟩
  | none =>
    refine W.seq fun K10 hK10 => ?_
    refine W.region ?_
    refine SeqOps.put 19 rfl rfl rfl (O.move (v := (.func (.func 43) #[] #[])) rfl rfl ?_)
    refine SeqOps.put 20 rfl rfl rfl (O.move (v := (.slice ao bs.length cap)) rfl rfl ?_)
    refine SeqOps.put 21 rfl rfl rfl (O.call (fid := 43) (cap := #[]) (args := [(.slice ao bs.length cap)]) rfl rfl rfl Tryz.func43 rfl rfl ?_)
    refine Calls.mono (read_Fact_calls (Ext.agr (hE1.trans hE2) hA) hG.gF r (Nat.le_trans hsm (by decide))) ?_
    intro e w3 hret
    obtain ⟨N, v5, be, rfl, n3, ⟨q, rfl, hqok⟩, her⟩ := RetRd.bad hd hret
    refine ⟨_, rfl, ?_⟩
    refine SeqOps.put 18 rfl rfl rfl (O.move (v := (.tuple #[(.agg (List.toArray q.cells)), (.iface 160 (.pointer (some ⟨be, 0, none⟩)))])) rfl rfl ?_)
    refine SeqOps.put 22 rfl rfl rfl (O.extract (v := (.agg (List.toArray q.cells))) rfl rfl rfl ?_)
    refine SeqOps.put 23 rfl rfl rfl (O.extract (v := (.iface 160 (.pointer (some ⟨be, 0, none⟩)))) rfl rfl rfl ?_)
    refine SeqOps.put 7 rfl rfl rfl (O.alloc rfl hz ?_)
    intro b7 w7 hb7 hb7l hE7 hk7
    refine SeqOps.eff rfl rfl (O.store (b := b7) (off := 0) (v := .agg (List.toArray q.cells)) (n := 73) (c' := q.cells.toArray) rfl rfl rfl hk7 sz47 rfl (Nat.le_refl _) (VFact.one hqok) rfl ?_)
    intro w8 hC8 hk8
    have hE8 : Ext w3 w8 := hE7.trans_new hC8 fun i hi => .inl (by omega)
    have n8 := n3.new hE8
    have hk1 : w8.heap[b1]? = some (.cells zVFact.cells.toArray 47 (0, 0)) := Ext.blk (n8.st.chg) (Ext.blk hE2 hkb1)
    have hs2 := hE2.size
    have hs8 := n8.st.chg.size
    have hs3 := n3.st.chg.size
    have hNb1 : N b1 = none := n3.st.low b1 (by omega)
    refine SeqOps.put 8 rfl rfl rfl (O.assign (v := (.iface 160 (.pointer (some ⟨be, 0, none⟩)))) rfl rfl ?_)
    refine SeqOps.nil ?_
    refine hK10 _ _ ?_
    try clear hK10 K10
    refine W.seq fun K11 hK11 => ?_
    refine W.seq fun K12 hK12 => ?_
    refine W.region ?_
    refine SeqOps.put 24 rfl rfl rfl (O.move (v := (.iface 160 (.pointer (some ⟨be, 0, none⟩)))) rfl rfl ?_)
    refine SeqOps.put 25 rfl rfl rfl (O.ifaceNil (v := (.iface 160 (.pointer (some ⟨be, 0, none⟩)))) (r := true) rfl rfl (.inr ⟨_, _, rfl⟩) Tryz.underlying162 (.inr ⟨rfl, rfl⟩) ?_)
    refine SeqOps.nil ?_
    refine hK12 _ _ ?_
    try clear hK12 K12
    refine W.cond_true rfl ?_
    refine W.seq fun K13 hK13 => ?_
    refine W.region_any (by kernel_rfl) (by kernel_rfl) [26, 27, 28, 5] rfl (fun a b => RStore b1 (.cells zVFact.cells.toArray 47 (0, 0)) a b) (fun _ => RStore.refl _ _ _) (fun h k => RStore.trans h k) [
        (fun (u : Value) (_ : World) => u = (.agg (List.toArray zVFact.cells))),
        (fun (u : Value) (_ : World) => u = .iface 160 (.pointer (some ⟨be, 0, none⟩))),
        (fun (u : Value) (_ : World) => u = .int .i64 5),
        (fun (_ : Value) (w : World) => w.heap[b1]? = some (.cells zVFact.cells.toArray 47 (0, 0))),
        (fun (u : Value) (_ : World) => u = .int .i64 5)
      ] ⟨fun _ _ _ _ h => h, fun _ _ _ _ h => h, fun _ _ _ _ h => h, fun _ _ _ hE h => hE.2 h, fun _ _ _ _ h => h, trivial⟩ ⟨?_, ?_, ?_, ?_, ?_, trivial⟩ ?_
    · intro g w1 hR hf hd
      have h1 : g 6 = .pointer (some ⟨b2, 0, none⟩) := hf 6 (by decide)
      have hb1x := Chg.blk hR.1 (show w8.drew.heap[b2]? = _ from Ext.blk n8.st.chg hkb2) (by omega)
      exact StepT.plain rfl (O.loadBlk (b := b2) (off := 0) (cs := zVFact.cells) rfl h1 hb1x Tryz.underlying47 rfl sz47 rfl ⟨RStore.refl _ _ _, rfl⟩)
    · intro g w1 hR hf hd
      have h1 : g 8 = .iface 160 (.pointer (some ⟨be, 0, none⟩)) := hf 8 (by decide)
      exact StepT.plain rfl (O.move (v := .iface 160 (.pointer (some ⟨be, 0, none⟩))) rfl h1 ⟨RStore.refl _ _ _, rfl⟩)
    · intro g w1 hR hf hd
      have h1 : (fun (u : Value) (_ : World) => u = .iface 160 (.pointer (some ⟨be, 0, none⟩))) (g 27) w1 := hd.1 rfl
      refine StepT.plain rfl (O.call (fid := 86) (cap := #[]) (args := [.iface 160 (.pointer (some ⟨be, 0, none⟩))]) rfl rfl (by show [g 27] = _; rw [h1]) Tryz.func86 rfl rfl ?_)
      refine Calls.mono (told_form hG (hR.1.agr (show Agr H w8.drew from Ext.agr ((hE1.trans hE2).trans n8.st.chg) hA) (fun k hk => by subst hk; exact hA.none hb1)) (hR.1.agr (show Agr N w8.drew from n8.st.agr) (fun k hk => by subst hk; exact hNb1)) her) ?_
      rintro r w9 ⟨rfl, hE9⟩
      exact ⟨_, rfl, ⟨Chg.ofExt hE9, fun h => Ext.blk hE9 h⟩, rfl⟩
    · intro g w1 hR hf hd
      have h1 : g 4 = .pointer (some ⟨b1, 0, none⟩) := hf 4 (by decide)
      have h2 : g 26 = (.agg (List.toArray zVFact.cells)) := hd.1 rfl
      have hkk := hR.2 (show w8.drew.heap[b1]? = _ from hk1)
      refine StepT.plain rfl (O.store (b := b1) (off := 0) (v := (.agg (List.toArray zVFact.cells))) (n := 73) (c' := zVFact.cells.toArray) rfl h1 h2 hkk sz47 rfl (Nat.le_refl _) (VFact.one zVFact_ok) rfl ?_)
      intro w9 hC hk9
      exact ⟨⟨hC, fun _ => hk9⟩, hk9⟩
    · intro g w1 hR hf hd
      have h1 : (fun (u : Value) (_ : World) => u = .int .i64 5) (g 28) w1 := hd.1 rfl
      exact StepT.plain rfl (O.assign (v := .int .i64 5) rfl h1 ⟨RStore.refl _ _ _, rfl⟩)
    intro g w9 hR hf hall
    have hk9 := hall.2.2.2.1
    have hf7 := hall.2.2.2.2.1
    have hf4 : g 4 = .pointer (some ⟨b1, 0, none⟩) := hf 4 (by decide)
    refine hK13 _ _ ?_
    try clear hK13 K13
    refine W.ret ?_
    have n9 := ((New.start w NoX).new (hE1.trans hE2)).trans (n8) (fun i hi => hi.elim)
    rw [Hm.nilL] at n9
    have nf := (n9.new (Ext.drew w8)).step hR.1 fun i hi => ⟨.inl (by omega), by subst hi; exact hNb1⟩
    exact retQ_cell2 (b := b1) (cs := zVFact.cells) rfl hf4 hf7 hk9 Tryz.underlying47 rfl sz47 ⟨N, _, _, rfl, nf, ⟨zVFact, rfl, zVFact_ok⟩, .inr (.inl ⟨hsm, hd, rfl, rfl⟩)⟩

theorem ReadFact_calls {aF aB : Addr} {H : Heap} {w : World} {v : Value} {bs : List UInt8} (hA : Agr H w) (hG : Globs aF aB H) (r : RB H v bs) :
    Calls Tryz.prog 8 #[v] w (RetC dFact wfFact (.agg (List.toArray zVFact.cells)) phFact w bs) := by
  have hz : (Tryz.prog.info? 47).bind (·.zero) = some (.agg (List.toArray zVFact.cells)) := by rw [← zVFact_cells]; exact zr47
  refine calls_of_W (n := 8) Tryz.func8 rfl Tryz.ntmps8 (Nat.le_of_ble_eq_true rfl) ?_
  refine W.seq fun K1 hK1 => ?_
  refine W.region ?_
  refine SeqOps.put 2 rfl rfl rfl (O.alloc rfl hz ?_)
  intro b1 w1 hb1 hb1l hE1 hkb1
  refine SeqOps.put 3 rfl rfl rfl (O.assign (v := (.int .i64 (0))) rfl rfl ?_)
  refine SeqOps.nil ?_
  refine hK1 _ _ ?_
  try clear hK1 K1
  refine W.seq fun K2 hK2 => ?_
  refine W.region ?_
  refine SeqOps.put 4 rfl rfl rfl (O.move (v := v) rfl rfl ?_)
  refine SeqOps.put 5 rfl rfl rfl (O.call (fid := 42) (cap := #[]) (args := [v, (.func (.func 43) #[] #[])]) rfl rfl rfl Tryz.func42 rfl rfl ?_)
  refine Calls.mono (face_Fact_calls (Ext.agr hE1 hA) hG r) ?_
  rintro e w3 ⟨N, _, n, rfl, n3, ⟨q, rfl, hqok⟩, hret⟩
  refine ⟨_, rfl, ?_⟩
  refine SeqOps.put 6 rfl rfl rfl (O.extract (v := (.agg (List.toArray q.cells))) rfl rfl rfl ?_)
  refine SeqOps.put 7 rfl rfl rfl (O.extract (v := (.int .i64 (n))) rfl rfl rfl ?_)
  refine SeqOps.eff rfl rfl (O.store (b := b1) (off := 0) (v := .agg (List.toArray q.cells)) (n := 73) (c' := q.cells.toArray) rfl rfl rfl (Ext.blk n3.st.chg hkb1) sz47 rfl (Nat.le_refl _) (VFact.one hqok) rfl ?_)
  intro w9 hC9 hk9
  refine SeqOps.put 3 rfl rfl rfl (O.assign (v := (.int .i64 (n))) rfl rfl ?_)
  refine SeqOps.nil ?_
  refine hK2 _ _ ?_
  try clear hK2 K2
  refine W.ret ?_
  have n9 := ((New.start w NoX).new hE1).trans n3 (fun i hi => hi.elim)
  rw [Hm.nilL] at n9
  have nf := n9.step hC9 fun i hi => ⟨.inl (by omega), by have e : i = b1 := hi; rw [e]; exact n3.st.low b1 (by omega)⟩
  exact retQ_cell2 (b := b1) (cs := q.cells) rfl rfl rfl hk9 Tryz.underlying47 rfl sz47 ⟨N, _, _, rfl, nf, ⟨q, rfl, hqok⟩, hret⟩

theorem face_Record_calls {aF aB : Addr} {H : Heap} {w : World} {v : Value} {bs : List UInt8} (hA : Agr H w) (hG : Globs aF aB H) (r : RB H v bs) :
    Calls Tryz.prog 61 #[v, .func (.func 62) #[] #[]] w (RetC dRecord wfRecord (.agg (List.toArray zVRecord.cells)) phRecord w bs) := by
  obtain ⟨ao, cap, rfl⟩ := RS.form r
  have hz : (Tryz.prog.info? 55).bind (·.zero) = some (.agg (List.toArray zVRecord.cells)) := by rw [← zVRecord_cells]; exact zr55
  refine calls_of_W (n := 30) Tryz.func61 rfl Tryz.ntmps61 (Nat.le_of_ble_eq_true rfl) ?_
  refine W.seq fun K1 hK1 => ?_
  refine W.region ?_
  refine SeqOps.put 4 rfl rfl rfl (O.alloc rfl hz ?_)
  intro b1 w1 hb1 hb1l hE1 hkb1
  refine SeqOps.put 5 rfl rfl rfl (O.assign (v := (.int .i64 (0))) rfl rfl ?_)
  refine SeqOps.nil ?_
  refine hK1 _ _ ?_
  try clear hK1 K1
  refine W.seq fun K2 hK2 => ?_
  refine W.region ?_
  refine SeqOps.put 6 rfl rfl rfl (O.alloc rfl hz ?_)
  intro b2 w2 hb2 hb2l hE2 hkb2
  refine SeqOps.nil ?_
  refine hK2 _ _ ?_
  try clear hK2 K2
  refine W.seq fun K3 hK3 => ?_
  refine W.seq fun K4 hK4 => ?_
  refine W.region ?_
  refine SeqOps.put 9 rfl rfl rfl (O.move (v := (.slice ao bs.length cap)) rfl rfl ?_)
  refine SeqOps.put 10 rfl rfl rfl (O.lenSlice (ad := ao) (n := bs.length) (c := cap) rfl rfl Tryz.underlying22 ?_)
  refine SeqOps.put 11 rfl rfl rfl (O.cmp (a := ((bs.length : Nat) : Int)) (b := 262144) (r := decide (((bs.length : Nat) : Int) > 262144)) rfl rfl rfl rfl ?_)
  refine SeqOps.nil ?_
  refine hK4 _ _ ?_
  try clear hK4 K4
  rcases Nat.lt_or_ge 262144 bs.length with hbig | hsm
  · have hEE : Ext w w2 := hE1.trans hE2
    have hk1 : w2.heap[b1]? = some (.cells zVRecord.cells.toArray 55 (0, 0)) := Ext.blk hE2 hkb1
    refine W.cond_true (show evF _ _ = .bool true from congrArg Value.bool (by rw [decide_eq_true_iff]; show (262144 : Int) < bs.length; omega)) ?_
    refine W.seq fun K5 hK5 => ?_
    refine W.region_any (by kernel_rfl) (by kernel_rfl) [12, 13, 14, 15, 16, 17, 5] rfl (fun a b => RStore b1 (.cells zVRecord.cells.toArray 55 (0, 0)) a b) (fun _ => RStore.refl _ _ _) (fun h k => RStore.trans h k) [
        (fun (u : Value) (_ : World) => u = (.agg (List.toArray zVRecord.cells))),
        (fun (u : Value) (_ : World) => u = eS aB),
        (fun (u : Value) (_ : World) => u = .agg #[(strOf [97, 108, 108]), eS aB]),
        (fun (u : Value) (w : World) => ∃ b, u = .pointer (some ⟨b, 0, none⟩) ∧ b ≠ b1 ∧ w.heap[b]? = some (.cells #[(strOf [97, 108, 108]), eS aB] 164 (0, 0))),
        (fun (u : Value) (w : World) => ∃ b, u = .iface 160 (.pointer (some ⟨b, 0, none⟩)) ∧ b ≠ b1 ∧ w.heap[b]? = some (.cells #[(strOf [97, 108, 108]), eS aB] 164 (0, 0))),
        (fun (u : Value) (_ : World) => u = .int .i64 4),
        (fun (_ : Value) (w : World) => w.heap[b1]? = some (.cells zVRecord.cells.toArray 55 (0, 0))),
        (fun (u : Value) (_ : World) => u = .int .i64 4)
      ] ⟨fun _ _ _ _ h => h, fun _ _ _ _ h => h, fun _ _ _ _ h => h, fun _ _ _ hE ⟨b, h1, h2, h3⟩ => ⟨b, h1, h2, Chg.blk hE.1 h3 h2⟩, fun _ _ _ hE ⟨b, h1, h2, h3⟩ => ⟨b, h1, h2, Chg.blk hE.1 h3 h2⟩, fun _ _ _ _ h => h, fun _ _ _ hE h => hE.2 h, fun _ _ _ _ h => h, trivial⟩ ⟨?_, ?_, ?_, ?_, ?_, ?_, ?_, ?_, trivial⟩ ?_
    · intro g w1 hR hf hd
      have h1 : g 6 = .pointer (some ⟨b2, 0, none⟩) := hf 6 (by decide)
      have hb1x := Chg.blk hR.1 (show w2.drew.heap[b2]? = _ from hkb2) (by omega)
      exact StepT.plain rfl (O.loadBlk (b := b2) (off := 0) (cs := zVRecord.cells) rfl h1 hb1x Tryz.underlying55 rfl sz55 rfl ⟨RStore.refl _ _ _, rfl⟩)
    · intro g w1 hR hf hd
      exact StepT.plain rfl (O.loadOne (a := ⟨0, 0, none⟩) (v := eS aB) rfl rfl Tryz.underlying162 rfl ((hR.1.agr (show Agr H w2.drew from Ext.agr hEE hA) (fun k hk => by subst hk; exact hA.none hb1)).cell hG.gB) ⟨RStore.refl _ _ _, rfl⟩)
    · intro g w1 hR hf hd
      have h1 : (fun (u : Value) (_ : World) => u = eS aB) (g 13) w1 := hd.1 rfl
      exact StepT.plain rfl (O.build (vps := [(0, (strOf [97, 108, 108])), (1, eS aB)]) (cells := [(strOf [97, 108, 108]), eS aB]) rfl (by show [(0, _), (1, g 13)] = _; rw [h1]; rfl) (by kernel_rfl) ⟨RStore.refl _ _ _, rfl⟩)
    · intro g w1 hR hf hd
      have hkk := hR.2 (show w2.drew.heap[b1]? = _ from hk1)
      have h1 : (fun (u : Value) (_ : World) => u = .agg #[(strOf [97, 108, 108]), eS aB]) (g 14) w1 := hd.1 rfl
      refine StepT.plain rfl (O.box (v := .agg #[(strOf [97, 108, 108]), eS aB]) rfl h1 ?_)
      intro b w9 hb hb9 hE9 hk9
      exact ⟨⟨Chg.ofExt hE9, fun h => Ext.blk hE9 h⟩, b, rfl, (by have := blk_lt hkk; omega), hk9⟩
    · intro g w1 hR hf hd
      have h0 : (fun (u : Value) (w : World) => ∃ b, u = .pointer (some ⟨b, 0, none⟩) ∧ b ≠ b1 ∧ w.heap[b]? = some (.cells #[(strOf [97, 108, 108]), eS aB] 164 (0, 0))) (g 15) w1 := hd.1 rfl
      obtain ⟨b, h1, h2, h3⟩ := h0
      exact StepT.plain rfl (O.makeIface (v := .pointer (some ⟨b, 0, none⟩)) rfl h1 Tryz.underlying160 rfl ⟨RStore.refl _ _ _, b, rfl, h2, h3⟩)
    · intro g w1 hR hf hd
      have h0 : (fun (u : Value) (w : World) => ∃ b, u = .iface 160 (.pointer (some ⟨b, 0, none⟩)) ∧ b ≠ b1 ∧ w.heap[b]? = some (.cells #[(strOf [97, 108, 108]), eS aB] 164 (0, 0))) (g 16) w1 := hd.1 rfl
      obtain ⟨b, h1, h2, h3⟩ := h0
      have hN9 : Agr (Hadd NH b (.cells #[(strOf [97, 108, 108]), eS aB] 164 (0, 0))) w1 := fun k o ho => by
        by_cases hkb : k = b
        · subst hkb; rw [Hadd_same] at ho; cases ho; exact h3
        · rw [Hadd_ne _ _ hkb] at ho; cases ho
      refine StepT.plain rfl (O.call (fid := 86) (cap := #[]) (args := [.iface 160 (.pointer (some ⟨b, 0, none⟩))]) rfl rfl (by show [g 16] = _; rw [h1]) Tryz.func86 rfl rfl ?_)
      refine Calls.mono (told_bytes hG (hR.1.agr (show Agr H w2.drew from Ext.agr hEE hA) (fun k hk => by subst hk; exact hA.none hb1)) hN9 (.base (Hadd_same _ _ _))) ?_
      rintro r w9 ⟨rfl, hE9⟩
      exact ⟨_, rfl, ⟨Chg.ofExt hE9, fun h => Ext.blk hE9 h⟩, rfl⟩
    · intro g w1 hR hf hd
      have h1 : g 4 = .pointer (some ⟨b1, 0, none⟩) := hf 4 (by decide)
      have h2 : g 12 = (.agg (List.toArray zVRecord.cells)) := hd.1 rfl
      have hkk := hR.2 (show w2.drew.heap[b1]? = _ from hk1)
      refine StepT.plain rfl (O.store (b := b1) (off := 0) (v := (.agg (List.toArray zVRecord.cells))) (n := 3) (c' := zVRecord.cells.toArray) rfl h1 h2 hkk sz55 rfl (Nat.le_refl _) (VRecord.one zVRecord_ok) rfl ?_)
      intro w9 hC hk9
      exact ⟨⟨hC, fun _ => hk9⟩, hk9⟩
    · intro g w1 hR hf hd
      have h1 : (fun (u : Value) (_ : World) => u = .int .i64 4) (g 17) w1 := hd.1 rfl
      exact StepT.plain rfl (O.assign (v := .int .i64 4) rfl h1 ⟨RStore.refl _ _ _, rfl⟩)
    intro g w9 hR hf hall
    have hk9 := hall.2.2.2.2.2.2.1
    have hf7 := hall.2.2.2.2.2.2.2.1
    have hf4 : g 4 = .pointer (some ⟨b1, 0, none⟩) := hf 4 (by decide)
    have hE9 : Ext w w9 := (hEE.trans (Ext.drew w2)).trans_new hR.1 fun i hi => .inl (by omega)
    refine hK5 _ _ ?_
    try clear hK5 K5
    refine W.ret ?_
    exact retQ_cell2 (b := b1) (cs := zVRecord.cells) rfl hf4 hf7 hk9 Tryz.underlying55 rfl sz55 ⟨NH, _, _, rfl, (New.start w NoX).new hE9, ⟨zVRecord, rfl, zVRecord_ok⟩, .inl ⟨hbig, rfl, rfl⟩⟩
  refine W.cond_false (show evF _ _ = .bool false from congrArg Value.bool (by rw [decide_eq_false_iff_not]; show ¬ (262144 : Int) < bs.length; omega)) ?_
  refine W.skip ?_
  refine hK3 _ _ ?_
  cases hd : dRecord bs with
  | some y =>
    refine W.seq fun K6 hK6 => ?_
    refine W.region ?_
    refine SeqOps.put 19 rfl rfl rfl (O.move (v := (.func (.func 62) #[] #[])) rfl rfl ?_)
    refine SeqOps.put 20 rfl rfl rfl (O.move (v := (.slice ao bs.length cap)) rfl rfl ?_)
    refine SeqOps.put 21 rfl rfl rfl (O.call (fid := 62) (cap := #[]) (args := [(.slice ao bs.length cap)]) rfl rfl rfl Tryz.func62 rfl rfl ?_)
    refine Calls.mono (read_Record_calls (Ext.agr (hE1.trans hE2) hA) hG.gF r (Nat.le_trans hsm (by decide))) ?_
    intro e w3 hret
    obtain ⟨N, v5, rfl, n3, ⟨q, rfl, hqok⟩, hph⟩ := RetRd.good hd hret
    refine ⟨_, rfl, ?_⟩
    refine SeqOps.put 18 rfl rfl rfl (O.move (v := (.tuple #[(.agg (List.toArray q.cells)), .nilIface])) rfl rfl ?_)
    refine SeqOps.put 22 rfl rfl rfl (O.extract (v := (.agg (List.toArray q.cells))) rfl rfl rfl ?_)
    refine SeqOps.put 23 rfl rfl rfl (O.extract (v := .nilIface) rfl rfl rfl ?_)
    refine SeqOps.put 7 rfl rfl rfl (O.alloc rfl hz ?_)
    intro b7 w7 hb7 hb7l hE7 hk7
    refine SeqOps.eff rfl rfl (O.store (b := b7) (off := 0) (v := .agg (List.toArray q.cells)) (n := 3) (c' := q.cells.toArray) rfl rfl rfl hk7 sz55 rfl (Nat.le_refl _) (VRecord.one hqok) rfl ?_)
    intro w8 hC8 hk8
    have hE8 : Ext w3 w8 := hE7.trans_new hC8 fun i hi => .inl (by omega)
    have n8 := n3.new hE8
    have hk1 : w8.heap[b1]? = some (.cells zVRecord.cells.toArray 55 (0, 0)) := Ext.blk (n8.st.chg) (Ext.blk hE2 hkb1)
    have hs2 := hE2.size
    have hs8 := n8.st.chg.size
    have hs3 := n3.st.chg.size
    have hNb1 : N b1 = none := n3.st.low b1 (by omega)
    refine SeqOps.put 8 rfl rfl rfl (O.assign (v := .nilIface) rfl rfl ?_)
    refine SeqOps.nil ?_
    refine hK6 _ _ ?_
    try clear hK6 K6
    refine W.seq fun K7 hK7 => ?_
    refine W.seq fun K8 hK8 => ?_
    refine W.region ?_
    refine SeqOps.put 24 rfl rfl rfl (O.move (v := .nilIface) rfl rfl ?_)
    refine SeqOps.put 25 rfl rfl rfl (O.ifaceNil (v := .nilIface) (r := false) rfl rfl (.inl rfl) Tryz.underlying162 (.inr ⟨rfl, rfl⟩) ?_)
    refine SeqOps.nil ?_
    refine hK8 _ _ ?_
    try clear hK8 K8
    refine W.cond_false rfl ?_
    refine W.skip ?_
    refine hK7 _ _ ?_
    try clear hK7 K7
    refine W.seq fun K9 hK9 => ?_
    refine W.region ?_
    refine SeqOps.put 29 rfl rfl rfl (O.loadBlk (b := b7) (off := 0) (cs := q.cells) rfl rfl hk8 Tryz.underlying55 rfl sz55 rfl ?_)
    refine SeqOps.eff rfl rfl (O.store (b := b1) (off := 0) (v := .agg (List.toArray q.cells)) (n := 3) (c' := q.cells.toArray) rfl rfl rfl hk1 sz55 rfl (Nat.le_refl _) (VRecord.one hqok) rfl ?_)
    intro w9 hC9 hk9
    refine SeqOps.put 5 rfl rfl rfl (O.assign (v := (.int .i64 (0))) rfl rfl ?_)
    refine SeqOps.nil ?_
    refine hK9 _ _ ?_
    try clear hK9 K9
    refine W.ret ?_
    have n9 := ((New.start w NoX).new (hE1.trans hE2)).trans (n8) (fun i hi => hi.elim)
    rw [Hm.nilL] at n9
    have nf := n9.step hC9 fun i hi => ⟨.inl (by omega), by subst hi; exact hNb1⟩
    exact retQ_cell2 (b := b1) (cs := q.cells) rfl rfl rfl hk9 Tryz.underlying55 rfl sz55 ⟨N, _, _, rfl, nf, ⟨q, rfl, hqok⟩, .inr (.inr ⟨y, hsm, hd, rfl, hph⟩)⟩
  | none =>
    refine W.seq fun K10 hK10 => ?_
    refine W.region ?_
    refine SeqOps.put 19 rfl rfl rfl (O.move (v := (.func (.func 62) #[] #[])) rfl rfl ?_)
    refine SeqOps.put 20 rfl rfl rfl (O.move (v := (.slice ao bs.length cap)) rfl rfl ?_)
    refine SeqOps.put 21 rfl rfl rfl (O.call (fid := 62) (cap := #[]) (args := [(.slice ao bs.length cap)]) rfl rfl rfl Tryz.func62 rfl rfl ?_)
    refine Calls.mono (read_Record_calls (Ext.agr (hE1.trans hE2) hA) hG.gF r (Nat.le_trans hsm (by decide))) ?_
    intro e w3 hret
    obtain ⟨N, v5, be, rfl, n3, ⟨q, rfl, hqok⟩, her⟩ := RetRd.bad hd hret
    refine ⟨_, rfl, ?_⟩
    refine SeqOps.put 18 rfl rfl rfl (O.move (v := (.tuple #[(.agg (List.toArray q.cells)), (.iface 160 (.pointer (some ⟨be, 0, none⟩)))])) rfl rfl ?_)
    refine SeqOps.put 22 rfl rfl rfl (O.extract (v := (.agg (List.toArray q.cells))) rfl rfl rfl ?_)
    refine SeqOps.put 23 rfl rfl rfl (O.extract (v := (.iface 160 (.pointer (some ⟨be, 0, none⟩)))) rfl rfl rfl ?_)
    refine SeqOps.put 7 rfl rfl rfl (O.alloc rfl hz ?_)
    intro b7 w7 hb7 hb7l hE7 hk7
    refine SeqOps.eff rfl rfl (O.store (b := b7) (off := 0) (v := .agg (List.toArray q.cells)) (n := 3) (c' := q.cells.toArray) rfl rfl rfl hk7 sz55 rfl (Nat.le_refl _) (VRecord.one hqok) rfl ?_)
    intro w8 hC8 hk8
    have hE8 : Ext w3 w8 := hE7.trans_new hC8 fun i hi => .inl (by omega)
    have n8 := n3.new hE8
    have hk1 : w8.heap[b1]? = some (.cells zVRecord.cells.toArray 55 (0, 0)) := Ext.blk (n8.st.chg) (Ext.blk hE2 hkb1)
    have hs2 := hE2.size
    have hs8 := n8.st.chg.size
    have hs3 := n3.st.chg.size
    have hNb1 : N b1 = none := n3.st.low b1 (by omega)
    refine SeqOps.put 8 rfl rfl rfl (O.assign (v := (.iface 160 (.pointer (some ⟨be, 0, none⟩)))) rfl rfl ?_)
    refine SeqOps.nil ?_
    refine hK10 _ _ ?_
    try clear hK10 K10
    refine W.seq fun K11 hK11 => ?_
    refine W.seq fun K12 hK12 => ?_
    refine W.region ?_
    refine SeqOps.put 24 rfl rfl rfl (O.move (v := (.iface 160 (.pointer (some ⟨be, 0, none⟩)))) rfl rfl ?_)
    refine SeqOps.put 25 rfl rfl rfl (O.ifaceNil (v := (.iface 160 (.pointer (some ⟨be, 0, none⟩)))) (r := true) rfl rfl (.inr ⟨_, _, rfl⟩) Tryz.underlying162 (.inr ⟨rfl, rfl⟩) ?_)
    refine SeqOps.nil ?_
    refine hK12 _ _ ?_
    try clear hK12 K12
    refine W.cond_true rfl ?_
    refine W.seq fun K13 hK13 => ?_
    refine W.region_any (by kernel_rfl) (by kernel_rfl) [26, 27, 28, 5] rfl (fun a b => RStore b1 (.cells zVRecord.cells.toArray 55 (0, 0)) a b) (fun _ => RStore.refl _ _ _) (fun h k => RStore.trans h k) [
        (fun (u : Value) (_ : World) => u = (.agg (List.toArray zVRecord.cells))),
        (fun (u : Value) (_ : World) => u = .iface 160 (.pointer (some ⟨be, 0, none⟩))),
        (fun (u : Value) (_ : World) => u = .int .i64 5),
        (fun (_ : Value) (w : World) => w.heap[b1]? = some (.cells zVRecord.cells.toArray 55 (0, 0))),
        (fun (u : Value) (_ : World) => u = .int .i64 5)
      ] ⟨fun _ _ _ _ h => h, fun _ _ _ _ h => h, fun _ _ _ _ h => h, fun _ _ _ hE h => hE.2 h, fun _ _ _ _ h => h, trivial⟩ ⟨?_, ?_, ?_, ?_, ?_, trivial⟩ ?_
    · intro g w1 hR hf hd
      have h1 : g 6 = .pointer (some ⟨b2, 0, none⟩) := hf 6 (by decide)
      have hb1x := Chg.blk hR.1 (show w8.drew.heap[b2]? = _ from Ext.blk n8.st.chg hkb2) (by omega)
      exact StepT.plain rfl (O.loadBlk (b := b2) (off := 0) (cs := zVRecord.cells) rfl h1 hb1x Tryz.underlying55 rfl sz55 rfl ⟨RStore.refl _ _ _, rfl⟩)
    · intro g w1 hR hf hd
      have h1 : g 8 = .iface 160 (.pointer (some ⟨be, 0, none⟩)) := hf 8 (by decide)
      exact StepT.plain rfl (O.move (v := .iface 160 (.pointer (some ⟨be, 0, none⟩))) rfl h1 ⟨RStore.refl _ _ _, rfl⟩)
    · intro g w1 hR hf hd
      have h1 : (fun (u : Value) (_ : World) => u = .iface 160 (.pointer (some ⟨be, 0, none⟩))) (g 27) w1 := hd.1 rfl
      refine StepT.plain rfl (O.call (fid := 86) (cap := #[]) (args := [.iface 160 (.pointer (some ⟨be, 0, none⟩))]) rfl rfl (by show [g 27] = _; rw [h1]) Tryz.func86 rfl rfl ?_)
      refine Calls.mono (told_form hG (hR.1.agr (show Agr H w8.drew from Ext.agr ((hE1.trans hE2).trans n8.st.chg) hA) (fun k hk => by subst hk; exact hA.none hb1)) (hR.1.agr (show Agr N w8.drew from n8.st.agr) (fun k hk => by subst hk; exact hNb1)) her) ?_
      rintro r w9 ⟨rfl, hE9⟩
      exact ⟨_, rfl, ⟨Chg.ofExt hE9, fun h => Ext.blk hE9 h⟩, rfl⟩
    · intro g w1 hR hf hd
      have h1 : g 4 = .pointer (some ⟨b1, 0, none⟩) := hf 4 (by decide)
      have h2 : g 26 = (.agg (List.toArray zVRecord.cells)) := hd.1 rfl
      have hkk := hR.2 (show w8.drew.heap[b1]? = _ from hk1)
      refine StepT.plain rfl (O.store (b := b1) (off := 0) (v := (.agg (List.toArray zVRecord.cells))) (n := 3) (c' := zVRecord.cells.toArray) rfl h1 h2 hkk sz55 rfl (Nat.le_refl _) (VRecord.one zVRecord_ok) rfl ?_)
      intro w9 hC hk9
      exact ⟨⟨hC, fun _ => hk9⟩, hk9⟩
    · intro g w1 hR hf hd
      have h1 : (fun (u : Value) (_ : World) => u = .int .i64 5) (g 28) w1 := hd.1 rfl
      exact StepT.plain rfl (O.assign (v := .int .i64 5) rfl h1 ⟨RStore.refl _ _ _, rfl⟩)
    intro g w9 hR hf hall
    have hk9 := hall.2.2.2.1
    have hf7 := hall.2.2.2.2.1
    have hf4 : g 4 = .pointer (some ⟨b1, 0, none⟩) := hf 4 (by decide)
    refine hK13 _ _ ?_
    try clear hK13 K13
    refine W.ret ?_
    have n9 := ((New.start w NoX).new (hE1.trans hE2)).trans (n8) (fun i hi => hi.elim)
    rw [Hm.nilL] at n9
    have nf := (n9.new (Ext.drew w8)).step hR.1 fun i hi => ⟨.inl (by omega), by subst hi; exact hNb1⟩
    exact retQ_cell2 (b := b1) (cs := zVRecord.cells) rfl hf4 hf7 hk9 Tryz.underlying55 rfl sz55 ⟨N, _, _, rfl, nf, ⟨zVRecord, rfl, zVRecord_ok⟩, .inr (.inl ⟨hsm, hd, rfl, rfl⟩)⟩

theorem ReadRecord_calls {aF aB : Addr} {H : Heap} {w : World} {v : Value} {bs : List UInt8} (hA : Agr H w) (hG : Globs aF aB H) (r : RB H v bs) :
    Calls Tryz.prog 12 #[v] w (RetC dRecord wfRecord (.agg (List.toArray zVRecord.cells)) phRecord w bs) := by
  have hz : (Tryz.prog.info? 55).bind (·.zero) = some (.agg (List.toArray zVRecord.cells)) := by rw [← zVRecord_cells]; exact zr55
  refine calls_of_W (n := 8) Tryz.func12 rfl Tryz.ntmps12 (Nat.le_of_ble_eq_true rfl) ?_
  refine W.seq fun K1 hK1 => ?_
  refine W.region ?_
  refine SeqOps.put 2 rfl rfl rfl (O.alloc rfl hz ?_)
  intro b1 w1 hb1 hb1l hE1 hkb1
  refine SeqOps.put 3 rfl rfl rfl (O.assign (v := (.int .i64 (0))) rfl rfl ?_)
  refine SeqOps.nil ?_
  refine hK1 _ _ ?_
  try clear hK1 K1
  refine W.seq fun K2 hK2 => ?_
  refine W.region ?_
  refine SeqOps.put 4 rfl rfl rfl (O.move (v := v) rfl rfl ?_)
  refine SeqOps.put 5 rfl rfl rfl (O.call (fid := 61) (cap := #[]) (args := [v, (.func (.func 62) #[] #[])]) rfl rfl rfl Tryz.func61 rfl rfl ?_)
  refine Calls.mono (face_Record_calls (Ext.agr hE1 hA) hG r) ?_
  rintro e w3 ⟨N, _, n, rfl, n3, ⟨q, rfl, hqok⟩, hret⟩
  refine ⟨_, rfl, ?_⟩
  refine SeqOps.put 6 rfl rfl rfl (O.extract (v := (.agg (List.toArray q.cells))) rfl rfl rfl ?_)
  refine SeqOps.put 7 rfl rfl rfl (O.extract (v := (.int .i64 (n))) rfl rfl rfl ?_)
  refine SeqOps.eff rfl rfl (O.store (b := b1) (off := 0) (v := .agg (List.toArray q.cells)) (n := 3) (c' := q.cells.toArray) rfl rfl rfl (Ext.blk n3.st.chg hkb1) sz55 rfl (Nat.le_refl _) (VRecord.one hqok) rfl ?_)
  intro w9 hC9 hk9
  refine SeqOps.put 3 rfl rfl rfl (O.assign (v := (.int .i64 (n))) rfl rfl ?_)
  refine SeqOps.nil ?_
  refine hK2 _ _ ?_
  try clear hK2 K2
  refine W.ret ?_
  have n9 := ((New.start w NoX).new hE1).trans n3 (fun i hi => hi.elim)
  rw [Hm.nilL] at n9
  have nf := n9.step hC9 fun i hi => ⟨.inl (by omega), by have e : i = b1 := hi; rw [e]; exact n3.st.low b1 (by omega)⟩
  exact retQ_cell2 (b := b1) (cs := q.cells) rfl rfl rfl hk9 Tryz.underlying55 rfl sz55 ⟨N, _, _, rfl, nf, ⟨q, rfl, hqok⟩, hret⟩

theorem face_Tx_calls {aF aB : Addr} {H : Heap} {w : World} {v : Value} {bs : List UInt8} (hA : Agr H w) (hG : Globs aF aB H) (r : RB H v bs) :
    Calls Tryz.prog 78 #[v, .func (.func 79) #[] #[]] w (RetC dTx wfTx (.agg (List.toArray zVTx.cells)) phTx w bs) := by
  obtain ⟨ao, cap, rfl⟩ := RS.form r
  have hz : (Tryz.prog.info? 82).bind (·.zero) = some (.agg (List.toArray zVTx.cells)) := by rw [← zVTx_cells]; exact zr82
  refine calls_of_W (n := 30) Tryz.func78 rfl Tryz.ntmps78 (Nat.le_of_ble_eq_true rfl) ?_
  refine W.seq fun K1 hK1 => ?_
  refine W.region ?_
  refine SeqOps.put 4 rfl rfl rfl (O.alloc rfl hz ?_)
  intro b1 w1 hb1 hb1l hE1 hkb1
  refine SeqOps.put 5 rfl rfl rfl (O.assign (v := (.int .i64 (0))) rfl rfl ?_)
  refine SeqOps.nil ?_
  refine hK1 _ _ ?_
  try clear hK1 K1
  refine W.seq fun K2 hK2 => ?_
  refine W.region ?_
  refine SeqOps.put 6 rfl rfl rfl (O.alloc rfl hz ?_)
  intro b2 w2 hb2 hb2l hE2 hkb2
  refine SeqOps.nil ?_
  refine hK2 _ _ ?_
  try clear hK2 K2
  refine W.seq fun K3 hK3 => ?_
  refine W.seq fun K4 hK4 => ?_
  refine W.region ?_
  refine SeqOps.put 9 rfl rfl rfl (O.move (v := (.slice ao bs.length cap)) rfl rfl ?_)
  refine SeqOps.put 10 rfl rfl rfl (O.lenSlice (ad := ao) (n := bs.length) (c := cap) rfl rfl Tryz.underlying22 ?_)
  refine SeqOps.put 11 rfl rfl rfl (O.cmp (a := ((bs.length : Nat) : Int)) (b := 262144) (r := decide (((bs.length : Nat) : Int) > 262144)) rfl rfl rfl rfl ?_)
  refine SeqOps.nil ?_
  refine hK4 _ _ ?_
  try clear hK4 K4
  rcases Nat.lt_or_ge 262144 bs.length with hbig | hsm
  · have hEE : Ext w w2 := hE1.trans hE2
    have hk1 : w2.heap[b1]? = some (.cells zVTx.cells.toArray 82 (0, 0)) := Ext.blk hE2 hkb1
    refine W.cond_true (show evF _ _ = .bool true from congrArg Value.bool (by rw [decide_eq_true_iff]; show (262144 : Int) < bs.length; omega)) ?_
    refine W.seq fun K5 hK5 => ?_
    refine W.region_any (by kernel_rfl) (by kernel_rfl) [12, 13, 14, 15, 16, 17, 5] rfl (fun a b => RStore b1 (.cells zVTx.cells.toArray 82 (0, 0)) a b) (fun _ => RStore.refl _ _ _) (fun h k => RStore.trans h k) [
        (fun (u : Value) (_ : World) => u = (.agg (List.toArray zVTx.cells))),
        (fun (u : Value) (_ : World) => u = eS aB),
        (fun (u : Value) (_ : World) => u = .agg #[(strOf [97, 108, 108]), eS aB]),
        (fun (u : Value) (w : World) => ∃ b, u = .pointer (some ⟨b, 0, none⟩) ∧ b ≠ b1 ∧ w.heap[b]? = some (.cells #[(strOf [97, 108, 108]), eS aB] 164 (0, 0))),
        (fun (u : Value) (w : World) => ∃ b, u = .iface 160 (.pointer (some ⟨b, 0, none⟩)) ∧ b ≠ b1 ∧ w.heap[b]? = some (.cells #[(strOf [97, 108, 108]), eS aB] 164 (0, 0))),
        (fun (u : Value) (_ : World) => u = .int .i64 4),
        (fun (_ : Value) (w : World) => w.heap[b1]? = some (.cells zVTx.cells.toArray 82 (0, 0))),
        (fun (u : Value) (_ : World) => u = .int .i64 4)
      ] ⟨fun _ _ _ _ h => h, fun _ _ _ _ h => h, fun _ _ _ _ h => h, fun _ _ _ hE ⟨b, h1, h2, h3⟩ => ⟨b, h1, h2, Chg.blk hE.1 h3 h2⟩, fun _ _ _ hE ⟨b, h1, h2, h3⟩ => ⟨b, h1, h2, Chg.blk hE.1 h3 h2⟩, fun _ _ _ _ h => h, fun _ _ _ hE h => hE.2 h, fun _ _ _ _ h => h, trivial⟩ ⟨?_, ?_, ?_, ?_, ?_, ?_, ?_, ?_, trivial⟩ ?_
    · intro g w1 hR hf hd
      have h1 : g 6 = .pointer (some ⟨b2, 0, none⟩) := hf 6 (by decide)
      have hb1x := Chg.blk hR.1 (show w2.drew.heap[b2]? = _ from hkb2) (by omega)
      exact StepT.plain rfl (O.loadBlk (b := b2) (off := 0) (cs := zVTx.cells) rfl h1 hb1x Tryz.underlying82 rfl sz82 rfl ⟨RStore.refl _ _ _, rfl⟩)
    · intro g w1 hR hf hd
      exact StepT.plain rfl (O.loadOne (a := ⟨0, 0, none⟩) (v := eS aB) rfl rfl Tryz.underlying162 rfl ((hR.1.agr (show Agr H w2.drew from Ext.agr hEE hA) (fun k hk => by subst hk; exact hA.none hb1)).cell hG.gB) ⟨RStore.refl _ _ _, rfl⟩)
    · intro g w1 hR hf hd
      have h1 : (fun (u : Value) (_ : World) => u = eS aB) (g 13) w1 := hd.1 rfl
      exact StepT.plain rfl (O.build (vps := [(0, (strOf [97, 108, 108])), (1, eS aB)]) (cells := [(strOf [97, 108, 108]), eS aB]) rfl (by show [(0, _), (1, g 13)] = _; rw [h1]; rfl) (by kernel_rfl) ⟨RStore.refl _ _ _, rfl⟩)
    · intro g w1 hR hf hd
      have hkk := hR.2 (show w2.drew.heap[b1]? = _ from hk1)
      have h1 : (fun (u : Value) (_ : World) => u = .agg #[(strOf [97, 108, 108]), eS aB]) (g 14) w1 := hd.1 rfl
      refine StepT.plain rfl (O.box (v := .agg #[(strOf [97, 108, 108]), eS aB]) rfl h1 ?_)
      intro b w9 hb hb9 hE9 hk9
      exact ⟨⟨Chg.ofExt hE9, fun h => Ext.blk hE9 h⟩, b, rfl, (by have := blk_lt hkk; omega), hk9⟩
    · intro g w1 hR hf hd
      have h0 : (fun (u : Value) (w : World) => ∃ b, u = .pointer (some ⟨b, 0, none⟩) ∧ b ≠ b1 ∧ w.heap[b]? = some (.cells #[(strOf [97, 108, 108]), eS aB] 164 (0, 0))) (g 15) w1 := hd.1 rfl
      obtain ⟨b, h1, h2, h3⟩ := h0
      exact StepT.plain rfl (O.makeIface (v := .pointer (some ⟨b, 0, none⟩)) rfl h1 Tryz.underlying160 rfl ⟨RStore.refl _ _ _, b, rfl, h2, h3⟩)
    · intro g w1 hR hf hd
      have h0 : (fun (u : Value) (w : World) => ∃ b, u = .iface 160 (.pointer (some ⟨b, 0, none⟩)) ∧ b ≠ b1 ∧ w.heap[b]? = some (.cells #[(strOf [97, 108, 108]), eS aB] 164 (0, 0))) (g 16) w1 := hd.1 rfl
      obtain ⟨b, h1, h2, h3⟩ := h0
      have hN9 : Agr (Hadd NH b (.cells #[(strOf [97, 108, 108]), eS aB] 164 (0, 0))) w1 := fun k o ho => by
        by_cases hkb : k = b
        · subst hkb; rw [Hadd_same] at ho; cases ho; exact h3
        · rw [Hadd_ne _ _ hkb] at ho; cases ho
      refine StepT.plain rfl (O.call (fid := 86) (cap := #[]) (args := [.iface 160 (.pointer (some ⟨b, 0, none⟩))]) rfl rfl (by show [g 16] = _; rw [h1]) Tryz.func86 rfl rfl ?_)
      refine Calls.mono (told_bytes hG (hR.1.agr (show Agr H w2.drew from Ext.agr hEE hA) (fun k hk => by subst hk; exact hA.none hb1)) hN9 (.base (Hadd_same _ _ _))) ?_
      rintro r w9 ⟨rfl, hE9⟩
      exact ⟨_, rfl, ⟨Chg.ofExt hE9, fun h => Ext.blk hE9 h⟩, rfl⟩
    · intro g w1 hR hf hd
      have h1 : g 4 = .pointer (some ⟨b1, 0, none⟩) := hf 4 (by decide)
      have h2 : g 12 = (.agg (List.toArray zVTx.cells)) := hd.1 rfl
      have hkk := hR.2 (show w2.drew.heap[b1]? = _ from hk1)
      refine StepT.plain rfl (O.store (b := b1) (off := 0) (v := (.agg (List.toArray zVTx.cells))) (n := 41) (c' := zVTx.cells.toArray) rfl h1 h2 hkk sz82 rfl (Nat.le_refl _) (VTx.one zVTx_ok) rfl ?_)
      intro w9 hC hk9
      exact ⟨⟨hC, fun _ => hk9⟩, hk9⟩
    · intro g w1 hR hf hd
      have h1 : (fun (u : Value) (_ : World) => u = .int .i64 4) (g 17) w1 := hd.1 rfl
      exact StepT.plain rfl (O.assign (v := .int .i64 4) rfl h1 ⟨RStore.refl _ _ _, rfl⟩)
    intro g w9 hR hf hall
    have hk9 := hall.2.2.2.2.2.2.1
    have hf7 := hall.2.2.2.2.2.2.2.1
    have hf4 : g 4 = .pointer (some ⟨b1, 0, none⟩) := hf 4 (by decide)
    have hE9 : Ext w w9 := (hEE.trans (Ext.drew w2)).trans_new hR.1 fun i hi => .inl (by omega)
    refine hK5 _ _ ?_
    try clear hK5 K5
    refine W.ret ?_
    exact retQ_cell2 (b := b1) (cs := zVTx.cells) rfl hf4 hf7 hk9 Tryz.underlying82 rfl sz82 ⟨NH, _, _, rfl, (New.start w NoX).new hE9, ⟨zVTx, rfl, zVTx_ok⟩, .inl ⟨hbig, rfl, rfl⟩⟩
  refine W.cond_false (show evF _ _ = .bool false from congrArg Value.bool (by rw [decide_eq_false_iff_not]; show ¬ (262144 : Int) < bs.length; omega)) ?_
  refine W.skip ?_
  refine hK3 _ _ ?_
  cases hd : dTx bs with
  | some y =>
    refine W.seq fun K6 hK6 => ?_
    refine W.region ?_
    refine SeqOps.put 19 rfl rfl rfl (O.move (v := (.func (.func 79) #[] #[])) rfl rfl ?_)
    refine SeqOps.put 20 rfl rfl rfl (O.move (v := (.slice ao bs.length cap)) rfl rfl ?_)
    refine SeqOps.put 21 rfl rfl rfl (O.call (fid := 79) (cap := #[]) (args := [(.slice ao bs.length cap)]) rfl rfl rfl Tryz.func79 rfl rfl ?_)
    refine Calls.mono (read_Tx_calls (Ext.agr (hE1.trans hE2) hA) hG.gF r (Nat.le_trans hsm (by decide))) ?_
    intro e w3 hret
    obtain ⟨N, v5, rfl, n3, ⟨q, rfl, hqok⟩, hph⟩ := RetRd.good hd hret
    refine ⟨_, rfl, ?_⟩
    refine SeqOps.put 18 rfl rfl rfl (O.move (v := (.tuple #[(.agg (List.toArray q.cells)), .nilIface])) rfl rfl ?_)
    refine SeqOps.put 22 rfl rfl rfl (O.extract (v := (.agg (List.toArray q.cells))) rfl rfl rfl ?_)
    refine SeqOps.put 23 rfl rfl rfl (O.extract (v := .nilIface) rfl rfl rfl ?_)
    refine SeqOps.put 7 rfl rfl rfl (O.alloc rfl hz ?_)
    intro b7 w7 hb7 hb7l hE7 hk7
    refine SeqOps.eff rfl rfl (O.store (b := b7) (off := 0) (v := .agg (List.toArray q.cells)) (n := 41) (c' := q.cells.toArray) rfl rfl rfl hk7 sz82 rfl (Nat.le_refl _) (VTx.one hqok) rfl ?_)
    intro w8 hC8 hk8
    have hE8 : Ext w3 w8 := hE7.trans_new hC8 fun i hi => .inl (by omega)
    have n8 := n3.new hE8
    have hk1 : w8.heap[b1]? = some (.cells zVTx.cells.toArray 82 (0, 0)) := Ext.blk (n8.st.chg) (Ext.blk hE2 hkb1)
    have hs2 := hE2.size
    have hs8 := n8.st.chg.size
    have hs3 := n3.st.chg.size
    have hNb1 : N b1 = none := n3.st.low b1 (by omega)
    refine SeqOps.put 8 rfl rfl rfl (O.assign (v := .nilIface) rfl rfl ?_)
    refine SeqOps.nil ?_
    refine hK6 _ _ ?_
    try clear hK6 K6
    refine W.seq fun K7 hK7 => ?_
    refine W.seq fun K8 hK8 => ?_
    refine W.region ?_
    refine SeqOps.put 24 rfl rfl rfl (O.move (v := .nilIface) rfl rfl ?_)
    refine SeqOps.put 25 rfl rfl rfl (O.ifaceNil (v := .nilIface) (r := false) rfl rfl (.inl rfl) Tryz.underlying162 (.inr ⟨rfl, rfl⟩) ?_)
    refine SeqOps.nil ?_
    refine hK8 _ _ ?_
    try clear hK8 K8
    refine W.cond_false rfl ?_
    refine W.skip ?_
    refine hK7 _ _ ?_
    try clear hK7 K7
    refine W.seq fun K9 hK9 => ?_
    refine W.region ?_
    refine SeqOps.put 29 rfl rfl rfl (O.loadBlk (b := b7) (off := 0) (cs := q.cells) rfl rfl hk8 Tryz.underlying82 rfl sz82 rfl ?_)
    refine SeqOps.eff rfl rfl (O.store (b := b1) (off := 0) (v := .agg (List.toArray q.cells)) (n := 41) (c' := q.cells.toArray) rfl rfl rfl hk1 sz82 rfl (Nat.le_refl _) (VTx.one hqok) rfl ?_)
    intro w9 hC9 hk9
    refine SeqOps.put 5 rfl rfl rfl (O.assign (v := (.int .i64 (0))) rfl rfl ?_)
    refine SeqOps.nil ?_
    refine hK9 _ _ ?_
    try clear hK9 K9
    refine W.ret ?_
    have n9 := ((New.start w NoX).new (hE1.trans hE2)).trans (n8) (fun i hi => hi.elim)
    rw [Hm.nilL] at n9
    have nf := n9.step hC9 fun i hi => ⟨.inl (by omega), by subst hi; exact hNb1⟩
    exact retQ_cell2 (b := b1) (cs := q.cells) rfl rfl rfl hk9 Tryz.underlying82 rfl sz82 ⟨N, _, _, rfl, nf, ⟨q, rfl, hqok⟩, .inr (.inr ⟨y, hsm, hd, rfl, hph⟩)⟩
  | none =>
    refine W.seq fun K10 hK10 => ?_
    refine W.region ?_
    refine SeqOps.put 19 rfl rfl rfl (O.move (v := (.func (.func 79) #[] #[])) rfl rfl ?_)
    refine SeqOps.put 20 rfl rfl rfl (O.move (v := (.slice ao bs.length cap)) rfl rfl ?_)
    refine SeqOps.put 21 rfl rfl rfl (O.call (fid := 79) (cap := #[]) (args := [(.slice ao bs.length cap)]) rfl rfl rfl Tryz.func79 rfl rfl ?_)
    refine Calls.mono (read_Tx_calls (Ext.agr (hE1.trans hE2) hA) hG.gF r (Nat.le_trans hsm (by decide))) ?_
    intro e w3 hret
    obtain ⟨N, v5, be, rfl, n3, ⟨q, rfl, hqok⟩, her⟩ := RetRd.bad hd hret
    refine ⟨_, rfl, ?_⟩
    refine SeqOps.put 18 rfl rfl rfl (O.move (v := (.tuple #[(.agg (List.toArray q.cells)), (.iface 160 (.pointer (some ⟨be, 0, none⟩)))])) rfl rfl ?_)
    refine SeqOps.put 22 rfl rfl rfl (O.extract (v := (.agg (List.toArray q.cells))) rfl rfl rfl ?_)
    refine SeqOps.put 23 rfl rfl rfl (O.extract (v := (.iface 160 (.pointer (some ⟨be, 0, none⟩)))) rfl rfl rfl ?_)
    refine SeqOps.put 7 rfl rfl rfl (O.alloc rfl hz ?_)
    intro b7 w7 hb7 hb7l hE7 hk7
    refine SeqOps.eff rfl rfl (O.store (b := b7) (off := 0) (v := .agg (List.toArray q.cells)) (n := 41) (c' := q.cells.toArray) rfl rfl rfl hk7 sz82 rfl (Nat.le_refl _) (VTx.one hqok) rfl ?_)
    intro w8 hC8 hk8
    have hE8 : Ext w3 w8 := hE7.trans_new hC8 fun i hi => .inl (by omega)
    have n8 := n3.new hE8
    have hk1 : w8.heap[b1]? = some (.cells zVTx.cells.toArray 82 (0, 0)) := Ext.blk (n8.st.chg) (Ext.blk hE2 hkb1)
    have hs2 := hE2.size
    have hs8 := n8.st.chg.size
    have hs3 := n3.st.chg.size
    have hNb1 : N b1 = none := n3.st.low b1 (by omega)
    refine SeqOps.put 8 rfl rfl rfl (O.assign (v := (.iface 160 (.pointer (some ⟨be, 0, none⟩)))) rfl rfl ?_)
    refine SeqOps.nil ?_
    refine hK10 _ _ ?_
    try clear hK10 K10
    refine W.seq fun K11 hK11 => ?_
    refine W.seq fun K12 hK12 => ?_
    refine W.region ?_
    refine SeqOps.put 24 rfl rfl rfl (O.move (v := (.iface 160 (.pointer (some ⟨be, 0, none⟩)))) rfl rfl ?_)
    refine SeqOps.put 25 rfl rfl rfl (O.ifaceNil (v := (.iface 160 (.pointer (some ⟨be, 0, none⟩)))) (r := true) rfl rfl (.inr ⟨_, _, rfl⟩) Tryz.underlying162 (.inr ⟨rfl, rfl⟩) ?_)
    refine SeqOps.nil ?_
    refine hK12 _ _ ?_
    try clear hK12 K12
    refine W.cond_true rfl ?_
    refine W.seq fun K13 hK13 => ?_
    refine W.region_any (by kernel_rfl) (by kernel_rfl) [26, 27, 28, 5] rfl (fun a b => RStore b1 (.cells zVTx.cells.toArray 82 (0, 0)) a b) (fun _ => RStore.refl _ _ _) (fun h k => RStore.trans h k) [
        (fun (u : Value) (_ : World) => u = (.agg (List.toArray zVTx.cells))),
        (fun (u : Value) (_ : World) => u = .iface 160 (.pointer (some ⟨be, 0, none⟩))),
        (fun (u : Value) (_ : World) => u = .int .i64 5),
        (fun (_ : Value) (w : World) => w.heap[b1]? = some (.cells zVTx.cells.toArray 82 (0, 0))),
        (fun (u : Value) (_ : World) => u = .int .i64 5)
      ] ⟨fun _ _ _ _ h => h, fun _ _ _ _ h => h, fun _ _ _ _ h => h, fun _ _ _ hE h => hE.2 h, fun _ _ _ _ h => h, trivial⟩ ⟨?_, ?_, ?_, ?_, ?_, trivial⟩ ?_
    · intro g w1 hR hf hd
      have h1 : g 6 = .pointer (some ⟨b2, 0, none⟩) := hf 6 (by decide)
      have hb1x := Chg.blk hR.1 (show w8.drew.heap[b2]? = _ from Ext.blk n8.st.chg hkb2) (by omega)
      exact StepT.plain rfl (O.loadBlk (b := b2) (off := 0) (cs := zVTx.cells) rfl h1 hb1x Tryz.underlying82 rfl sz82 rfl ⟨RStore.refl _ _ _, rfl⟩)
    · intro g w1 hR hf hd
      have h1 : g 8 = .iface 160 (.pointer (some ⟨be, 0, none⟩)) := hf 8 (by decide)
      exact StepT.plain rfl (O.move (v := .iface 160 (.pointer (some ⟨be, 0, none⟩))) rfl h1 ⟨RStore.refl _ _ _, rfl⟩)
    · intro g w1 hR hf hd
      have h1 : (fun (u : Value) (_ : World) => u = .iface 160 (.pointer (some ⟨be, 0, none⟩))) (g 27) w1 := hd.1 rfl
      refine StepT.plain rfl (O.call (fid := 86) (cap := #[]) (args := [.iface 160 (.pointer (some ⟨be, 0, none⟩))]) rfl rfl (by show [g 27] = _; rw [h1]) Tryz.func86 rfl rfl ?_)
      refine Calls.mono (told_form hG (hR.1.agr (show Agr H w8.drew from Ext.agr ((hE1.trans hE2).trans n8.st.chg) hA) (fun k hk => by subst hk; exact hA.none hb1)) (hR.1.agr (show Agr N w8.drew from n8.st.agr) (fun k hk => by subst hk; exact hNb1)) her) ?_
      rintro r w9 ⟨rfl, hE9⟩
      exact ⟨_, rfl, ⟨Chg.ofExt hE9, fun h => Ext.blk hE9 h⟩, rfl⟩
    · intro g w1 hR hf hd
      have h1 : g 4 = .pointer (some ⟨b1, 0, none⟩) := hf 4 (by decide)
      have h2 : g 26 = (.agg (List.toArray zVTx.cells)) := hd.1 rfl
      have hkk := hR.2 (show w8.drew.heap[b1]? = _ from hk1)
      refine StepT.plain rfl (O.store (b := b1) (off := 0) (v := (.agg (List.toArray zVTx.cells))) (n := 41) (c' := zVTx.cells.toArray) rfl h1 h2 hkk sz82 rfl (Nat.le_refl _) (VTx.one zVTx_ok) rfl ?_)
      intro w9 hC hk9
      exact ⟨⟨hC, fun _ => hk9⟩, hk9⟩
    · intro g w1 hR hf hd
      have h1 : (fun (u : Value) (_ : World) => u = .int .i64 5) (g 28) w1 := hd.1 rfl
      exact StepT.plain rfl (O.assign (v := .int .i64 5) rfl h1 ⟨RStore.refl _ _ _, rfl⟩)
    intro g w9 hR hf hall
    have hk9 := hall.2.2.2.1
    have hf7 := hall.2.2.2.2.1
    have hf4 : g 4 = .pointer (some ⟨b1, 0, none⟩) := hf 4 (by decide)
    refine hK13 _ _ ?_
    try clear hK13 K13
    refine W.ret ?_
    have n9 := ((New.start w NoX).new (hE1.trans hE2)).trans (n8) (fun i hi => hi.elim)
    rw [Hm.nilL] at n9
    have nf := (n9.new (Ext.drew w8)).step hR.1 fun i hi => ⟨.inl (by omega), by subst hi; exact hNb1⟩
    exact retQ_cell2 (b := b1) (cs := zVTx.cells) rfl hf4 hf7 hk9 Tryz.underlying82 rfl sz82 ⟨N, _, _, rfl, nf, ⟨zVTx, rfl, zVTx_ok⟩, .inr (.inl ⟨hsm, hd, rfl, rfl⟩)⟩

theorem ReadTx_calls {aF aB : Addr} {H : Heap} {w : World} {v : Value} {bs : List UInt8} (hA : Agr H w) (hG : Globs aF aB H) (r : RB H v bs) :
    Calls Tryz.prog 26 #[v] w (RetC dTx wfTx (.agg (List.toArray zVTx.cells)) phTx w bs) := by
  have hz : (Tryz.prog.info? 82).bind (·.zero) = some (.agg (List.toArray zVTx.cells)) := by rw [← zVTx_cells]; exact zr82
  refine calls_of_W (n := 8) Tryz.func26 rfl Tryz.ntmps26 (Nat.le_of_ble_eq_true rfl) ?_
  refine W.seq fun K1 hK1 => ?_
  refine W.region ?_
  refine SeqOps.put 2 rfl rfl rfl (O.alloc rfl hz ?_)
  intro b1 w1 hb1 hb1l hE1 hkb1
  refine SeqOps.put 3 rfl rfl rfl (O.assign (v := (.int .i64 (0))) rfl rfl ?_)
  refine SeqOps.nil ?_
  refine hK1 _ _ ?_
  try clear hK1 K1
  refine W.seq fun K2 hK2 => ?_
  refine W.region ?_
  refine SeqOps.put 4 rfl rfl rfl (O.move (v := v) rfl rfl ?_)
  refine SeqOps.put 5 rfl rfl rfl (O.call (fid := 78) (cap := #[]) (args := [v, (.func (.func 79) #[] #[])]) rfl rfl rfl Tryz.func78 rfl rfl ?_)
  refine Calls.mono (face_Tx_calls (Ext.agr hE1 hA) hG r) ?_
  rintro e w3 ⟨N, _, n, rfl, n3, ⟨q, rfl, hqok⟩, hret⟩
  refine ⟨_, rfl, ?_⟩
  refine SeqOps.put 6 rfl rfl rfl (O.extract (v := (.agg (List.toArray q.cells))) rfl rfl rfl ?_)
  refine SeqOps.put 7 rfl rfl rfl (O.extract (v := (.int .i64 (n))) rfl rfl rfl ?_)
  refine SeqOps.eff rfl rfl (O.store (b := b1) (off := 0) (v := .agg (List.toArray q.cells)) (n := 41) (c' := q.cells.toArray) rfl rfl rfl (Ext.blk n3.st.chg hkb1) sz82 rfl (Nat.le_refl _) (VTx.one hqok) rfl ?_)
  intro w9 hC9 hk9
  refine SeqOps.put 3 rfl rfl rfl (O.assign (v := (.int .i64 (n))) rfl rfl ?_)
  refine SeqOps.nil ?_
  refine hK2 _ _ ?_
  try clear hK2 K2
  refine W.ret ?_
  have n9 := ((New.start w NoX).new hE1).trans n3 (fun i hi => hi.elim)
  rw [Hm.nilL] at n9
  have nf := n9.step hC9 fun i hi => ⟨.inl (by omega), by have e : i = b1 := hi; rw [e]; exact n3.st.low b1 (by omega)⟩
  exact retQ_cell2 (b := b1) (cs := q.cells) rfl rfl rfl hk9 Tryz.underlying82 rfl sz82 ⟨N, _, _, rfl, nf, ⟨q, rfl, hqok⟩, hret⟩

theorem face_Block_calls {aF aB : Addr} {H : Heap} {w : World} {v : Value} {bs : List UInt8} (hA : Agr H w) (hG : Globs aF aB H) (r : RB H v bs) :
    Calls Tryz.prog 80 #[v, .func (.func 81) #[] #[]] w (RetC dBlock wfBlock (.agg (List.toArray zVBlock.cells)) phBlock w bs) := by
  obtain ⟨ao, cap, rfl⟩ := RS.form r
  have hz : (Tryz.prog.info? 91).bind (·.zero) = some (.agg (List.toArray zVBlock.cells)) := by rw [← zVBlock_cells]; exact zr91
  refine calls_of_W (n := 30) Tryz.func80 rfl Tryz.ntmps80 (Nat.le_of_ble_eq_true rfl) ?_
  refine W.seq fun K1 hK1 => ?_
  refine W.region ?_
  refine SeqOps.put 4 rfl rfl rfl (O.alloc rfl hz ?_)
  intro b1 w1 hb1 hb1l hE1 hkb1
  refine SeqOps.put 5 rfl rfl rfl (O.assign (v := (.int .i64 (0))) rfl rfl ?_)
  refine SeqOps.nil ?_
  refine hK1 _ _ ?_
  try clear hK1 K1
  refine W.seq fun K2 hK2 => ?_
  refine W.region ?_
  refine SeqOps.put 6 rfl rfl rfl (O.alloc rfl hz ?_)
  intro b2 w2 hb2 hb2l hE2 hkb2
  refine SeqOps.nil ?_
  refine hK2 _ _ ?_
  try clear hK2 K2
  refine W.seq fun K3 hK3 => ?_
  refine W.seq fun K4 hK4 => ?_
  refine W.region ?_
  refine SeqOps.put 9 rfl rfl rfl (O.move (v := (.slice ao bs.length cap)) rfl rfl ?_)
  refine SeqOps.put 10 rfl rfl rfl (O.lenSlice (ad := ao) (n := bs.length) (c := cap) rfl rfl Tryz.underlying22 ?_)
  refine SeqOps.put 11 rfl rfl rfl (O.cmp (a := ((bs.length : Nat) : Int)) (b := 262144) (r := decide (((bs.length : Nat) : Int) > 262144)) rfl rfl rfl rfl ?_)
  refine SeqOps.nil ?_
  refine hK4 _ _ ?_
  try clear hK4 K4
  rcases Nat.lt_or_ge 262144 bs.length with hbig | hsm
  · have hEE : Ext w w2 := hE1.trans hE2
    have hk1 : w2.heap[b1]? = some (.cells zVBlock.cells.toArray 91 (0, 0)) := Ext.blk hE2 hkb1
    refine W.cond_true (show evF _ _ = .bool true from congrArg Value.bool (by rw [decide_eq_true_iff]; show (262144 : Int) < bs.length; omega)) ?_
    refine W.seq fun K5 hK5 => ?_
    refine W.region_any (by kernel_rfl) (by kernel_rfl) [12, 13, 14, 15, 16, 17, 5] rfl (fun a b => RStore b1 (.cells zVBlock.cells.toArray 91 (0, 0)) a b) (fun _ => RStore.refl _ _ _) (fun h k => RStore.trans h k) [
        (fun (u : Value) (_ : World) => u = (.agg (List.toArray zVBlock.cells))),
        (fun (u : Value) (_ : World) => u = eS aB),
        (fun (u : Value) (_ : World) => u = .agg #[(strOf [97, 108, 108]), eS aB]),
        (fun (u : Value) (w : World) => ∃ b, u = .pointer (some ⟨b, 0, none⟩) ∧ b ≠ b1 ∧ w.heap[b]? = some (.cells #[(strOf [97, 108, 108]), eS aB] 164 (0, 0))),
        (fun (u : Value) (w : World) => ∃ b, u = .iface 160 (.pointer (some ⟨b, 0, none⟩)) ∧ b ≠ b1 ∧ w.heap[b]? = some (.cells #[(strOf [97, 108, 108]), eS aB] 164 (0, 0))),
        (fun (u : Value) (_ : World) => u = .int .i64 4),
        (fun (_ : Value) (w : World) => w.heap[b1]? = some (.cells zVBlock.cells.toArray 91 (0, 0))),
        (fun (u : Value) (_ : World) => u = .int .i64 4)
      ] ⟨fun _ _ _ _ h => h, fun _ _ _ _ h => h, fun _ _ _ _ h => h, fun _ _ _ hE ⟨b, h1, h2, h3⟩ => ⟨b, h1, h2, Chg.blk hE.1 h3 h2⟩, fun _ _ _ hE ⟨b, h1, h2, h3⟩ => ⟨b, h1, h2, Chg.blk hE.1 h3 h2⟩, fun _ _ _ _ h => h, fun _ _ _ hE h => hE.2 h, fun _ _ _ _ h => h, trivial⟩ ⟨?_, ?_, ?_, ?_, ?_, ?_, ?_, ?_, trivial⟩ ?_
    · intro g w1 hR hf hd
      have h1 : g 6 = .pointer (some ⟨b2, 0, none⟩) := hf 6 (by decide)
      have hb1x := Chg.blk hR.1 (show w2.drew.heap[b2]? = _ from hkb2) (by omega)
      exact StepT.plain rfl (O.loadBlk (b := b2) (off := 0) (cs := zVBlock.cells) rfl h1 hb1x Tryz.underlying91 rfl sz91 rfl ⟨RStore.refl _ _ _, rfl⟩)
    · intro g w1 hR hf hd
      exact StepT.plain rfl (O.loadOne (a := ⟨0, 0, none⟩) (v := eS aB) rfl rfl Tryz.underlying162 rfl ((hR.1.agr (show Agr H w2.drew from Ext.agr hEE hA) (fun k hk => by subst hk; exact hA.none hb1)).cell hG.gB) ⟨RStore.refl _ _ _, rfl⟩)
    · intro g w1 hR hf hd
      have h1 : (fun (u : Value) (_ : World) => u = eS aB) (g 13) w1 := hd.1 rfl
      exact StepT.plain rfl (O.build (vps := [(0, (strOf [97, 108, 108])), (1, eS aB)]) (cells := [(strOf [97, 108, 108]), eS aB]) rfl (by show [(0, _), (1, g 13)] = _; rw [h1]; rfl) (by kernel_rfl) ⟨RStore.refl _ _ _, rfl⟩)
    · intro g w1 hR hf hd
      have hkk := hR.2 (show w2.drew.heap[b1]? = _ from hk1)
      have h1 : (fun (u : Value) (_ : World) => u = .agg #[(strOf [97, 108, 108]), eS aB]) (g 14) w1 := hd.1 rfl
      refine StepT.plain rfl (O.box (v := .agg #[(strOf [97, 108, 108]), eS aB]) rfl h1 ?_)
      intro b w9 hb hb9 hE9 hk9
      exact ⟨⟨Chg.ofExt hE9, fun h => Ext.blk hE9 h⟩, b, rfl, (by have := blk_lt hkk; omega), hk9⟩
    · intro g w1 hR hf hd
      have h0 : (fun (u : Value) (w : World) => ∃ b, u = .pointer (some ⟨b, 0, none⟩) ∧ b ≠ b1 ∧ w.heap[b]? = some (.cells #[(strOf [97, 108, 108]), eS aB] 164 (0, 0))) (g 15) w1 := hd.1 rfl
      obtain ⟨b, h1, h2, h3⟩ := h0
      exact StepT.plain rfl (O.makeIface (v := .pointer (some ⟨b, 0, none⟩)) rfl h1 Tryz.underlying160 rfl ⟨RStore.refl _ _ _, b, rfl, h2, h3⟩)
    · intro g w1 hR hf hd
      have h0 : (fun (u : Value) (w : World) => ∃ b, u = .iface 160 (.pointer (some ⟨b, 0, none⟩)) ∧ b ≠ b1 ∧ w.heap[b]? = some (.cells #[(strOf [97, 108, 108]), eS aB] 164 (0, 0))) (g 16) w1 := hd.1 rfl
      obtain ⟨b, h1, h2, h3⟩ := h0
      have hN9 : Agr (Hadd NH b (.cells #[(strOf [97, 108, 108]), eS aB] 164 (0, 0))) w1 := fun k o ho => by
        by_cases hkb : k = b
        · subst hkb; rw [Hadd_same] at ho; cases ho; exact h3
        · rw [Hadd_ne _ _ hkb] at ho; cases ho
      refine StepT.plain rfl (O.call (fid := 86) (cap := #[]) (args := [.iface 160 (.pointer (some ⟨b, 0, none⟩))]) rfl rfl (by show [g 16] = _; rw [h1]) Tryz.func86 rfl rfl ?_)
      refine Calls.mono (told_bytes hG (hR.1.agr (show Agr H w2.drew from Ext.agr hEE hA) (fun k hk => by subst hk; exact hA.none hb1)) hN9 (.base (Hadd_same _ _ _))) ?_
      rintro r w9 ⟨rfl, hE9⟩
      exact ⟨_, rfl, ⟨Chg.ofExt hE9, fun h => Ext.blk hE9 h⟩, rfl⟩
    · intro g w1 hR hf hd
      have h1 : g 4 = .pointer (some ⟨b1, 0, none⟩) := hf 4 (by decide)
      have h2 : g 12 = (.agg (List.toArray zVBlock.cells)) := hd.1 rfl
      have hkk := hR.2 (show w2.drew.heap[b1]? = _ from hk1)
      refine StepT.plain rfl (O.store (b := b1) (off := 0) (v := (.agg (List.toArray zVBlock.cells))) (n := 173) (c' := zVBlock.cells.toArray) rfl h1 h2 hkk sz91 rfl (Nat.le_refl _) (VBlock.one zVBlock_ok) rfl ?_)
      intro w9 hC hk9
      exact ⟨⟨hC, fun _ => hk9⟩, hk9⟩
    · intro g w1 hR hf hd
      have h1 : (fun (u : Value) (_ : World) => u = .int .i64 4) (g 17) w1 := hd.1 rfl
      exact StepT.plain rfl (O.assign (v := .int .i64 4) rfl h1 ⟨RStore.refl _ _ _, rfl⟩)
    intro g w9 hR hf hall
    have hk9 := hall.2.2.2.2.2.2.1
    have hf7 := hall.2.2.2.2.2.2.2.1
    have hf4 : g 4 = .pointer (some ⟨b1, 0, none⟩) := hf 4 (by decide)
    have hE9 : Ext w w9 := (hEE.trans (Ext.drew w2)).trans_new hR.1 fun i hi => .inl (by omega)
    refine hK5 _ _ ?_
    try clear hK5 K5
    refine W.ret ?_
    exact retQ_cell2 (b := b1) (cs := zVBlock.cells) rfl hf4 hf7 hk9 Tryz.underlying91 rfl sz91 ⟨NH, _, _, rfl, (New.start w NoX).new hE9, ⟨zVBlock, rfl, zVBlock_ok⟩, .inl ⟨hbig, rfl, rfl⟩⟩
  refine W.cond_false (show evF _ _ = .bool false from congrArg Value.bool (by rw [decide_eq_false_iff_not]; show ¬ (262144 : Int) < bs.length; omega)) ?_
  refine W.skip ?_
  refine hK3 _ _ ?_
  cases hd : dBlock bs with
  | some y =>
    refine W.seq fun K6 hK6 => ?_
    refine W.region ?_
    refine SeqOps.put 19 rfl rfl rfl (O.move (v := (.func (.func 81) #[] #[])) rfl rfl ?_)
    refine SeqOps.put 20 rfl rfl rfl (O.move (v := (.slice ao bs.length cap)) rfl rfl ?_)
    refine SeqOps.put 21 rfl rfl rfl (O.call (fid := 81) (cap := #[]) (args := [(.slice ao bs.length cap)]) rfl rfl rfl Tryz.func81 rfl rfl ?_)
    refine Calls.mono (read_Block_calls (Ext.agr (hE1.trans hE2) hA) hG.gF r (Nat.le_trans hsm (by decide))) ?_
    intro e w3 hret
    obtain ⟨N, v5, rfl, n3, ⟨q, rfl, hqok⟩, hph⟩ := RetRd.good hd hret
    refine ⟨_, rfl, ?_⟩
    refine SeqOps.put 18 rfl rfl rfl (O.move (v := (.tuple #[(.agg (List.toArray q.cells)), .nilIface])) rfl rfl ?_)
    refine SeqOps.put 22 rfl rfl rfl (O.extract (v := (.agg (List.toArray q.cells))) rfl rfl rfl ?_)
    refine SeqOps.put 23 rfl rfl rfl (O.extract (v := .nilIface) rfl rfl rfl ?_)
    refine SeqOps.put 7 rfl rfl rfl (O.alloc rfl hz ?_)
    intro b7 w7 hb7 hb7l hE7 hk7
    refine SeqOps.eff rfl rfl (O.store (b := b7) (off := 0) (v := .agg (List.toArray q.cells)) (n := 173) (c' := q.cells.toArray) rfl rfl rfl hk7 sz91 rfl (Nat.le_refl _) (VBlock.one hqok) rfl ?_)
    intro w8 hC8 hk8
    have hE8 : Ext w3 w8 := hE7.trans_new hC8 fun i hi => .inl (by omega)
    have n8 := n3.new hE8
    have hk1 : w8.heap[b1]? = some (.cells zVBlock.cells.toArray 91 (0, 0)) := Ext.blk (n8.st.chg) (Ext.blk hE2 hkb1)
    have hs2 := hE2.size
    have hs8 := n8.st.chg.size
    have hs3 := n3.st.chg.size
    have hNb1 : N b1 = none := n3.st.low b1 (by omega)
    refine SeqOps.put 8 rfl rfl rfl (O.assign (v := .nilIface) rfl rfl ?_)
    refine SeqOps.nil ?_
    refine hK6 _ _ ?_
    try clear hK6 K6
    refine W.seq fun K7 hK7 => ?_
    refine W.seq fun K8 hK8 => ?_
    refine W.region ?_
    refine SeqOps.put 24 rfl rfl rfl (O.move (v := .nilIface) rfl rfl ?_)
    refine SeqOps.put 25 rfl rfl rfl (O.ifaceNil (v := .nilIface) (r := false) rfl rfl (.inl rfl) Tryz.underlying162 (.inr ⟨rfl, rfl⟩) ?_)
    refine SeqOps.nil ?_
    refine hK8 _ _ ?_
    try clear hK8 K8
    refine W.cond_false rfl ?_
    refine W.skip ?_
    refine hK7 _ _ ?_
    try clear hK7 K7
    refine W.seq fun K9 hK9 => ?_
    refine W.region ?_
    refine SeqOps.put 29 rfl rfl rfl (O.loadBlk (b := b7) (off := 0) (cs := q.cells) rfl rfl hk8 Tryz.underlying91 rfl sz91 rfl ?_)
    refine SeqOps.eff rfl rfl (O.store (b := b1) (off := 0) (v := .agg (List.toArray q.cells)) (n := 173) (c' := q.cells.toArray) rfl rfl rfl hk1 sz91 rfl (Nat.le_refl _) (VBlock.one hqok) rfl ?_)
    intro w9 hC9 hk9
    refine SeqOps.put 5 rfl rfl rfl (O.assign (v := (.int .i64 (0))) rfl rfl ?_)
    refine SeqOps.nil ?_
    refine hK9 _ _ ?_
    try clear hK9 K9
    refine W.ret ?_
    have n9 := ((New.start w NoX).new (hE1.trans hE2)).trans (n8) (fun i hi => hi.elim)
    rw [Hm.nilL] at n9
    have nf := n9.step hC9 fun i hi => ⟨.inl (by omega), by subst hi; exact hNb1⟩
    exact retQ_cell2 (b := b1) (cs := q.cells) rfl rfl rfl hk9 Tryz.underlying91 rfl sz91 ⟨N, _, _, rfl, nf, ⟨q, rfl, hqok⟩, .inr (.inr ⟨y, hsm, hd, rfl, hph⟩)⟩
  | none =>
    refine W.seq fun K10 hK10 => ?_
    refine W.region ?_
    refine SeqOps.put 19 rfl rfl rfl (O.move (v := (.func (.func 81) #[] #[])) rfl rfl ?_)
    refine SeqOps.put 20 rfl rfl rfl (O.move (v := (.slice ao bs.length cap)) rfl rfl ?_)
    refine SeqOps.put 21 rfl rfl rfl (O.call (fid := 81) (cap := #[]) (args := [(.slice ao bs.length cap)]) rfl rfl rfl Tryz.func81 rfl rfl ?_)
    refine Calls.mono (read_Block_calls (Ext.agr (hE1.trans hE2) hA) hG.gF r (Nat.le_trans hsm (by decide))) ?_
    intro e w3 hret
    obtain ⟨N, v5, be, rfl, n3, ⟨q, rfl, hqok⟩, her⟩ := RetRd.bad hd hret
    refine ⟨_, rfl, ?_⟩
    refine SeqOps.put 18 rfl rfl rfl (O.move (v := (.tuple #[(.agg (List.toArray q.cells)), (.iface 160 (.pointer (some ⟨be, 0, none⟩)))])) rfl rfl ?_)
    refine SeqOps.put 22 rfl rfl rfl (O.extract (v := (.agg (List.toArray q.cells))) rfl rfl rfl ?_)
    refine SeqOps.put 23 rfl rfl rfl (O.extract (v := (.iface 160 (.pointer (some ⟨be, 0, none⟩)))) rfl rfl rfl ?_)
    refine SeqOps.put 7 rfl rfl rfl (O.alloc rfl hz ?_)
    intro b7 w7 hb7 hb7l hE7 hk7
    refine SeqOps.eff rfl rfl (O.store (b := b7) (off := 0) (v := .agg (List.toArray q.cells)) (n := 173) (c' := q.cells.toArray) rfl rfl rfl hk7 sz91 rfl (Nat.le_refl _) (VBlock.one hqok) rfl ?_)
    intro w8 hC8 hk8
    have hE8 : Ext w3 w8 := hE7.trans_new hC8 fun i hi => .inl (by omega)
    have n8 := n3.new hE8
    have hk1 : w8.heap[b1]? = some (.cells zVBlock.cells.toArray 91 (0, 0)) := Ext.blk (n8.st.chg) (Ext.blk hE2 hkb1)
    have hs2 := hE2.size
    have hs8 := n8.st.chg.size
    have hs3 := n3.st.chg.size
    have hNb1 : N b1 = none := n3.st.low b1 (by omega)
    refine SeqOps.put 8 rfl rfl rfl (O.assign (v := (.iface 160 (.pointer (some ⟨be, 0, none⟩)))) rfl rfl ?_)
    refine SeqOps.nil ?_
    refine hK10 _ _ ?_
    try clear hK10 K10
    refine W.seq fun K11 hK11 => ?_
    refine W.seq fun K12 hK12 => ?_
    refine W.region ?_
    refine SeqOps.put 24 rfl rfl rfl (O.move (v := (.iface 160 (.pointer (some ⟨be, 0, none⟩)))) rfl rfl ?_)
    refine SeqOps.put 25 rfl rfl rfl (O.ifaceNil (v := (.iface 160 (.pointer (some ⟨be, 0, none⟩)))) (r := true) rfl rfl (.inr ⟨_, _, rfl⟩) Tryz.underlying162 (.inr ⟨rfl, rfl⟩) ?_)
    refine SeqOps.nil ?_
    refine hK12 _ _ ?_
    try clear hK12 K12
    refine W.cond_true rfl ?_
    refine W.seq fun K13 hK13 => ?_
    refine W.region_any (by kernel_rfl) (by kernel_rfl) [26, 27, 28, 5] rfl (fun a b => RStore b1 (.cells zVBlock.cells.toArray 91 (0, 0)) a b) (fun _ => RStore.refl _ _ _) (fun h k => RStore.trans h k) [
        (fun (u : Value) (_ : World) => u = (.agg (List.toArray zVBlock.cells))),
        (fun (u : Value) (_ : World) => u = .iface 160 (.pointer (some ⟨be, 0, none⟩))),
        (fun (u : Value) (_ : World) => u = .int .i64 5),
        (fun (_ : Value) (w : World) => w.heap[b1]? = some (.cells zVBlock.cells.toArray 91 (0, 0))),
        (fun (u : Value) (_ : World) => u = .int .i64 5)
      ] ⟨fun _ _ _ _ h => h, fun _ _ _ _ h => h, fun _ _ _ _ h => h, fun _ _ _ hE h => hE.2 h, fun _ _ _ _ h => h, trivial⟩ ⟨?_, ?_, ?_, ?_, ?_, trivial⟩ ?_
    · intro g w1 hR hf hd
      have h1 : g 6 = .pointer (some ⟨b2, 0, none⟩) := hf 6 (by decide)
      have hb1x := Chg.blk hR.1 (show w8.drew.heap[b2]? = _ from Ext.blk n8.st.chg hkb2) (by omega)
      exact StepT.plain rfl (O.loadBlk (b := b2) (off := 0) (cs := zVBlock.cells) rfl h1 hb1x Tryz.underlying91 rfl sz91 rfl ⟨RStore.refl _ _ _, rfl⟩)
    · intro g w1 hR hf hd
      have h1 : g 8 = .iface 160 (.pointer (some ⟨be, 0, none⟩)) := hf 8 (by decide)
      exact StepT.plain rfl (O.move (v := .iface 160 (.pointer (some ⟨be, 0, none⟩))) rfl h1 ⟨RStore.refl _ _ _, rfl⟩)
    · intro g w1 hR hf hd
      have h1 : (fun (u : Value) (_ : World) => u = .iface 160 (.pointer (some ⟨be, 0, none⟩))) (g 27) w1 := hd.1 rfl
      refine StepT.plain rfl (O.call (fid := 86) (cap := #[]) (args := [.iface 160 (.pointer (some ⟨be, 0, none⟩))]) rfl rfl (by show [g 27] = _; rw [h1]) Tryz.func86 rfl rfl ?_)
      refine Calls.mono (told_form hG (hR.1.agr (show Agr H w8.drew from Ext.agr ((hE1.trans hE2).trans n8.st.chg) hA) (fun k hk => by subst hk; exact hA.none hb1)) (hR.1.agr (show Agr N w8.drew from n8.st.agr) (fun k hk => by subst hk; exact hNb1)) her) ?_
      rintro r w9 ⟨rfl, hE9⟩
      exact ⟨_, rfl, ⟨Chg.ofExt hE9, fun h => Ext.blk hE9 h⟩, rfl⟩
    · intro g w1 hR hf hd
      have h1 : g 4 = .pointer (some ⟨b1, 0, none⟩) := hf 4 (by decide)
      have h2 : g 26 = (.agg (List.toArray zVBlock.cells)) := hd.1 rfl
      have hkk := hR.2 (show w8.drew.heap[b1]? = _ from hk1)
      refine StepT.plain rfl (O.store (b := b1) (off := 0) (v := (.agg (List.toArray zVBlock.cells))) (n := 173) (c' := zVBlock.cells.toArray) rfl h1 h2 hkk sz91 rfl (Nat.le_refl _) (VBlock.one zVBlock_ok) rfl ?_)
      intro w9 hC hk9
      exact ⟨⟨hC, fun _ => hk9⟩, hk9⟩
    · intro g w1 hR hf hd
      have h1 : (fun (u : Value) (_ : World) => u = .int .i64 5) (g 28) w1 := hd.1 rfl
      exact StepT.plain rfl (O.assign (v := .int .i64 5) rfl h1 ⟨RStore.refl _ _ _, rfl⟩)
    intro g w9 hR hf hall
    have hk9 := hall.2.2.2.1
    have hf7 := hall.2.2.2.2.1
    have hf4 : g 4 = .pointer (some ⟨b1, 0, none⟩) := hf 4 (by decide)
    refine hK13 _ _ ?_
    try clear hK13 K13
    refine W.ret ?_
    have n9 := ((New.start w NoX).new (hE1.trans hE2)).trans (n8) (fun i hi => hi.elim)
    rw [Hm.nilL] at n9
    have nf := (n9.new (Ext.drew w8)).step hR.1 fun i hi => ⟨.inl (by omega), by subst hi; exact hNb1⟩
    exact retQ_cell2 (b := b1) (cs := zVBlock.cells) rfl hf4 hf7 hk9 Tryz.underlying91 rfl sz91 ⟨N, _, _, rfl, nf, ⟨zVBlock, rfl, zVBlock_ok⟩, .inr (.inl ⟨hsm, hd, rfl, rfl⟩)⟩

theorem ReadBlock_calls {aF aB : Addr} {H : Heap} {w : World} {v : Value} {bs : List UInt8} (hA : Agr H w) (hG : Globs aF aB H) (r : RB H v bs) :
    Calls Tryz.prog 29 #[v] w (RetC dBlock wfBlock (.agg (List.toArray zVBlock.cells)) phBlock w bs) := by
  have hz : (Tryz.prog.info? 91).bind (·.zero) = some (.agg (List.toArray zVBlock.cells)) := by rw [← zVBlock_cells]; exact zr91
  refine calls_of_W (n := 8) Tryz.func29 rfl Tryz.ntmps29 (Nat.le_of_ble_eq_true rfl) ?_
  refine W.seq fun K1 hK1 => ?_
  refine W.region ?_
  refine SeqOps.put 2 rfl rfl rfl (O.alloc rfl hz ?_)
  intro b1 w1 hb1 hb1l hE1 hkb1
  refine SeqOps.put 3 rfl rfl rfl (O.assign (v := (.int .i64 (0))) rfl rfl ?_)
  refine SeqOps.nil ?_
  refine hK1 _ _ ?_
  try clear hK1 K1
  refine W.seq fun K2 hK2 => ?_
  refine W.region ?_
  refine SeqOps.put 4 rfl rfl rfl (O.move (v := v) rfl rfl ?_)
  refine SeqOps.put 5 rfl rfl rfl (O.call (fid := 80) (cap := #[]) (args := [v, (.func (.func 81) #[] #[])]) rfl rfl rfl Tryz.func80 rfl rfl ?_)
  refine Calls.mono (face_Block_calls (Ext.agr hE1 hA) hG r) ?_
  rintro e w3 ⟨N, _, n, rfl, n3, ⟨q, rfl, hqok⟩, hret⟩
  refine ⟨_, rfl, ?_⟩
  refine SeqOps.put 6 rfl rfl rfl (O.extract (v := (.agg (List.toArray q.cells))) rfl rfl rfl ?_)
  refine SeqOps.put 7 rfl rfl rfl (O.extract (v := (.int .i64 (n))) rfl rfl rfl ?_)
  refine SeqOps.eff rfl rfl (O.store (b := b1) (off := 0) (v := .agg (List.toArray q.cells)) (n := 173) (c' := q.cells.toArray) rfl rfl rfl (Ext.blk n3.st.chg hkb1) sz91 rfl (Nat.le_refl _) (VBlock.one hqok) rfl ?_)
  intro w9 hC9 hk9
  refine SeqOps.put 3 rfl rfl rfl (O.assign (v := (.int .i64 (n))) rfl rfl ?_)
  refine SeqOps.nil ?_
  refine hK2 _ _ ?_
  try clear hK2 K2
  refine W.ret ?_
  have n9 := ((New.start w NoX).new hE1).trans n3 (fun i hi => hi.elim)
  rw [Hm.nilL] at n9
  have nf := n9.step hC9 fun i hi => ⟨.inl (by omega), by have e : i = b1 := hi; rw [e]; exact n3.st.low b1 (by omega)⟩
  exact retQ_cell2 (b := b1) (cs := q.cells) rfl rfl rfl hk9 Tryz.underlying91 rfl sz91 ⟨N, _, _, rfl, nf, ⟨q, rfl, hqok⟩, hret⟩

theorem face_Vote_calls {aF aB : Addr} {H : Heap} {w : World} {v : Value} {bs : List UInt8} (hA : Agr H w) (hG : Globs aF aB H) (r : RB H v bs) :
    Calls Tryz.prog 82 #[v, .func (.func 83) #[] #[]] w (RetC dVote wfVote (.agg (List.toArray zVVote.cells)) phVote w bs) := by
  obtain ⟨ao, cap, rfl⟩ := RS.form r
  have hz : (Tryz.prog.info? 98).bind (·.zero) = some (.agg (List.toArray zVVote.cells)) := by rw [← zVVote_cells]; exact zr98
  refine calls_of_W (n := 30) Tryz.func82 rfl Tryz.ntmps82 (Nat.le_of_ble_eq_true rfl) ?_
  refine W.seq fun K1 hK1 => ?_
  refine W.region ?_
  refine SeqOps.put 4 rfl rfl rfl (O.alloc rfl hz ?_)
  intro b1 w1 hb1 hb1l hE1 hkb1
  refine SeqOps.put 5 rfl rfl rfl (O.assign (v := (.int .i64 (0))) rfl rfl ?_)
  refine SeqOps.nil ?_
  refine hK1 _ _ ?_
  try clear hK1 K1
  refine W.seq fun K2 hK2 => ?_
  refine W.region ?_
  refine SeqOps.put 6 rfl rfl rfl (O.alloc rfl hz ?_)
  intro b2 w2 hb2 hb2l hE2 hkb2
  refine SeqOps.nil ?_
  refine hK2 _ _ ?_
  try clear hK2 K2
  refine W.seq fun K3 hK3 => ?_
  refine W.seq fun K4 hK4 => ?_
  refine W.region ?_
  refine SeqOps.put 9 rfl rfl rfl (O.move (v := (.slice ao bs.length cap)) rfl rfl ?_)
  refine SeqOps.put 10 rfl rfl rfl (O.lenSlice (ad := ao) (n := bs.length) (c := cap) rfl rfl Tryz.underlying22 ?_)
  refine SeqOps.put 11 rfl rfl rfl (O.cmp (a := ((bs.length : Nat) : Int)) (b := 262144) (r := decide (((bs.length : Nat) : Int) > 262144)) rfl rfl rfl rfl ?_)
  refine SeqOps.nil ?_
  refine hK4 _ _ ?_
  try clear hK4 K4
  rcases Nat.lt_or_ge 262144 bs.length with hbig | hsm
  · have hEE : Ext w w2 := hE1.trans hE2
    have hk1 : w2.heap[b1]? = some (.cells zVVote.cells.toArray 98 (0, 0)) := Ext.blk hE2 hkb1
    refine W.cond_true (show evF _ _ = .bool true from congrArg Value.bool (by rw [decide_eq_true_iff]; show (262144 : Int) < bs.length; omega)) ?_
    refine W.seq fun K5 hK5 => ?_
    refine W.region_any (by kernel_rfl) (by kernel_rfl) [12, 13, 14, 15, 16, 17, 5] rfl (fun a b => RStore b1 (.cells zVVote.cells.toArray 98 (0, 0)) a b) (fun _ => RStore.refl _ _ _) (fun h k => RStore.trans h k) [
        (fun (u : Value) (_ : World) => u = (.agg (List.toArray zVVote.cells))),
        (fun (u : Value) (_ : World) => u = eS aB),
        (fun (u : Value) (_ : World) => u = .agg #[(strOf [97, 108, 108]), eS aB]),
        (fun (u : Value) (w : World) => ∃ b, u = .pointer (some ⟨b, 0, none⟩) ∧ b ≠ b1 ∧ w.heap[b]? = some (.cells #[(strOf [97, 108, 108]), eS aB] 164 (0, 0))),
        (fun (u : Value) (w : World) => ∃ b, u = .iface 160 (.pointer (some ⟨b, 0, none⟩)) ∧ b ≠ b1 ∧ w.heap[b]? = some (.cells #[(strOf [97, 108, 108]), eS aB] 164 (0, 0))),
        (fun (u : Value) (_ : World) => u = .int .i64 4),
        (fun (_ : Value) (w : World) => w.heap[b1]? = some (.cells zVVote.cells.toArray 98 (0, 0))),
        (fun (u : Value) (_ : World) => u = .int .i64 4)
      ] ⟨fun _ _ _ _ h => h, fun _ _ _ _ h => h, fun _ _ _ _ h => h, fun _ _ _ hE ⟨b, h1, h2, h3⟩ => ⟨b, h1, h2, Chg.blk hE.1 h3 h2⟩, fun _ _ _ hE ⟨b, h1, h2, h3⟩ => ⟨b, h1, h2, Chg.blk hE.1 h3 h2⟩, fun _ _ _ _ h => h, fun _ _ _ hE h => hE.2 h, fun _ _ _ _ h => h, trivial⟩ ⟨?_, ?_, ?_, ?_, ?_, ?_, ?_, ?_, trivial⟩ ?_
    · intro g w1 hR hf hd
      have h1 : g 6 = .pointer (some ⟨b2, 0, none⟩) := hf 6 (by decide)
      have hb1x := Chg.blk hR.1 (show w2.drew.heap[b2]? = _ from hkb2) (by omega)
      exact StepT.plain rfl (O.loadBlk (b := b2) (off := 0) (cs := zVVote.cells) rfl h1 hb1x Tryz.underlying98 rfl sz98 rfl ⟨RStore.refl _ _ _, rfl⟩)
    · intro g w1 hR hf hd
      exact StepT.plain rfl (O.loadOne (a := ⟨0, 0, none⟩) (v := eS aB) rfl rfl Tryz.underlying162 rfl ((hR.1.agr (show Agr H w2.drew from Ext.agr hEE hA) (fun k hk => by subst hk; exact hA.none hb1)).cell hG.gB) ⟨RStore.refl _ _ _, rfl⟩)
    · intro g w1 hR hf hd
      have h1 : (fun (u : Value) (_ : World) => u = eS aB) (g 13) w1 := hd.1 rfl
      exact StepT.plain rfl (O.build (vps := [(0, (strOf [97, 108, 108])), (1, eS aB)]) (cells := [(strOf [97, 108, 108]), eS aB]) rfl (by show [(0, _), (1, g 13)] = _; rw [h1]; rfl) (by kernel_rfl) ⟨RStore.refl _ _ _, rfl⟩)
    · intro g w1 hR hf hd
      have hkk := hR.2 (show w2.drew.heap[b1]? = _ from hk1)
      have h1 : (fun (u : Value) (_ : World) => u = .agg #[(strOf [97, 108, 108]), eS aB]) (g 14) w1 := hd.1 rfl
      refine StepT.plain rfl (O.box (v := .agg #[(strOf [97, 108, 108]), eS aB]) rfl h1 ?_)
      intro b w9 hb hb9 hE9 hk9
      exact ⟨⟨Chg.ofExt hE9, fun h => Ext.blk hE9 h⟩, b, rfl, (by have := blk_lt hkk; omega), hk9⟩
    · intro g w1 hR hf hd
      have h0 : (fun (u : Value) (w : World) => ∃ b, u = .pointer (some ⟨b, 0, none⟩) ∧ b ≠ b1 ∧ w.heap[b]? = some (.cells #[(strOf [97, 108, 108]), eS aB] 164 (0, 0))) (g 15) w1 := hd.1 rfl
      obtain ⟨b, h1, h2, h3⟩ := h0
      exact StepT.plain rfl (O.makeIface (v := .pointer (some ⟨b, 0, none⟩)) rfl h1 Tryz.underlying160 rfl ⟨RStore.refl _ _ _, b, rfl, h2, h3⟩)
    · intro g w1 hR hf hd
      have h0 : (fun (u : Value) (w : World) => ∃ b, u = .iface 160 (.pointer (some ⟨b, 0, none⟩)) ∧ b ≠ b1 ∧ w.heap[b]? = some (.cells #[(strOf [97, 108, 108]), eS aB] 164 (0, 0))) (g 16) w1 := hd.1 rfl
      obtain ⟨b, h1, h2, h3⟩ := h0
      have hN9 : Agr (Hadd NH b (.cells #[(strOf [97, 108, 108]), eS aB] 164 (0, 0))) w1 := fun k o ho => by
        by_cases hkb : k = b
        · subst hkb; rw [Hadd_same] at ho; cases ho; exact h3
        · rw [Hadd_ne _ _ hkb] at ho; cases ho
      refine StepT.plain rfl (O.call (fid := 86) (cap := #[]) (args := [.iface 160 (.pointer (some ⟨b, 0, none⟩))]) rfl rfl (by show [g 16] = _; rw [h1]) Tryz.func86 rfl rfl ?_)
      refine Calls.mono (told_bytes hG (hR.1.agr (show Agr H w2.drew from Ext.agr hEE hA) (fun k hk => by subst hk; exact hA.none hb1)) hN9 (.base (Hadd_same _ _ _))) ?_
      rintro r w9 ⟨rfl, hE9⟩
      exact ⟨_, rfl, ⟨Chg.ofExt hE9, fun h => Ext.blk hE9 h⟩, rfl⟩
    · intro g w1 hR hf hd
      have h1 : g 4 = .pointer (some ⟨b1, 0, none⟩) := hf 4 (by decide)
      have h2 : g 12 = (.agg (List.toArray zVVote.cells)) := hd.1 rfl
      have hkk := hR.2 (show w2.drew.heap[b1]? = _ from hk1)
      refine StepT.plain rfl (O.store (b := b1) (off := 0) (v := (.agg (List.toArray zVVote.cells))) (n := 69) (c' := zVVote.cells.toArray) rfl h1 h2 hkk sz98 rfl (Nat.le_refl _) (VVote.one zVVote_ok) rfl ?_)
      intro w9 hC hk9
      exact ⟨⟨hC, fun _ => hk9⟩, hk9⟩
    · intro g w1 hR hf hd
      have h1 : (fun (u : Value) (_ : World) => u = .int .i64 4) (g 17) w1 := hd.1 rfl
      exact StepT.plain rfl (O.assign (v := .int .i64 4) rfl h1 ⟨RStore.refl _ _ _, rfl⟩)
    intro g w9 hR hf hall
    have hk9 := hall.2.2.2.2.2.2.1
    have hf7 := hall.2.2.2.2.2.2.2.1
    have hf4 : g 4 = .pointer (some ⟨b1, 0, none⟩) := hf 4 (by decide)
    have hE9 : Ext w w9 := (hEE.trans (Ext.drew w2)).trans_new hR.1 fun i hi => .inl (by omega)
    refine hK5 _ _ ?_
    try clear hK5 K5
    refine W.ret ?_
    exact retQ_cell2 (b := b1) (cs := zVVote.cells) rfl hf4 hf7 hk9 Tryz.underlying98 rfl sz98 ⟨NH, _, _, rfl, (New.start w NoX).new hE9, ⟨zVVote, rfl, zVVote_ok⟩, .inl ⟨hbig, rfl, rfl⟩⟩
  refine W.cond_false (show evF _ _ = .bool false from congrArg Value.bool (by rw [decide_eq_false_iff_not]; show ¬ (262144 : Int) < bs.length; omega)) ?_
  refine W.skip ?_
  refine hK3 _ _ ?_
  cases hd : dVote bs with
  | some y =>
    refine W.seq fun K6 hK6 => ?_
    refine W.region ?_
    refine SeqOps.put 19 rfl rfl rfl (O.move (v := (.func (.func 83) #[] #[])) rfl rfl ?_)
    refine SeqOps.put 20 rfl rfl rfl (O.move (v := (.slice ao bs.length cap)) rfl rfl ?_)
    refine SeqOps.put 21 rfl rfl rfl (O.call (fid := 83) (cap := #[]) (args := [(.slice ao bs.length cap)]) rfl rfl rfl Tryz.func83 rfl rfl ?_)
    refine Calls.mono (read_Vote_calls (Ext.agr (hE1.trans hE2) hA) hG.gF r (Nat.le_trans hsm (by decide))) ?_
    intro e w3 hret
    obtain ⟨N, v5, rfl, n3, ⟨q, rfl, hqok⟩, hph⟩ := RetRd.good hd hret
    refine ⟨_, rfl, ?_⟩
    refine SeqOps.put 18 rfl rfl rfl (O.move (v := (.tuple #[(.agg (List.toArray q.cells)), .nilIface])) rfl rfl ?_)
    refine SeqOps.put 22 rfl rfl rfl (O.extract (v := (.agg (List.toArray q.cells))) rfl rfl rfl ?_)
    refine SeqOps.put 23 rfl rfl rfl (O.extract (v := .nilIface) rfl rfl rfl ?_)
    refine SeqOps.put 7 rfl rfl rfl (O.alloc rfl hz ?_)
    intro b7 w7 hb7 hb7l hE7 hk7
    refine SeqOps.eff rfl rfl (O.store (b := b7) (off := 0) (v := .agg (List.toArray q.cells)) (n := 69) (c' := q.cells.toArray) rfl rfl rfl hk7 sz98 rfl (Nat.le_refl _) (VVote.one hqok) rfl ?_)
    intro w8 hC8 hk8
    have hE8 : Ext w3 w8 := hE7.trans_new hC8 fun i hi => .inl (by omega)
    have n8 := n3.new hE8
    have hk1 : w8.heap[b1]? = some (.cells zVVote.cells.toArray 98 (0, 0)) := Ext.blk (n8.st.chg) (Ext.blk hE2 hkb1)
    have hs2 := hE2.size
    have hs8 := n8.st.chg.size
    have hs3 := n3.st.chg.size
    have hNb1 : N b1 = none := n3.st.low b1 (by omega)
    refine SeqOps.put 8 rfl rfl rfl (O.assign (v := .nilIface) rfl rfl ?_)
    refine SeqOps.nil ?_
    refine hK6 _ _ ?_
    try clear hK6 K6
    refine W.seq fun K7 hK7 => ?_
    refine W.seq fun K8 hK8 => ?_
    refine W.region ?_
    refine SeqOps.put 24 rfl rfl rfl (O.move (v := .nilIface) rfl rfl ?_)
    refine SeqOps.put 25 rfl rfl rfl (O.ifaceNil (v := .nilIface) (r := false) rfl rfl (.inl rfl) Tryz.underlying162 (.inr ⟨rfl, rfl⟩) ?_)
    refine SeqOps.nil ?_
    refine hK8 _ _ ?_
    try clear hK8 K8
    refine W.cond_false rfl ?_
    refine W.skip ?_
    refine hK7 _ _ ?_
    try clear hK7 K7
    refine W.seq fun K9 hK9 => ?_
    refine W.region ?_
    refine SeqOps.put 29 rfl rfl rfl (O.loadBlk (b := b7) (off := 0) (cs := q.cells) rfl rfl hk8 Tryz.underlying98 rfl sz98 rfl ?_)
    refine SeqOps.eff rfl rfl (O.store (b := b1) (off := 0) (v := .agg (List.toArray q.cells)) (n := 69) (c' := q.cells.toArray) rfl rfl rfl hk1 sz98 rfl (Nat.le_refl _) (VVote.one hqok) rfl ?_)
    intro w9 hC9 hk9
    refine SeqOps.put 5 rfl rfl rfl (O.assign (v := (.int .i64 (0))) rfl rfl ?_)
    refine SeqOps.nil ?_
    refine hK9 _ _ ?_
    try clear hK9 K9
    refine W.ret ?_
    have n9 := ((New.start w NoX).new (hE1.trans hE2)).trans (n8) (fun i hi => hi.elim)
    rw [Hm.nilL] at n9
    have nf := n9.step hC9 fun i hi => ⟨.inl (by omega), by subst hi; exact hNb1⟩
    exact retQ_cell2 (b := b1) (cs := q.cells) rfl rfl rfl hk9 Tryz.underlying98 rfl sz98 ⟨N, _, _, rfl, nf, ⟨q, rfl, hqok⟩, .inr (.inr ⟨y, hsm, hd, rfl, hph⟩)⟩
  | none =>
    refine W.seq fun K10 hK10 => ?_
    refine W.region ?_
    refine SeqOps.put 19 rfl rfl rfl (O.move (v := (.func (.func 83) #[] #[])) rfl rfl ?_)
    refine SeqOps.put 20 rfl rfl rfl (O.move (v := (.slice ao bs.length cap)) rfl rfl ?_)
    refine SeqOps.put 21 rfl rfl rfl (O.call (fid := 83) (cap := #[]) (args := [(.slice ao bs.length cap)]) rfl rfl rfl Tryz.func83 rfl rfl ?_)
    refine Calls.mono (read_Vote_calls (Ext.agr (hE1.trans hE2) hA) hG.gF r (Nat.le_trans hsm (by decide))) ?_
    intro e w3 hret
    obtain ⟨N, v5, be, rfl, n3, ⟨q, rfl, hqok⟩, her⟩ := RetRd.bad hd hret
    refine ⟨_, rfl, ?_⟩
    refine SeqOps.put 18 rfl rfl rfl (O.move (v := (.tuple #[(.agg (List.toArray q.cells)), (.iface 160 (.pointer (some ⟨be, 0, none⟩)))])) rfl rfl ?_)
    refine SeqOps.put 22 rfl rfl rfl (O.extract (v := (.agg (List.toArray q.cells))) rfl rfl rfl ?_)
    refine SeqOps.put 23 rfl rfl rfl (O.extract (v := (.iface 160 (.pointer (some ⟨be, 0, none⟩)))) rfl rfl rfl ?_)
    refine SeqOps.put 7 rfl rfl rfl (O.alloc rfl hz ?_)
    intro b7 w7 hb7 hb7l hE7 hk7
    refine SeqOps.eff rfl rfl (O.store (b := b7) (off := 0) (v := .agg (List.toArray q.cells)) (n := 69) (c' := q.cells.toArray) rfl rfl rfl hk7 sz98 rfl (Nat.le_refl _) (VVote.one hqok) rfl ?_)
    intro w8 hC8 hk8
    have hE8 : Ext w3 w8 := hE7.trans_new hC8 fun i hi => .inl (by omega)
    have n8 := n3.new hE8
    have hk1 : w8.heap[b1]? = some (.cells zVVote.cells.toArray 98 (0, 0)) := Ext.blk (n8.st.chg) (Ext.blk hE2 hkb1)
    have hs2 := hE2.size
    have hs8 := n8.st.chg.size
    have hs3 := n3.st.chg.size
    have hNb1 : N b1 = none := n3.st.low b1 (by omega)
    refine SeqOps.put 8 rfl rfl rfl (O.assign (v := (.iface 160 (.pointer (some ⟨be, 0, none⟩)))) rfl rfl ?_)
    refine SeqOps.nil ?_
    refine hK10 _ _ ?_
    try clear hK10 K10
    refine W.seq fun K11 hK11 => ?_
    refine W.seq fun K12 hK12 => ?_
    refine W.region ?_
    refine SeqOps.put 24 rfl rfl rfl (O.move (v := (.iface 160 (.pointer (some ⟨be, 0, none⟩)))) rfl rfl ?_)
    refine SeqOps.put 25 rfl rfl rfl (O.ifaceNil (v := (.iface 160 (.pointer (some ⟨be, 0, none⟩)))) (r := true) rfl rfl (.inr ⟨_, _, rfl⟩) Tryz.underlying162 (.inr ⟨rfl, rfl⟩) ?_)
    refine SeqOps.nil ?_
    refine hK12 _ _ ?_
    try clear hK12 K12
    refine W.cond_true rfl ?_
    refine W.seq fun K13 hK13 => ?_
    refine W.region_any (by kernel_rfl) (by kernel_rfl) [26, 27, 28, 5] rfl (fun a b => RStore b1 (.cells zVVote.cells.toArray 98 (0, 0)) a b) (fun _ => RStore.refl _ _ _) (fun h k => RStore.trans h k) [
        (fun (u : Value) (_ : World) => u = (.agg (List.toArray zVVote.cells))),
        (fun (u : Value) (_ : World) => u = .iface 160 (.pointer (some ⟨be, 0, none⟩))),
        (fun (u : Value) (_ : World) => u = .int .i64 5),
        (fun (_ : Value) (w : World) => w.heap[b1]? = some (.cells zVVote.cells.toArray 98 (0, 0))),
        (fun (u : Value) (_ : World) => u = .int .i64 5)
      ] ⟨fun _ _ _ _ h => h, fun _ _ _ _ h => h, fun _ _ _ _ h => h, fun _ _ _ hE h => hE.2 h, fun _ _ _ _ h => h, trivial⟩ ⟨?_, ?_, ?_, ?_, ?_, trivial⟩ ?_
    · intro g w1 hR hf hd
      have h1 : g 6 = .pointer (some ⟨b2, 0, none⟩) := hf 6 (by decide)
      have hb1x := Chg.blk hR.1 (show w8.drew.heap[b2]? = _ from Ext.blk n8.st.chg hkb2) (by omega)
      exact StepT.plain rfl (O.loadBlk (b := b2) (off := 0) (cs := zVVote.cells) rfl h1 hb1x Tryz.underlying98 rfl sz98 rfl ⟨RStore.refl _ _ _, rfl⟩)
    · intro g w1 hR hf hd
      have h1 : g 8 = .iface 160 (.pointer (some ⟨be, 0, none⟩)) := hf 8 (by decide)
      exact StepT.plain rfl (O.move (v := .iface 160 (.pointer (some ⟨be, 0, none⟩))) rfl h1 ⟨RStore.refl _ _ _, rfl⟩)
    · intro g w1 hR hf hd
      have h1 : (fun (u : Value) (_ : World) => u = .iface 160 (.pointer (some ⟨be, 0, none⟩))) (g 27) w1 := hd.1 rfl
      refine StepT.plain rfl (O.call (fid := 86) (cap := #[]) (args := [.iface 160 (.pointer (some ⟨be, 0, none⟩))]) rfl rfl (by show [g 27] = _; rw [h1]) Tryz.func86 rfl rfl ?_)
      refine Calls.mono (told_form hG (hR.1.agr (show Agr H w8.drew from Ext.agr ((hE1.trans hE2).trans n8.st.chg) hA) (fun k hk => by subst hk; exact hA.none hb1)) (hR.1.agr (show Agr N w8.drew from n8.st.agr) (fun k hk => by subst hk; exact hNb1)) her) ?_
      rintro r w9 ⟨rfl, hE9⟩
      exact ⟨_, rfl, ⟨Chg.ofExt hE9, fun h => Ext.blk hE9 h⟩, rfl⟩
    · intro g w1 hR hf hd
      have h1 : g 4 = .pointer (some ⟨b1, 0, none⟩) := hf 4 (by decide)
      have h2 : g 26 = (.agg (List.toArray zVVote.cells)) := hd.1 rfl
      have hkk := hR.2 (show w8.drew.heap[b1]? = _ from hk1)
      refine StepT.plain rfl (O.store (b := b1) (off := 0) (v := (.agg (List.toArray zVVote.cells))) (n := 69) (c' := zVVote.cells.toArray) rfl h1 h2 hkk sz98 rfl (Nat.le_refl _) (VVote.one zVVote_ok) rfl ?_)
      intro w9 hC hk9
      exact ⟨⟨hC, fun _ => hk9⟩, hk9⟩
    · intro g w1 hR hf hd
      have h1 : (fun (u : Value) (_ : World) => u = .int .i64 5) (g 28) w1 := hd.1 rfl
      exact StepT.plain rfl (O.assign (v := .int .i64 5) rfl h1 ⟨RStore.refl _ _ _, rfl⟩)
    intro g w9 hR hf hall
    have hk9 := hall.2.2.2.1
    have hf7 := hall.2.2.2.2.1
    have hf4 : g 4 = .pointer (some ⟨b1, 0, none⟩) := hf 4 (by decide)
    refine hK13 _ _ ?_
    try clear hK13 K13
    refine W.ret ?_
    have n9 := ((New.start w NoX).new (hE1.trans hE2)).trans (n8) (fun i hi => hi.elim)
    rw [Hm.nilL] at n9
    have nf := (n9.new (Ext.drew w8)).step hR.1 fun i hi => ⟨.inl (by omega), by subst hi; exact hNb1⟩
    exact retQ_cell2 (b := b1) (cs := zVVote.cells) rfl hf4 hf7 hk9 Tryz.underlying98 rfl sz98 ⟨N, _, _, rfl, nf, ⟨zVVote, rfl, zVVote_ok⟩, .inr (.inl ⟨hsm, hd, rfl, rfl⟩)⟩

theorem ReadVote_calls {aF aB : Addr} {H : Heap} {w : World} {v : Value} {bs : List UInt8} (hA : Agr H w) (hG : Globs aF aB H) (r : RB H v bs) :
    Calls Tryz.prog 32 #[v] w (RetC dVote wfVote (.agg (List.toArray zVVote.cells)) phVote w bs) := by
  have hz : (Tryz.prog.info? 98).bind (·.zero) = some (.agg (List.toArray zVVote.cells)) := by rw [← zVVote_cells]; exact zr98
  refine calls_of_W (n := 8) Tryz.func32 rfl Tryz.ntmps32 (Nat.le_of_ble_eq_true rfl) ?_
  refine W.seq fun K1 hK1 => ?_
  refine W.region ?_
  refine SeqOps.put 2 rfl rfl rfl (O.alloc rfl hz ?_)
  intro b1 w1 hb1 hb1l hE1 hkb1
  refine SeqOps.put 3 rfl rfl rfl (O.assign (v := (.int .i64 (0))) rfl rfl ?_)
  refine SeqOps.nil ?_
  refine hK1 _ _ ?_
  try clear hK1 K1
  refine W.seq fun K2 hK2 => ?_
  refine W.region ?_
  refine SeqOps.put 4 rfl rfl rfl (O.move (v := v) rfl rfl ?_)
  refine SeqOps.put 5 rfl rfl rfl (O.call (fid := 82) (cap := #[]) (args := [v, (.func (.func 83) #[] #[])]) rfl rfl rfl Tryz.func82 rfl rfl ?_)
  refine Calls.mono (face_Vote_calls (Ext.agr hE1 hA) hG r) ?_
  rintro e w3 ⟨N, _, n, rfl, n3, ⟨q, rfl, hqok⟩, hret⟩
  refine ⟨_, rfl, ?_⟩
  refine SeqOps.put 6 rfl rfl rfl (O.extract (v := (.agg (List.toArray q.cells))) rfl rfl rfl ?_)
  refine SeqOps.put 7 rfl rfl rfl (O.extract (v := (.int .i64 (n))) rfl rfl rfl ?_)
  refine SeqOps.eff rfl rfl (O.store (b := b1) (off := 0) (v := .agg (List.toArray q.cells)) (n := 69) (c' := q.cells.toArray) rfl rfl rfl (Ext.blk n3.st.chg hkb1) sz98 rfl (Nat.le_refl _) (VVote.one hqok) rfl ?_)
  intro w9 hC9 hk9
  refine SeqOps.put 3 rfl rfl rfl (O.assign (v := (.int .i64 (n))) rfl rfl ?_)
  refine SeqOps.nil ?_
  refine hK2 _ _ ?_
  try clear hK2 K2
  refine W.ret ?_
  have n9 := ((New.start w NoX).new hE1).trans n3 (fun i hi => hi.elim)
  rw [Hm.nilL] at n9
  have nf := n9.step hC9 fun i hi => ⟨.inl (by omega), by have e : i = b1 := hi; rw [e]; exact n3.st.low b1 (by omega)⟩
  exact retQ_cell2 (b := b1) (cs := q.cells) rfl rfl rfl hk9 Tryz.underlying98 rfl sz98 ⟨N, _, _, rfl, nf, ⟨q, rfl, hqok⟩, hret⟩

theorem face_Timeout_calls {aF aB : Addr} {H : Heap} {w : World} {v : Value} {bs : List UInt8} (hA : Agr H w) (hG : Globs aF aB H) (r : RB H v bs) :
    Calls Tryz.prog 84 #[v, .func (.func 85) #[] #[]] w (RetC dTimeout wfTimeout (.agg (List.toArray zVTimeout.cells)) phTimeout w bs) := by
  obtain ⟨ao, cap, rfl⟩ := RS.form r
  have hz : (Tryz.prog.info? 105).bind (·.zero) = some (.agg (List.toArray zVTimeout.cells)) := by rw [← zVTimeout_cells]; exact zr105
  refine calls_of_W (n := 30) Tryz.func84 rfl Tryz.ntmps84 (Nat.le_of_ble_eq_true rfl) ?_
  refine W.seq fun K1 hK1 => ?_
  refine W.region ?_
  refine SeqOps.put 4 rfl rfl rfl (O.alloc rfl hz ?_)
  intro b1 w1 hb1 hb1l hE1 hkb1
  refine SeqOps.put 5 rfl rfl rfl (O.assign (v := (.int .i64 (0))) rfl rfl ?_)
  refine SeqOps.nil ?_
  refine hK1 _ _ ?_
  try clear hK1 K1
  refine W.seq fun K2 hK2 => ?_
  refine W.region ?_
  refine SeqOps.put 6 rfl rfl rfl (O.alloc rfl hz ?_)
  intro b2 w2 hb2 hb2l hE2 hkb2
  refine SeqOps.nil ?_
  refine hK2 _ _ ?_
  try clear hK2 K2
  refine W.seq fun K3 hK3 => ?_
  refine W.seq fun K4 hK4 => ?_
  refine W.region ?_
  refine SeqOps.put 9 rfl rfl rfl (O.move (v := (.slice ao bs.length cap)) rfl rfl ?_)
  refine SeqOps.put 10 rfl rfl rfl (O.lenSlice (ad := ao) (n := bs.length) (c := cap) rfl rfl Tryz.underlying22 ?_)
  refine SeqOps.put 11 rfl rfl rfl (O.cmp (a := ((bs.length : Nat) : Int)) (b := 262144) (r := decide (((bs.length : Nat) : Int) > 262144)) rfl rfl rfl rfl ?_)
  refine SeqOps.nil ?_
  refine hK4 _ _ ?_
  try clear hK4 K4
  rcases Nat.lt_or_ge 262144 bs.length with hbig | hsm
  · have hEE : Ext w w2 := hE1.trans hE2
    have hk1 : w2.heap[b1]? = some (.cells zVTimeout.cells.toArray 105 (0, 0)) := Ext.blk hE2 hkb1
    refine W.cond_true (show evF _ _ = .bool true from congrArg Value.bool (by rw [decide_eq_true_iff]; show (262144 : Int) < bs.length; omega)) ?_
    refine W.seq fun K5 hK5 => ?_
    refine W.region_any (by kernel_rfl) (by kernel_rfl) [12, 13, 14, 15, 16, 17, 5] rfl (fun a b => RStore b1 (.cells zVTimeout.cells.toArray 105 (0, 0)) a b) (fun _ => RStore.refl _ _ _) (fun h k => RStore.trans h k) [
        (fun (u : Value) (_ : World) => u = (.agg (List.toArray zVTimeout.cells))),
        (fun (u : Value) (_ : World) => u = eS aB),
        (fun (u : Value) (_ : World) => u = .agg #[(strOf [97, 108, 108]), eS aB]),
        (fun (u : Value) (w : World) => ∃ b, u = .pointer (some ⟨b, 0, none⟩) ∧ b ≠ b1 ∧ w.heap[b]? = some (.cells #[(strOf [97, 108, 108]), eS aB] 164 (0, 0))),
        (fun (u : Value) (w : World) => ∃ b, u = .iface 160 (.pointer (some ⟨b, 0, none⟩)) ∧ b ≠ b1 ∧ w.heap[b]? = some (.cells #[(strOf [97, 108, 108]), eS aB] 164 (0, 0))),
        (fun (u : Value) (_ : World) => u = .int .i64 4),
        (fun (_ : Value) (w : World) => w.heap[b1]? = some (.cells zVTimeout.cells.toArray 105 (0, 0))),
        (fun (u : Value) (_ : World) => u = .int .i64 4)
      ] ⟨fun _ _ _ _ h => h, fun _ _ _ _ h => h, fun _ _ _ _ h => h, fun _ _ _ hE ⟨b, h1, h2, h3⟩ => ⟨b, h1, h2, Chg.blk hE.1 h3 h2⟩, fun _ _ _ hE ⟨b, h1, h2, h3⟩ => ⟨b, h1, h2, Chg.blk hE.1 h3 h2⟩, fun _ _ _ _ h => h, fun _ _ _ hE h => hE.2 h, fun _ _ _ _ h => h, trivial⟩ ⟨?_, ?_, ?_, ?_, ?_, ?_, ?_, ?_, trivial⟩ ?_
    · intro g w1 hR hf hd
      have h1 : g 6 = .pointer (some ⟨b2, 0, none⟩) := hf 6 (by decide)
      have hb1x := Chg.blk hR.1 (show w2.drew.heap[b2]? = _ from hkb2) (by omega)
      exact StepT.plain rfl (O.loadBlk (b := b2) (off := 0) (cs := zVTimeout.cells) rfl h1 hb1x Tryz.underlying105 rfl sz105 rfl ⟨RStore.refl _ _ _, rfl⟩)
    · intro g w1 hR hf hd
      exact StepT.plain rfl (O.loadOne (a := ⟨0, 0, none⟩) (v := eS aB) rfl rfl Tryz.underlying162 rfl ((hR.1.agr (show Agr H w2.drew from Ext.agr hEE hA) (fun k hk => by subst hk; exact hA.none hb1)).cell hG.gB) ⟨RStore.refl _ _ _, rfl⟩)
    · intro g w1 hR hf hd
      have h1 : (fun (u : Value) (_ : World) => u = eS aB) (g 13) w1 := hd.1 rfl
      exact StepT.plain rfl (O.build (vps := [(0, (strOf [97, 108, 108])), (1, eS aB)]) (cells := [(strOf [97, 108, 108]), eS aB]) rfl (by show [(0, _), (1, g 13)] = _; rw [h1]; rfl) (by kernel_rfl) ⟨RStore.refl _ _ _, rfl⟩)
    · intro g w1 hR hf hd
      have hkk := hR.2 (show w2.drew.heap[b1]? = _ from hk1)
      have h1 : (fun (u : Value) (_ : World) => u = .agg #[(strOf [97, 108, 108]), eS aB]) (g 14) w1 := hd.1 rfl
      refine StepT.plain rfl (O.box (v := .agg #[(strOf [97, 108, 108]), eS aB]) rfl h1 ?_)
      intro b w9 hb hb9 hE9 hk9
      exact ⟨⟨Chg.ofExt hE9, fun h => Ext.blk hE9 h⟩, b, rfl, (by have := blk_lt hkk; omega), hk9⟩
    · intro g w1 hR hf hd
      have h0 : (fun (u : Value) (w : World) => ∃ b, u = .pointer (some ⟨b, 0, none⟩) ∧ b ≠ b1 ∧ w.heap[b]? = some (.cells #[(strOf [97, 108, 108]), eS aB] 164 (0, 0))) (g 15) w1 := hd.1 rfl
      obtain ⟨b, h1, h2, h3⟩ := h0
      exact StepT.plain rfl (O.makeIface (v := .pointer (some ⟨b, 0, none⟩)) rfl h1 Tryz.underlying160 rfl ⟨RStore.refl _ _ _, b, rfl, h2, h3⟩)
    · intro g w1 hR hf hd
      have h0 : (fun (u : Value) (w : World) => ∃ b, u = .iface 160 (.pointer (some ⟨b, 0, none⟩)) ∧ b ≠ b1 ∧ w.heap[b]? = some (.cells #[(strOf [97, 108, 108]), eS aB] 164 (0, 0))) (g 16) w1 := hd.1 rfl
      obtain ⟨b, h1, h2, h3⟩ := h0
      have hN9 : Agr (Hadd NH b (.cells #[(strOf [97, 108, 108]), eS aB] 164 (0, 0))) w1 := fun k o ho => by
        by_cases hkb : k = b
        · subst hkb; rw [Hadd_same] at ho; cases ho; exact h3
        · rw [Hadd_ne _ _ hkb] at ho; cases ho
      refine StepT.plain rfl (O.call (fid := 86) (cap := #[]) (args := [.iface 160 (.pointer (some ⟨b, 0, none⟩))]) rfl rfl (by show [g 16] = _; rw [h1]) Tryz.func86 rfl rfl ?_)
      refine Calls.mono (told_bytes hG (hR.1.agr (show Agr H w2.drew from Ext.agr hEE hA) (fun k hk => by subst hk; exact hA.none hb1)) hN9 (.base (Hadd_same _ _ _))) ?_
      rintro r w9 ⟨rfl, hE9⟩
      exact ⟨_, rfl, ⟨Chg.ofExt hE9, fun h => Ext.blk hE9 h⟩, rfl⟩
    · intro g w1 hR hf hd
      have h1 : g 4 = .pointer (some ⟨b1, 0, none⟩) := hf 4 (by decide)
      have h2 : g 12 = (.agg (List.toArray zVTimeout.cells)) := hd.1 rfl
      have hkk := hR.2 (show w2.drew.heap[b1]? = _ from hk1)
      refine StepT.plain rfl (O.store (b := b1) (off := 0) (v := (.agg (List.toArray zVTimeout.cells))) (n := 74) (c' := zVTimeout.cells.toArray) rfl h1 h2 hkk sz105 rfl (Nat.le_refl _) (VTimeout.one zVTimeout_ok) rfl ?_)
      intro w9 hC hk9
      exact ⟨⟨hC, fun _ => hk9⟩, hk9⟩
    · intro g w1 hR hf hd
      have h1 : (fun (u : Value) (_ : World) => u = .int .i64 4) (g 17) w1 := hd.1 rfl
      exact StepT.plain rfl (O.assign (v := .int .i64 4) rfl h1 ⟨RStore.refl _ _ _, rfl⟩)
    intro g w9 hR hf hall
    have hk9 := hall.2.2.2.2.2.2.1
    have hf7 := hall.2.2.2.2.2.2.2.1
    have hf4 : g 4 = .pointer (some ⟨b1, 0, none⟩) := hf 4 (by decide)
    have hE9 : Ext w w9 := (hEE.trans (Ext.drew w2)).trans_new hR.1 fun i hi => .inl (by omega)
    refine hK5 _ _ ?_
    try clear hK5 K5
    refine W.ret ?_
    exact retQ_cell2 (b := b1) (cs := zVTimeout.cells) rfl hf4 hf7 hk9 Tryz.underlying105 rfl sz105 ⟨NH, _, _, rfl, (New.start w NoX).new hE9, ⟨zVTimeout, rfl, zVTimeout_ok⟩, .inl ⟨hbig, rfl, rfl⟩⟩
  refine W.cond_false (show evF _ _ = .bool false from congrArg Value.bool (by rw [decide_eq_false_iff_not]; show ¬ (262144 : Int) < bs.length; omega)) ?_
  refine W.skip ?_
  refine hK3 _ _ ?_
  cases hd : dTimeout bs with
  | some y =>
    refine W.seq fun K6 hK6 => ?_
    refine W.region ?_
    refine SeqOps.put 19 rfl rfl rfl (O.move (v := (.func (.func 85) #[] #[])) rfl rfl ?_)
    refine SeqOps.put 20 rfl rfl rfl (O.move (v := (.slice ao bs.length cap)) rfl rfl ?_)
    refine SeqOps.put 21 rfl rfl rfl (O.call (fid := 85) (cap := #[]) (args := [(.slice ao bs.length cap)]) rfl rfl rfl Tryz.func85 rfl rfl ?_)
    refine Calls.mono (read_Timeout_calls (Ext.agr (hE1.trans hE2) hA) hG.gF r (Nat.le_trans hsm (by decide))) ?_
    intro e w3 hret
    obtain ⟨N, v5, rfl, n3, ⟨q, rfl, hqok⟩, hph⟩ := RetRd.good hd hret
    refine ⟨_, rfl, ?_⟩
    refine SeqOps.put 18 rfl rfl rfl (O.move (v := (.tuple #[(.agg (List.toArray q.cells)), .nilIface])) rfl rfl ?_)
    refine SeqOps.put 22 rfl rfl rfl (O.extract (v := (.agg (List.toArray q.cells))) rfl rfl rfl ?_)
    refine SeqOps.put 23 rfl rfl rfl (O.extract (v := .nilIface) rfl rfl rfl ?_)
    refine SeqOps.put 7 rfl rfl rfl (O.alloc rfl hz ?_)
    intro b7 w7 hb7 hb7l hE7 hk7
    refine SeqOps.eff rfl rfl (O.store (b := b7) (off := 0) (v := .agg (List.toArray q.cells)) (n := 74) (c' := q.cells.toArray) rfl rfl rfl hk7 sz105 rfl (Nat.le_refl _) (VTimeout.one hqok) rfl ?_)
    intro w8 hC8 hk8
    have hE8 : Ext w3 w8 := hE7.trans_new hC8 fun i hi => .inl (by omega)
    have n8 := n3.new hE8
    have hk1 : w8.heap[b1]? = some (.cells zVTimeout.cells.toArray 105 (0, 0)) := Ext.blk (n8.st.chg) (Ext.blk hE2 hkb1)
    have hs2 := hE2.size
    have hs8 := n8.st.chg.size
    have hs3 := n3.st.chg.size
    have hNb1 : N b1 = none := n3.st.low b1 (by omega)
    refine SeqOps.put 8 rfl rfl rfl (O.assign (v := .nilIface) rfl rfl ?_)
    refine SeqOps.nil ?_
    refine hK6 _ _ ?_
    try clear hK6 K6
    refine W.seq fun K7 hK7 => ?_
    refine W.seq fun K8 hK8 => ?_
    refine W.region ?_
    refine SeqOps.put 24 rfl rfl rfl (O.move (v := .nilIface) rfl rfl ?_)
    refine SeqOps.put 25 rfl rfl rfl (O.ifaceNil (v := .nilIface) (r := false) rfl rfl (.inl rfl) Tryz.underlying162 (.inr ⟨rfl, rfl⟩) ?_)
    refine SeqOps.nil ?_
    refine hK8 _ _ ?_
    try clear hK8 K8
    refine W.cond_false rfl ?_
    refine W.skip ?_
    refine hK7 _ _ ?_
    try clear hK7 K7
    refine W.seq fun K9 hK9 => ?_
    refine W.region ?_
    refine SeqOps.put 29 rfl rfl rfl (O.loadBlk (b := b7) (off := 0) (cs := q.cells) rfl rfl hk8 Tryz.underlying105 rfl sz105 rfl ?_)
    refine SeqOps.eff rfl rfl (O.store (b := b1) (off := 0) (v := .agg (List.toArray q.cells)) (n := 74) (c' := q.cells.toArray) rfl rfl rfl hk1 sz105 rfl (Nat.le_refl _) (VTimeout.one hqok) rfl ?_)
    intro w9 hC9 hk9
    refine SeqOps.put 5 rfl rfl rfl (O.assign (v := (.int .i64 (0))) rfl rfl ?_)
    refine SeqOps.nil ?_
    refine hK9 _ _ ?_
    try clear hK9 K9
    refine W.ret ?_
    have n9 := ((New.start w NoX).new (hE1.trans hE2)).trans (n8) (fun i hi => hi.elim)
    rw [Hm.nilL] at n9
    have nf := n9.step hC9 fun i hi => ⟨.inl (by omega), by subst hi; exact hNb1⟩
    exact retQ_cell2 (b := b1) (cs := q.cells) rfl rfl rfl hk9 Tryz.underlying105 rfl sz105 ⟨N, _, _, rfl, nf, ⟨q, rfl, hqok⟩, .inr (.inr ⟨y, hsm, hd, rfl, hph⟩)⟩
  | none =>
    refine W.seq fun K10 hK10 => ?_
    refine W.region ?_
    refine SeqOps.put 19 rfl rfl rfl (O.move (v := (.func (.func 85) #[] #[])) rfl rfl ?_)
    refine SeqOps.put 20 rfl rfl rfl (O.move (v := (.slice ao bs.length cap)) rfl rfl ?_)
    refine SeqOps.put 21 rfl rfl rfl (O.call (fid := 85) (cap := #[]) (args := [(.slice ao bs.length cap)]) rfl rfl rfl Tryz.func85 rfl rfl ?_)
    refine Calls.mono (read_Timeout_calls (Ext.agr (hE1.trans hE2) hA) hG.gF r (Nat.le_trans hsm (by decide))) ?_
    intro e w3 hret
    obtain ⟨N, v5, be, rfl, n3, ⟨q, rfl, hqok⟩, her⟩ := RetRd.bad hd hret
    refine ⟨_, rfl, ?_⟩
    refine SeqOps.put 18 rfl rfl rfl (O.move (v := (.tuple #[(.agg (List.toArray q.cells)), (.iface 160 (.pointer (some ⟨be, 0, none⟩)))])) rfl rfl ?_)
    refine SeqOps.put 22 rfl rfl rfl (O.extract (v := (.agg (List.toArray q.cells))) rfl rfl rfl ?_)
    refine SeqOps.put 23 rfl rfl rfl (O.extract (v := (.iface 160 (.pointer (some ⟨be, 0, none⟩)))) rfl rfl rfl ?_)
    refine SeqOps.put 7 rfl rfl rfl (O.alloc rfl hz ?_)
    intro b7 w7 hb7 hb7l hE7 hk7
    refine SeqOps.eff rfl rfl (O.store (b := b7) (off := 0) (v := .agg (List.toArray q.cells)) (n := 74) (c' := q.cells.toArray) rfl rfl rfl hk7 sz105 rfl (Nat.le_refl _) (VTimeout.one hqok) rfl ?_)
    intro w8 hC8 hk8
    have hE8 : Ext w3 w8 := hE7.trans_new hC8 fun i hi => .inl (by omega)
    have n8 := n3.new hE8
    have hk1 : w8.heap[b1]? = some (.cells zVTimeout.cells.toArray 105 (0, 0)) := Ext.blk (n8.st.chg) (Ext.blk hE2 hkb1)
    have hs2 := hE2.size
    have hs8 := n8.st.chg.size
    have hs3 := n3.st.chg.size
    have hNb1 : N b1 = none := n3.st.low b1 (by omega)
    refine SeqOps.put 8 rfl rfl rfl (O.assign (v := (.iface 160 (.pointer (some ⟨be, 0, none⟩)))) rfl rfl ?_)
    refine SeqOps.nil ?_
    refine hK10 _ _ ?_
    try clear hK10 K10
    refine W.seq fun K11 hK11 => ?_
    refine W.seq fun K12 hK12 => ?_
    refine W.region ?_
    refine SeqOps.put 24 rfl rfl rfl (O.move (v := (.iface 160 (.pointer (some ⟨be, 0, none⟩)))) rfl rfl ?_)
    refine SeqOps.put 25 rfl rfl rfl (O.ifaceNil (v := (.iface 160 (.pointer (some ⟨be, 0, none⟩)))) (r := true) rfl rfl (.inr ⟨_, _, rfl⟩) Tryz.underlying162 (.inr ⟨rfl, rfl⟩) ?_)
    refine SeqOps.nil ?_
    refine hK12 _ _ ?_
    try clear hK12 K12
    refine W.cond_true rfl ?_
    refine W.seq fun K13 hK13 => ?_
    refine W.region_any (by kernel_rfl) (by kernel_rfl) [26, 27, 28, 5] rfl (fun a b => RStore b1 (.cells zVTimeout.cells.toArray 105 (0, 0)) a b) (fun _ => RStore.refl _ _ _) (fun h k => RStore.trans h k) [
        (fun (u : Value) (_ : World) => u = (.agg (List.toArray zVTimeout.cells))),
        (fun (u : Value) (_ : World) => u = .iface 160 (.pointer (some ⟨be, 0, none⟩))),
        (fun (u : Value) (_ : World) => u = .int .i64 5),
        (fun (_ : Value) (w : World) => w.heap[b1]? = some (.cells zVTimeout.cells.toArray 105 (0, 0))),
        (fun (u : Value) (_ : World) => u = .int .i64 5)
      ] ⟨fun _ _ _ _ h => h, fun _ _ _ _ h => h, fun _ _ _ _ h => h, fun _ _ _ hE h => hE.2 h, fun _ _ _ _ h => h, trivial⟩ ⟨?_, ?_, ?_, ?_, ?_, trivial⟩ ?_
    · intro g w1 hR hf hd
      have h1 : g 6 = .pointer (some ⟨b2, 0, none⟩) := hf 6 (by decide)
      have hb1x := Chg.blk hR.1 (show w8.drew.heap[b2]? = _ from Ext.blk n8.st.chg hkb2) (by omega)
      exact StepT.plain rfl (O.loadBlk (b := b2) (off := 0) (cs := zVTimeout.cells) rfl h1 hb1x Tryz.underlying105 rfl sz105 rfl ⟨RStore.refl _ _ _, rfl⟩)
    · intro g w1 hR hf hd
      have h1 : g 8 = .iface 160 (.pointer (some ⟨be, 0, none⟩)) := hf 8 (by decide)
      exact StepT.plain rfl (O.move (v := .iface 160 (.pointer (some ⟨be, 0, none⟩))) rfl h1 ⟨RStore.refl _ _ _, rfl⟩)
    · intro g w1 hR hf hd
      have h1 : (fun (u : Value) (_ : World) => u = .iface 160 (.pointer (some ⟨be, 0, none⟩))) (g 27) w1 := hd.1 rfl
      refine StepT.plain rfl (O.call (fid := 86) (cap := #[]) (args := [.iface 160 (.pointer (some ⟨be, 0, none⟩))]) rfl rfl (by show [g 27] = _; rw [h1]) Tryz.func86 rfl rfl ?_)
      refine Calls.mono (told_form hG (hR.1.agr (show Agr H w8.drew from Ext.agr ((hE1.trans hE2).trans n8.st.chg) hA) (fun k hk => by subst hk; exact hA.none hb1)) (hR.1.agr (show Agr N w8.drew from n8.st.agr) (fun k hk => by subst hk; exact hNb1)) her) ?_
      rintro r w9 ⟨rfl, hE9⟩
      exact ⟨_, rfl, ⟨Chg.ofExt hE9, fun h => Ext.blk hE9 h⟩, rfl⟩
    · intro g w1 hR hf hd
      have h1 : g 4 = .pointer (some ⟨b1, 0, none⟩) := hf 4 (by decide)
      have h2 : g 26 = (.agg (List.toArray zVTimeout.cells)) := hd.1 rfl
      have hkk := hR.2 (show w8.drew.heap[b1]? = _ from hk1)
      refine StepT.plain rfl (O.store (b := b1) (off := 0) (v := (.agg (List.toArray zVTimeout.cells))) (n := 74) (c' := zVTimeout.cells.toArray) rfl h1 h2 hkk sz105 rfl (Nat.le_refl _) (VTimeout.one zVTimeout_ok) rfl ?_)
      intro w9 hC hk9
      exact ⟨⟨hC, fun _ => hk9⟩, hk9⟩
    · intro g w1 hR hf hd
      have h1 : (fun (u : Value) (_ : World) => u = .int .i64 5) (g 28) w1 := hd.1 rfl
      exact StepT.plain rfl (O.assign (v := .int .i64 5) rfl h1 ⟨RStore.refl _ _ _, rfl⟩)
    intro g w9 hR hf hall
    have hk9 := hall.2.2.2.1
    have hf7 := hall.2.2.2.2.1
    have hf4 : g 4 = .pointer (some ⟨b1, 0, none⟩) := hf 4 (by decide)
    refine hK13 _ _ ?_
    try clear hK13 K13
    refine W.ret ?_
    have n9 := ((New.start w NoX).new (hE1.trans hE2)).trans (n8) (fun i hi => hi.elim)
    rw [Hm.nilL] at n9
    have nf := (n9.new (Ext.drew w8)).step hR.1 fun i hi => ⟨.inl (by omega), by subst hi; exact hNb1⟩
    exact retQ_cell2 (b := b1) (cs := zVTimeout.cells) rfl hf4 hf7 hk9 Tryz.underlying105 rfl sz105 ⟨N, _, _, rfl, nf, ⟨zVTimeout, rfl, zVTimeout_ok⟩, .inr (.inl ⟨hsm, hd, rfl, rfl⟩)⟩

theorem ReadTimeout_calls {aF aB : Addr} {H : Heap} {w : World} {v : Value} {bs : List UInt8} (hA : Agr H w) (hG : Globs aF aB H) (r : RB H v bs) :
    Calls Tryz.prog 35 #[v] w (RetC dTimeout wfTimeout (.agg (List.toArray zVTimeout.cells)) phTimeout w bs) := by
  have hz : (Tryz.prog.info? 105).bind (·.zero) = some (.agg (List.toArray zVTimeout.cells)) := by rw [← zVTimeout_cells]; exact zr105
  refine calls_of_W (n := 8) Tryz.func35 rfl Tryz.ntmps35 (Nat.le_of_ble_eq_true rfl) ?_
  refine W.seq fun K1 hK1 => ?_
  refine W.region ?_
  refine SeqOps.put 2 rfl rfl rfl (O.alloc rfl hz ?_)
  intro b1 w1 hb1 hb1l hE1 hkb1
  refine SeqOps.put 3 rfl rfl rfl (O.assign (v := (.int .i64 (0))) rfl rfl ?_)
  refine SeqOps.nil ?_
  refine hK1 _ _ ?_
  try clear hK1 K1
  refine W.seq fun K2 hK2 => ?_
  refine W.region ?_
  refine SeqOps.put 4 rfl rfl rfl (O.move (v := v) rfl rfl ?_)
  refine SeqOps.put 5 rfl rfl rfl (O.call (fid := 84) (cap := #[]) (args := [v, (.func (.func 85) #[] #[])]) rfl rfl rfl Tryz.func84 rfl rfl ?_)
  refine Calls.mono (face_Timeout_calls (Ext.agr hE1 hA) hG r) ?_
  rintro e w3 ⟨N, _, n, rfl, n3, ⟨q, rfl, hqok⟩, hret⟩
  refine ⟨_, rfl, ?_⟩
  refine SeqOps.put 6 rfl rfl rfl (O.extract (v := (.agg (List.toArray q.cells))) rfl rfl rfl ?_)
  refine SeqOps.put 7 rfl rfl rfl (O.extract (v := (.int .i64 (n))) rfl rfl rfl ?_)
  refine SeqOps.eff rfl rfl (O.store (b := b1) (off := 0) (v := .agg (List.toArray q.cells)) (n := 74) (c' := q.cells.toArray) rfl rfl rfl (Ext.blk n3.st.chg hkb1) sz105 rfl (Nat.le_refl _) (VTimeout.one hqok) rfl ?_)
  intro w9 hC9 hk9
  refine SeqOps.put 3 rfl rfl rfl (O.assign (v := (.int .i64 (n))) rfl rfl ?_)
  refine SeqOps.nil ?_
  refine hK2 _ _ ?_
  try clear hK2 K2
  refine W.ret ?_
  have n9 := ((New.start w NoX).new hE1).trans n3 (fun i hi => hi.elim)
  rw [Hm.nilL] at n9
  have nf := n9.step hC9 fun i hi => ⟨.inl (by omega), by have e : i = b1 := hi; rw [e]; exact n3.st.low b1 (by omega)⟩
  exact retQ_cell2 (b := b1) (cs := q.cells) rfl rfl rfl hk9 Tryz.underlying105 rfl sz105 ⟨N, _, _, rfl, nf, ⟨q, rfl, hqok⟩, hret⟩

theorem face_Message_calls {aF aB : Addr} {H : Heap} {w : World} {v : Value} {bs : List UInt8} (hA : Agr H w) (hG : Globs aF aB H) (r : RB H v bs) :
    Calls Tryz.prog 40 #[v, .func (.func 41) #[] #[]] w (RetC dMessage wfMessage (.agg (List.toArray zVMessage.cells)) phMessage w bs) := by
  obtain ⟨ao, cap, rfl⟩ := RS.form r
  have hz : (Tryz.prog.info? 36).bind (·.zero) = some (.agg (List.toArray zVMessage.cells)) := by rw [← zVMessage_cells]; exact zr36
  refine calls_of_W (n := 30) Tryz.func40 rfl Tryz.ntmps40 (Nat.le_of_ble_eq_true rfl) ?_
  refine W.seq fun K1 hK1 => ?_
  refine W.region ?_
  refine SeqOps.put 4 rfl rfl rfl (O.alloc rfl hz ?_)
  intro b1 w1 hb1 hb1l hE1 hkb1
  refine SeqOps.put 5 rfl rfl rfl (O.assign (v := (.int .i64 (0))) rfl rfl ?_)
  refine SeqOps.nil ?_
  refine hK1 _ _ ?_
  try clear hK1 K1
  refine W.seq fun K2 hK2 => ?_
  refine W.region ?_
  refine SeqOps.put 6 rfl rfl rfl (O.alloc rfl hz ?_)
  intro b2 w2 hb2 hb2l hE2 hkb2
  refine SeqOps.nil ?_
  refine hK2 _ _ ?_
  try clear hK2 K2
  refine W.seq fun K3 hK3 => ?_
  refine W.seq fun K4 hK4 => ?_
  refine W.region ?_
  refine SeqOps.put 9 rfl rfl rfl (O.move (v := (.slice ao bs.length cap)) rfl rfl ?_)
  refine SeqOps.put 10 rfl rfl rfl (O.lenSlice (ad := ao) (n := bs.length) (c := cap) rfl rfl Tryz.underlying22 ?_)
  refine SeqOps.put 11 rfl rfl rfl (O.cmp (a := ((bs.length : Nat) : Int)) (b := 262144) (r := decide (((bs.length : Nat) : Int) > 262144)) rfl rfl rfl rfl ?_)
  refine SeqOps.nil ?_
  refine hK4 _ _ ?_
  try clear hK4 K4
  rcases Nat.lt_or_ge 262144 bs.length with hbig | hsm
  · have hEE : Ext w w2 := hE1.trans hE2
    have hk1 : w2.heap[b1]? = some (.cells zVMessage.cells.toArray 36 (0, 0)) := Ext.blk hE2 hkb1
    refine W.cond_true (show evF _ _ = .bool true from congrArg Value.bool (by rw [decide_eq_true_iff]; show (262144 : Int) < bs.length; omega)) ?_
    refine W.seq fun K5 hK5 => ?_
    refine W.region_any (by kernel_rfl) (by kernel_rfl) [12, 13, 14, 15, 16, 17, 5] rfl (fun a b => RStore b1 (.cells zVMessage.cells.toArray 36 (0, 0)) a b) (fun _ => RStore.refl _ _ _) (fun h k => RStore.trans h k) [
        (fun (u : Value) (_ : World) => u = (.agg (List.toArray zVMessage.cells))),
        (fun (u : Value) (_ : World) => u = eS aB),
        (fun (u : Value) (_ : World) => u = .agg #[(strOf [97, 108, 108]), eS aB]),
        (fun (u : Value) (w : World) => ∃ b, u = .pointer (some ⟨b, 0, none⟩) ∧ b ≠ b1 ∧ w.heap[b]? = some (.cells #[(strOf [97, 108, 108]), eS aB] 164 (0, 0))),
        (fun (u : Value) (w : World) => ∃ b, u = .iface 160 (.pointer (some ⟨b, 0, none⟩)) ∧ b ≠ b1 ∧ w.heap[b]? = some (.cells #[(strOf [97, 108, 108]), eS aB] 164 (0, 0))),
        (fun (u : Value) (_ : World) => u = .int .i64 4),
        (fun (_ : Value) (w : World) => w.heap[b1]? = some (.cells zVMessage.cells.toArray 36 (0, 0))),
        (fun (u : Value) (_ : World) => u = .int .i64 4)
      ] ⟨fun _ _ _ _ h => h, fun _ _ _ _ h => h, fun _ _ _ _ h => h, fun _ _ _ hE ⟨b, h1, h2, h3⟩ => ⟨b, h1, h2, Chg.blk hE.1 h3 h2⟩, fun _ _ _ hE ⟨b, h1, h2, h3⟩ => ⟨b, h1, h2, Chg.blk hE.1 h3 h2⟩, fun _ _ _ _ h => h, fun _ _ _ hE h => hE.2 h, fun _ _ _ _ h => h, trivial⟩ ⟨?_, ?_, ?_, ?_, ?_, ?_, ?_, ?_, trivial⟩ ?_
    · intro g w1 hR hf hd
      have h1 : g 6 = .pointer (some ⟨b2, 0, none⟩) := hf 6 (by decide)
      have hb1x := Chg.blk hR.1 (show w2.drew.heap[b2]? = _ from hkb2) (by omega)
      exact StepT.plain rfl (O.loadBlk (b := b2) (off := 0) (cs := zVMessage.cells) rfl h1 hb1x Tryz.underlying36 rfl sz36 rfl ⟨RStore.refl _ _ _, rfl⟩)
    · intro g w1 hR hf hd
      exact StepT.plain rfl (O.loadOne (a := ⟨0, 0, none⟩) (v := eS aB) rfl rfl Tryz.underlying162 rfl ((hR.1.agr (show Agr H w2.drew from Ext.agr hEE hA) (fun k hk => by subst hk; exact hA.none hb1)).cell hG.gB) ⟨RStore.refl _ _ _, rfl⟩)
    · intro g w1 hR hf hd
      have h1 : (fun (u : Value) (_ : World) => u = eS aB) (g 13) w1 := hd.1 rfl
      exact StepT.plain rfl (O.build (vps := [(0, (strOf [97, 108, 108])), (1, eS aB)]) (cells := [(strOf [97, 108, 108]), eS aB]) rfl (by show [(0, _), (1, g 13)] = _; rw [h1]; rfl) (by kernel_rfl) ⟨RStore.refl _ _ _, rfl⟩)
    · intro g w1 hR hf hd
      have hkk := hR.2 (show w2.drew.heap[b1]? = _ from hk1)
      have h1 : (fun (u : Value) (_ : World) => u = .agg #[(strOf [97, 108, 108]), eS aB]) (g 14) w1 := hd.1 rfl
      refine StepT.plain rfl (O.box (v := .agg #[(strOf [97, 108, 108]), eS aB]) rfl h1 ?_)
      intro b w9 hb hb9 hE9 hk9
      exact ⟨⟨Chg.ofExt hE9, fun h => Ext.blk hE9 h⟩, b, rfl, (by have := blk_lt hkk; omega), hk9⟩
    · intro g w1 hR hf hd
      have h0 : (fun (u : Value) (w : World) => ∃ b, u = .pointer (some ⟨b, 0, none⟩) ∧ b ≠ b1 ∧ w.heap[b]? = some (.cells #[(strOf [97, 108, 108]), eS aB] 164 (0, 0))) (g 15) w1 := hd.1 rfl
      obtain ⟨b, h1, h2, h3⟩ := h0
      exact StepT.plain rfl (O.makeIface (v := .pointer (some ⟨b, 0, none⟩)) rfl h1 Tryz.underlying160 rfl ⟨RStore.refl _ _ _, b, rfl, h2, h3⟩)
    · intro g w1 hR hf hd
      have h0 : (fun (u : Value) (w : World) => ∃ b, u = .iface 160 (.pointer (some ⟨b, 0, none⟩)) ∧ b ≠ b1 ∧ w.heap[b]? = some (.cells #[(strOf [97, 108, 108]), eS aB] 164 (0, 0))) (g 16) w1 := hd.1 rfl
      obtain ⟨b, h1, h2, h3⟩ := h0
      have hN9 : Agr (Hadd NH b (.cells #[(strOf [97, 108, 108]), eS aB] 164 (0, 0))) w1 := fun k o ho => by
        by_cases hkb : k = b
        · subst hkb; rw [Hadd_same] at ho; cases ho; exact h3
        · rw [Hadd_ne _ _ hkb] at ho; cases ho
      refine StepT.plain rfl (O.call (fid := 86) (cap := #[]) (args := [.iface 160 (.pointer (some ⟨b, 0, none⟩))]) rfl rfl (by show [g 16] = _; rw [h1]) Tryz.func86 rfl rfl ?_)
      refine Calls.mono (told_bytes hG (hR.1.agr (show Agr H w2.drew from Ext.agr hEE hA) (fun k hk => by subst hk; exact hA.none hb1)) hN9 (.base (Hadd_same _ _ _))) ?_
      rintro r w9 ⟨rfl, hE9⟩
      exact ⟨_, rfl, ⟨Chg.ofExt hE9, fun h => Ext.blk hE9 h⟩, rfl⟩
    · intro g w1 hR hf hd
      have h1 : g 4 = .pointer (some ⟨b1, 0, none⟩) := hf 4 (by decide)
      have h2 : g 12 = (.agg (List.toArray zVMessage.cells)) := hd.1 rfl
      have hkk := hR.2 (show w2.drew.heap[b1]? = _ from hk1)
      refine StepT.plain rfl (O.store (b := b1) (off := 0) (v := (.agg (List.toArray zVMessage.cells))) (n := 40) (c' := zVMessage.cells.toArray) rfl h1 h2 hkk sz36 rfl (Nat.le_refl _) (VMessage.one zVMessage_ok) rfl ?_)
      intro w9 hC hk9
      exact ⟨⟨hC, fun _ => hk9⟩, hk9⟩
    · intro g w1 hR hf hd
      have h1 : (fun (u : Value) (_ : World) => u = .int .i64 4) (g 17) w1 := hd.1 rfl
      exact StepT.plain rfl (O.assign (v := .int .i64 4) rfl h1 ⟨RStore.refl _ _ _, rfl⟩)
    intro g w9 hR hf hall
    have hk9 := hall.2.2.2.2.2.2.1
    have hf7 := hall.2.2.2.2.2.2.2.1
    have hf4 : g 4 = .pointer (some ⟨b1, 0, none⟩) := hf 4 (by decide)
    have hE9 : Ext w w9 := (hEE.trans (Ext.drew w2)).trans_new hR.1 fun i hi => .inl (by omega)
    refine hK5 _ _ ?_
    try clear hK5 K5
    refine W.ret ?_
    exact retQ_cell2 (b := b1) (cs := zVMessage.cells) rfl hf4 hf7 hk9 Tryz.underlying36 rfl sz36 ⟨NH, _, _, rfl, (New.start w NoX).new hE9, ⟨zVMessage, rfl, zVMessage_ok⟩, .inl ⟨hbig, rfl, rfl⟩⟩
  refine W.cond_false (show evF _ _ = .bool false from congrArg Value.bool (by rw [decide_eq_false_iff_not]; show ¬ (262144 : Int) < bs.length; omega)) ?_
  refine W.skip ?_
  refine hK3 _ _ ?_
  cases hd : dMessage bs with
  | some y =>
    refine W.seq fun K6 hK6 => ?_
    refine W.region ?_
    refine SeqOps.put 19 rfl rfl rfl (O.move (v := (.func (.func 41) #[] #[])) rfl rfl ?_)
    refine SeqOps.put 20 rfl rfl rfl (O.move (v := (.slice ao bs.length cap)) rfl rfl ?_)
    refine SeqOps.put 21 rfl rfl rfl (O.call (fid := 41) (cap := #[]) (args := [(.slice ao bs.length cap)]) rfl rfl rfl Tryz.func41 rfl rfl ?_)
    refine Calls.mono (read_Message_calls (Ext.agr (hE1.trans hE2) hA) hG.gF r (Nat.le_trans hsm (by decide))) ?_
    intro e w3 hret
    obtain ⟨N, v5, rfl, n3, ⟨q, rfl, hqok⟩, hph⟩ := RetRd.good hd hret
    refine ⟨_, rfl, ?_⟩
    refine SeqOps.put 18 rfl rfl rfl (O.move (v := (.tuple #[(.agg (List.toArray q.cells)), .nilIface])) rfl rfl ?_)
    refine SeqOps.put 22 rfl rfl rfl (O.extract (v := (.agg (List.toArray q.cells))) rfl rfl rfl ?_)
    refine SeqOps.put 23 rfl rfl rfl (O.extract (v := .nilIface) rfl rfl rfl ?_)
    refine SeqOps.put 7 rfl rfl rfl (O.alloc rfl hz ?_)
    intro b7 w7 hb7 hb7l hE7 hk7
    refine SeqOps.eff rfl rfl (O.store (b := b7) (off := 0) (v := .agg (List.toArray q.cells)) (n := 40) (c' := q.cells.toArray) rfl rfl rfl hk7 sz36 rfl (Nat.le_refl _) (VMessage.one hqok) rfl ?_)
    intro w8 hC8 hk8
    have hE8 : Ext w3 w8 := hE7.trans_new hC8 fun i hi => .inl (by omega)
    have n8 := n3.new hE8
    have hk1 : w8.heap[b1]? = some (.cells zVMessage.cells.toArray 36 (0, 0)) := Ext.blk (n8.st.chg) (Ext.blk hE2 hkb1)
    have hs2 := hE2.size
    have hs8 := n8.st.chg.size
    have hs3 := n3.st.chg.size
    have hNb1 : N b1 = none := n3.st.low b1 (by omega)
    refine SeqOps.put 8 rfl rfl rfl (O.assign (v := .nilIface) rfl rfl ?_)
    refine SeqOps.nil ?_
    refine hK6 _ _ ?_
    try clear hK6 K6
    refine W.seq fun K7 hK7 => ?_
    refine W.seq fun K8 hK8 => ?_
    refine W.region ?_
    refine SeqOps.put 24 rfl rfl rfl (O.move (v := .nilIface) rfl rfl ?_)
    refine SeqOps.put 25 rfl rfl rfl (O.ifaceNil (v := .nilIface) (r := false) rfl rfl (.inl rfl) Tryz.underlying162 (.inr ⟨rfl, rfl⟩) ?_)
    refine SeqOps.nil ?_
    refine hK8 _ _ ?_
    try clear hK8 K8
    refine W.cond_false rfl ?_
    refine W.skip ?_
    refine hK7 _ _ ?_
    try clear hK7 K7
    refine W.seq fun K9 hK9 => ?_
    refine W.region ?_
    refine SeqOps.put 29 rfl rfl rfl (O.loadBlk (b := b7) (off := 0) (cs := q.cells) rfl rfl hk8 Tryz.underlying36 rfl sz36 rfl ?_)
    refine SeqOps.eff rfl rfl (O.store (b := b1) (off := 0) (v := .agg (List.toArray q.cells)) (n := 40) (c' := q.cells.toArray) rfl rfl rfl hk1 sz36 rfl (Nat.le_refl _) (VMessage.one hqok) rfl ?_)
    intro w9 hC9 hk9
    refine SeqOps.put 5 rfl rfl rfl (O.assign (v := (.int .i64 (0))) rfl rfl ?_)
    refine SeqOps.nil ?_
    refine hK9 _ _ ?_
    try clear hK9 K9
    refine W.ret ?_
    have n9 := ((New.start w NoX).new (hE1.trans hE2)).trans (n8) (fun i hi => hi.elim)
    rw [Hm.nilL] at n9
    have nf := n9.step hC9 fun i hi => ⟨.inl (by omega), by subst hi; exact hNb1⟩
    exact retQ_cell2 (b := b1) (cs := q.cells) rfl rfl rfl hk9 Tryz.underlying36 rfl sz36 ⟨N, _, _, rfl, nf, ⟨q, rfl, hqok⟩, .inr (.inr ⟨y, hsm, hd, rfl, hph⟩)⟩
  | none =>
    refine W.seq fun K10 hK10 => ?_
    refine W.region ?_
    refine SeqOps.put 19 rfl rfl rfl (O.move (v := (.func (.func 41) #[] #[])) rfl rfl ?_)
    refine SeqOps.put 20 rfl rfl rfl (O.move (v := (.slice ao bs.length cap)) rfl rfl ?_)
    refine SeqOps.put 21 rfl rfl rfl (O.call (fid := 41) (cap := #[]) (args := [(.slice ao bs.length cap)]) rfl rfl rfl Tryz.func41 rfl rfl ?_)
    refine Calls.mono (read_Message_calls (Ext.agr (hE1.trans hE2) hA) hG.gF r (Nat.le_trans hsm (by decide))) ?_
    intro e w3 hret
    obtain ⟨N, v5, be, rfl, n3, ⟨q, rfl, hqok⟩, her⟩ := RetRd.bad hd hret
    refine ⟨_, rfl, ?_⟩
    refine SeqOps.put 18 rfl rfl rfl (O.move (v := (.tuple #[(.agg (List.toArray q.cells)), (.iface 160 (.pointer (some ⟨be, 0, none⟩)))])) rfl rfl ?_)
    refine SeqOps.put 22 rfl rfl rfl (O.extract (v := (.agg (List.toArray q.cells))) rfl rfl rfl ?_)
    refine SeqOps.put 23 rfl rfl rfl (O.extract (v := (.iface 160 (.pointer (some ⟨be, 0, none⟩)))) rfl rfl rfl ?_)
    refine SeqOps.put 7 rfl rfl rfl (O.alloc rfl hz ?_)
    intro b7 w7 hb7 hb7l hE7 hk7
    refine SeqOps.eff rfl rfl (O.store (b := b7) (off := 0) (v := .agg (List.toArray q.cells)) (n := 40) (c' := q.cells.toArray) rfl rfl rfl hk7 sz36 rfl (Nat.le_refl _) (VMessage.one hqok) rfl ?_)
    intro w8 hC8 hk8
    have hE8 : Ext w3 w8 := hE7.trans_new hC8 fun i hi => .inl (by omega)
    have n8 := n3.new hE8
    have hk1 : w8.heap[b1]? = some (.cells zVMessage.cells.toArray 36 (0, 0)) := Ext.blk (n8.st.chg) (Ext.blk hE2 hkb1)
    have hs2 := hE2.size
    have hs8 := n8.st.chg.size
    have hs3 := n3.st.chg.size
    have hNb1 : N b1 = none := n3.st.low b1 (by omega)
    refine SeqOps.put 8 rfl rfl rfl (O.assign (v := (.iface 160 (.pointer (some ⟨be, 0, none⟩)))) rfl rfl ?_)
    refine SeqOps.nil ?_
    refine hK10 _ _ ?_
    try clear hK10 K10
    refine W.seq fun K11 hK11 => ?_
    refine W.seq fun K12 hK12 => ?_
    refine W.region ?_
    refine SeqOps.put 24 rfl rfl rfl (O.move (v := (.iface 160 (.pointer (some ⟨be, 0, none⟩)))) rfl rfl ?_)
    refine SeqOps.put 25 rfl rfl rfl (O.ifaceNil (v := (.iface 160 (.pointer (some ⟨be, 0, none⟩)))) (r := true) rfl rfl (.inr ⟨_, _, rfl⟩) Tryz.underlying162 (.inr ⟨rfl, rfl⟩) ?_)
    refine SeqOps.nil ?_
    refine hK12 _ _ ?_
    try clear hK12 K12
    refine W.cond_true rfl ?_
    refine W.seq fun K13 hK13 => ?_
    refine W.region_any (by kernel_rfl) (by kernel_rfl) [26, 27, 28, 5] rfl (fun a b => RStore b1 (.cells zVMessage.cells.toArray 36 (0, 0)) a b) (fun _ => RStore.refl _ _ _) (fun h k => RStore.trans h k) [
        (fun (u : Value) (_ : World) => u = (.agg (List.toArray zVMessage.cells))),
        (fun (u : Value) (_ : World) => u = .iface 160 (.pointer (some ⟨be, 0, none⟩))),
        (fun (u : Value) (_ : World) => u = .int .i64 5),
        (fun (_ : Value) (w : World) => w.heap[b1]? = some (.cells zVMessage.cells.toArray 36 (0, 0))),
        (fun (u : Value) (_ : World) => u = .int .i64 5)
      ] ⟨fun _ _ _ _ h => h, fun _ _ _ _ h => h, fun _ _ _ _ h => h, fun _ _ _ hE h => hE.2 h, fun _ _ _ _ h => h, trivial⟩ ⟨?_, ?_, ?_, ?_, ?_, trivial⟩ ?_
    · intro g w1 hR hf hd
      have h1 : g 6 = .pointer (some ⟨b2, 0, none⟩) := hf 6 (by decide)
      have hb1x := Chg.blk hR.1 (show w8.drew.heap[b2]? = _ from Ext.blk n8.st.chg hkb2) (by omega)
      exact StepT.plain rfl (O.loadBlk (b := b2) (off := 0) (cs := zVMessage.cells) rfl h1 hb1x Tryz.underlying36 rfl sz36 rfl ⟨RStore.refl _ _ _, rfl⟩)
    · intro g w1 hR hf hd
      have h1 : g 8 = .iface 160 (.pointer (some ⟨be, 0, none⟩)) := hf 8 (by decide)
      exact StepT.plain rfl (O.move (v := .iface 160 (.pointer (some ⟨be, 0, none⟩))) rfl h1 ⟨RStore.refl _ _ _, rfl⟩)
    · intro g w1 hR hf hd
      have h1 : (fun (u : Value) (_ : World) => u = .iface 160 (.pointer (some ⟨be, 0, none⟩))) (g 27) w1 := hd.1 rfl
      refine StepT.plain rfl (O.call (fid := 86) (cap := #[]) (args := [.iface 160 (.pointer (some ⟨be, 0, none⟩))]) rfl rfl (by show [g 27] = _; rw [h1]) Tryz.func86 rfl rfl ?_)
      refine Calls.mono (told_form hG (hR.1.agr (show Agr H w8.drew from Ext.agr ((hE1.trans hE2).trans n8.st.chg) hA) (fun k hk => by subst hk; exact hA.none hb1)) (hR.1.agr (show Agr N w8.drew from n8.st.agr) (fun k hk => by subst hk; exact hNb1)) her) ?_
      rintro r w9 ⟨rfl, hE9⟩
      exact ⟨_, rfl, ⟨Chg.ofExt hE9, fun h => Ext.blk hE9 h⟩, rfl⟩
    · intro g w1 hR hf hd
      have h1 : g 4 = .pointer (some ⟨b1, 0, none⟩) := hf 4 (by decide)
      have h2 : g 26 = (.agg (List.toArray zVMessage.cells)) := hd.1 rfl
      have hkk := hR.2 (show w8.drew.heap[b1]? = _ from hk1)
      refine StepT.plain rfl (O.store (b := b1) (off := 0) (v := (.agg (List.toArray zVMessage.cells))) (n := 40) (c' := zVMessage.cells.toArray) rfl h1 h2 hkk sz36 rfl (Nat.le_refl _) (VMessage.one zVMessage_ok) rfl ?_)
      intro w9 hC hk9
      exact ⟨⟨hC, fun _ => hk9⟩, hk9⟩
    · intro g w1 hR hf hd
      have h1 : (fun (u : Value) (_ : World) => u = .int .i64 5) (g 28) w1 := hd.1 rfl
      exact StepT.plain rfl (O.assign (v := .int .i64 5) rfl h1 ⟨RStore.refl _ _ _, rfl⟩)
    intro g w9 hR hf hall
    have hk9 := hall.2.2.2.1
    have hf7 := hall.2.2.2.2.1
    have hf4 : g 4 = .pointer (some ⟨b1, 0, none⟩) := hf 4 (by decide)
    refine hK13 _ _ ?_
    try clear hK13 K13
    refine W.ret ?_
    have n9 := ((New.start w NoX).new (hE1.trans hE2)).trans (n8) (fun i hi => hi.elim)
    rw [Hm.nilL] at n9
    have nf := (n9.new (Ext.drew w8)).step hR.1 fun i hi => ⟨.inl (by omega), by subst hi; exact hNb1⟩
    exact retQ_cell2 (b := b1) (cs := zVMessage.cells) rfl hf4 hf7 hk9 Tryz.underlying36 rfl sz36 ⟨N, _, _, rfl, nf, ⟨zVMessage, rfl, zVMessage_ok⟩, .inr (.inl ⟨hsm, hd, rfl, rfl⟩)⟩

theorem ReadMessage_calls {aF aB : Addr} {H : Heap} {w : World} {v : Value} {bs : List UInt8} (hA : Agr H w) (hG : Globs aF aB H) (r : RB H v bs) :
    Calls Tryz.prog 7 #[v] w (RetC dMessage wfMessage (.agg (List.toArray zVMessage.cells)) phMessage w bs) := by
  have hz : (Tryz.prog.info? 36).bind (·.zero) = some (.agg (List.toArray zVMessage.cells)) := by rw [← zVMessage_cells]; exact zr36
  refine calls_of_W (n := 8) Tryz.func7 rfl Tryz.ntmps7 (Nat.le_of_ble_eq_true rfl) ?_
  refine W.seq fun K1 hK1 => ?_
  refine W.region ?_
  refine SeqOps.put 2 rfl rfl rfl (O.alloc rfl hz ?_)
  intro b1 w1 hb1 hb1l hE1 hkb1
  refine SeqOps.put 3 rfl rfl rfl (O.assign (v := (.int .i64 (0))) rfl rfl ?_)
  refine SeqOps.nil ?_
  refine hK1 _ _ ?_
  try clear hK1 K1
  refine W.seq fun K2 hK2 => ?_
  refine W.region ?_
  refine SeqOps.put 4 rfl rfl rfl (O.move (v := v) rfl rfl ?_)
  refine SeqOps.put 5 rfl rfl rfl (O.call (fid := 40) (cap := #[]) (args := [v, (.func (.func 41) #[] #[])]) rfl rfl rfl Tryz.func40 rfl rfl ?_)
  refine Calls.mono (face_Message_calls (Ext.agr hE1 hA) hG r) ?_
  rintro e w3 ⟨N, _, n, rfl, n3, ⟨q, rfl, hqok⟩, hret⟩
  refine ⟨_, rfl, ?_⟩
  refine SeqOps.put 6 rfl rfl rfl (O.extract (v := (.agg (List.toArray q.cells))) rfl rfl rfl ?_)
  refine SeqOps.put 7 rfl rfl rfl (O.extract (v := (.int .i64 (n))) rfl rfl rfl ?_)
  refine SeqOps.eff rfl rfl (O.store (b := b1) (off := 0) (v := .agg (List.toArray q.cells)) (n := 40) (c' := q.cells.toArray) rfl rfl rfl (Ext.blk n3.st.chg hkb1) sz36 rfl (Nat.le_refl _) (VMessage.one hqok) rfl ?_)
  intro w9 hC9 hk9
  refine SeqOps.put 3 rfl rfl rfl (O.assign (v := (.int .i64 (n))) rfl rfl ?_)
  refine SeqOps.nil ?_
  refine hK2 _ _ ?_
  try clear hK2 K2
  refine W.ret ?_
  have n9 := ((New.start w NoX).new hE1).trans n3 (fun i hi => hi.elim)
  rw [Hm.nilL] at n9
  have nf := n9.step hC9 fun i hi => ⟨.inl (by omega), by have e : i = b1 := hi; rw [e]; exact n3.st.low b1 (by omega)⟩
  exact retQ_cell2 (b := b1) (cs := q.cells) rfl rfl rfl hk9 Tryz.underlying36 rfl sz36 ⟨N, _, _, rfl, nf, ⟨q, rfl, hqok⟩, hret⟩

end Go.Proofs.YtddpmpbngcbokaaGreatDoor

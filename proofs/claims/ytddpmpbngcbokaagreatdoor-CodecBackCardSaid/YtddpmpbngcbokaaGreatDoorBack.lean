/- What is read is written back as it was: the law's walk. -/
import Derived.Test.YtddpmpbngcbokaaGreatDoorSpoil
namespace Go.Proofs.YtddpmpbngcbokaaGreatDoor
open Go Go.RowKit
set_option maxRecDepth 100000


theorem Back_calls {aF aB : Addr} {H : Heap} {w : World} {v : Value} {bs : List UInt8} (hA : Agr H w) (hG : Globs aF aB H) (r : RB H v bs) (hlen : bs.length ≤ 140737488355328) :
    Calls Tryz.prog 4 #[v] w (fun e w' => e = .returned (.bool true) ∧ Ext w w') := by
  have hz4 : (Tryz.prog.info? 36).bind (·.zero) = some (.agg (List.toArray zVMessage.cells)) := by rw [← zVMessage_cells]; exact zr36
  have hz6 : (Tryz.prog.info? 47).bind (·.zero) = some (.agg (List.toArray zVFact.cells)) := by rw [← zVFact_cells]; exact zr47
  obtain ⟨ao, cap, rfl⟩ := RS.form r
  refine calls_of_W (n := 83) Tryz.func4 rfl Tryz.ntmps4 (Nat.le_of_ble_eq_true rfl) ?_
  refine W.seq fun K1 hK1 => ?_
  refine W.region ?_
  refine SeqOps.put 2 rfl rfl rfl (O.assign (v := (.bool (false))) rfl rfl ?_)
  refine SeqOps.nil ?_
  refine hK1 _ _ ?_
  try clear hK1 K1
  refine W.seq fun K2 hK2 => ?_
  refine W.seq fun K3 hK3 => ?_
  refine W.region ?_
  refine SeqOps.put 10 rfl rfl rfl (O.call (fid := 5) (cap := #[]) (args := []) rfl rfl rfl Tryz.func5 rfl rfl ?_)
  refine Calls.mono (awake_calls hA hG) ?_
  rintro e w0 ⟨rfl, hE0⟩
  refine ⟨_, rfl, ?_⟩
  refine SeqOps.put 11 rfl rfl rfl (O.not (b := true) rfl rfl ?_)
  refine SeqOps.nil ?_
  refine hK3 _ _ ?_
  try clear hK3 K3
  refine W.cond_false rfl ?_
  refine W.skip ?_
  refine hK2 _ _ ?_
  try clear hK2 K2
  refine W.seq fun K4 hK4 => ?_
  refine W.region ?_
  refine SeqOps.put 12 rfl rfl rfl (O.buildSlice (vs := []) rfl rfl rfl Tryz.underlying22 inf5 (by intro u hu; cases hu) (by decide) ?_)
  intro b1 w1 hb1 hb11 hE1 hk1
  refine SeqOps.put 13 rfl rfl rfl (O.move (v := (.slice ao bs.length cap)) rfl rfl ?_)
  refine SeqOps.put 14 rfl rfl rfl (O.append (H := NH) (B := w.heap.size) (v := .slice (some ⟨b1, 0, none⟩) 0 0) (vx := (.slice ao bs.length cap)) (m := bs.length) (n := 0) (xs := []) (news := bcs bs) rfl rfl rfl Tryz.underlying22 inf5 rfl (Own.ofBlk hk1 (by have := hE0.size; omega) rfl rfl (by decide) (by intro u hu; cases hu)) (RB.mono r (Agr.le (Ext.agr (hE0.trans hE1) hA))) (by simp [bcs]) (by omega) (by omega) (hE0.trans hE1).size (Agr.NH _) ?_)
  intro o3 w3 own3 hC3
  have hE3 : Ext w w3 := (hE0.trans hE1).trans_new hC3 fun i hi => .inl (by simp [Value.ownBlock] at hi; have := hE0.size; omega)
  obtain ⟨N1, _, n1, _, rs1⟩ := own3.join ((New.start w NoX).new hE3) (Nat.le_refl _)
  have rb1 : RB N1 o3 bs := by simpa [RB] using rs1
  obtain ⟨ao1, cap1, rfl⟩ := RS.form rb1
  refine SeqOps.put 3 rfl rfl rfl (O.assign (v := (.slice ao1 bs.length cap1)) rfl rfl ?_)
  refine SeqOps.nil ?_
  refine hK4 _ _ ?_
  try clear hK4 K4
  refine W.seq fun K5 hK5 => ?_
  refine W.region ?_
  refine SeqOps.put 16 rfl rfl rfl (O.move (v := (.slice ao1 bs.length cap1)) rfl rfl ?_)
  refine SeqOps.put 17 rfl rfl rfl (O.call (fid := 7) (cap := #[]) (args := [(.slice ao1 bs.length cap1)]) rfl rfl rfl Tryz.func7 rfl rfl ?_)
  refine Calls.mono (ReadMessage_calls (Agr.hf w3) (hG.mono (Agr.le (Ext.agr hE3 hA))) (RB.mono rb1 n1.st.agr.le)) ?_
  rintro e w4 ⟨N4, v4, n4, rfl, m4, hwf4, hr4⟩
  obtain ⟨q4, rfl, hq4, hg4⟩ : ∃ q4 : VMessage, v4 = .agg (List.toArray q4.cells) ∧ q4.ok ∧ (n4 = 0 → ∃ x4, eMessage x4 = bs ∧ RMessage N4 q4 x4 ∧ bs.length ≤ 262144) := by
    rcases hr4 with ⟨_, h, _⟩ | ⟨_, _, h, _⟩ | ⟨x, hs, hd, h0, q, hq, hR⟩
    · obtain ⟨q, hq, hqo⟩ := hwf4; exact ⟨q, hq, hqo, fun h' => by rw [h] at h'; cases h'⟩
    · obtain ⟨q, hq, hqo⟩ := hwf4; exact ⟨q, hq, hqo, fun h' => by rw [h] at h'; cases h'⟩
    · exact ⟨q, hq, hR.ok, fun _ => ⟨x, dMessage_back hd, hR, hs⟩⟩
  refine ⟨_, rfl, ?_⟩
  refine SeqOps.put 15 rfl rfl rfl (O.move (v := (.tuple #[(.agg (List.toArray q4.cells)), (.int .i64 (n4))])) rfl rfl ?_)
  refine SeqOps.put 18 rfl rfl rfl (O.extract (v := (.agg (List.toArray q4.cells))) rfl rfl rfl ?_)
  refine SeqOps.put 19 rfl rfl rfl (O.extract (v := (.int .i64 (n4))) rfl rfl rfl ?_)
  refine SeqOps.put 4 rfl rfl rfl (O.alloc rfl hz4 ?_)
  intro b4 w5a hb4 hb4l hEw5a hkb40
  refine SeqOps.eff rfl rfl (O.store (b := b4) (off := 0) (v := .agg (List.toArray q4.cells)) (n := 40) (c' := q4.cells.toArray) rfl rfl rfl hkb40 sz36 rfl (Nat.le_refl _) (VMessage.one hq4) rfl ?_)
  intro w5 hCw5 hkb4
  have hE5 : Ext w4 w5 := hEw5a.trans_new hCw5 fun i hi => .inl (by omega)
  refine SeqOps.put 5 rfl rfl rfl (O.assign (v := (.int .i64 (n4))) rfl rfl ?_)
  refine SeqOps.nil ?_
  refine hK5 _ _ ?_
  try clear hK5 K5
  refine W.seq fun K6 hK6 => ?_
  refine W.region ?_
  refine SeqOps.put 21 rfl rfl rfl (O.move (v := (.slice ao1 bs.length cap1)) rfl rfl ?_)
  refine SeqOps.put 22 rfl rfl rfl (O.call (fid := 8) (cap := #[]) (args := [(.slice ao1 bs.length cap1)]) rfl rfl rfl Tryz.func8 rfl rfl ?_)
  refine Calls.mono (ReadFact_calls (Agr.hf w5) (hG.mono (Agr.le (Ext.agr ((hE3.trans m4.st.chg).trans hE5) hA))) (RB.mono rb1 (Agr.le (Ext.agr (m4.st.chg.trans hE5) n1.st.agr)))) ?_
  rintro e w6 ⟨N6, v6, n6, rfl, m6, hwf6, hr6⟩
  obtain ⟨q6, rfl, hq6, ⟨bs6, rb6⟩, hg6⟩ : ∃ q6 : VFact, v6 = .agg (List.toArray q6.cells) ∧ q6.ok ∧ (∃ bs6, RB N6 q6.value bs6) ∧ (n6 = 0 → ∃ x6, eFact x6 = bs ∧ RFact N6 q6 x6 ∧ bs.length ≤ 262144) := by
    rcases hr6 with ⟨_, h, hv⟩ | ⟨_, _, h, hv⟩ | ⟨x, hs, hd, h0, q, hq, hR⟩
    · exact ⟨zVFact, hv, zVFact_ok, ⟨[], RS.nil _⟩, fun h' => by rw [h] at h'; cases h'⟩
    · exact ⟨zVFact, hv, zVFact_ok, ⟨[], RS.nil _⟩, fun h' => by rw [h] at h'; cases h'⟩
    · exact ⟨q, hq, hR.ok, ⟨_, hR.value⟩, fun _ => ⟨x, dFact_back hd, hR, hs⟩⟩
  refine ⟨_, rfl, ?_⟩
  refine SeqOps.put 20 rfl rfl rfl (O.move (v := (.tuple #[(.agg (List.toArray q6.cells)), (.int .i64 (n6))])) rfl rfl ?_)
  refine SeqOps.put 23 rfl rfl rfl (O.extract (v := (.agg (List.toArray q6.cells))) rfl rfl rfl ?_)
  refine SeqOps.put 24 rfl rfl rfl (O.extract (v := (.int .i64 (n6))) rfl rfl rfl ?_)
  refine SeqOps.put 6 rfl rfl rfl (O.alloc rfl hz6 ?_)
  intro b6 w7a hb6 hb6l hEw7a hkb60
  refine SeqOps.eff rfl rfl (O.store (b := b6) (off := 0) (v := .agg (List.toArray q6.cells)) (n := 73) (c' := q6.cells.toArray) rfl rfl rfl hkb60 sz47 rfl (Nat.le_refl _) (VFact.one hq6) rfl ?_)
  intro w7 hCw7 hkb6
  have hE7 : Ext w6 w7 := hEw7a.trans_new hCw7 fun i hi => .inl (by omega)
  refine SeqOps.put 7 rfl rfl rfl (O.assign (v := (.int .i64 (n6))) rfl rfl ?_)
  refine SeqOps.nil ?_
  refine hK6 _ _ ?_
  try clear hK6 K6
  refine W.seq fun K7 hK7 => ?_
  refine W.seq fun K8 hK8 => ?_
  have hE17 : Ext w w7 := (((hE3.trans m4.st.chg).trans hE5).trans m6.st.chg).trans hE7
  have hAw7 : Agr H w7 := Ext.agr hE17 hA
  have hN4w7 : Agr N4 w7 := Ext.agr ((hE5.trans m6.st.chg).trans hE7) m4.st.agr
  have hN6w7 : Agr N6 w7 := Ext.agr hE7 m6.st.agr
  have hk4w7 := Ext.blk (m6.st.chg.trans hE7) hkb4
  refine W.post (fun g w8 => Ext w7 w8 ∧ g 46 = .bool false ∧ g 0 = (.slice ao bs.length cap) ∧ g 3 = (.slice ao1 bs.length cap1) ∧ g 4 = .pointer (some ⟨b4, 0, none⟩) ∧ g 5 = .int .i64 n4 ∧ g 6 = .pointer (some ⟨b6, 0, none⟩)) ?_ ?_
  · by_cases hn4z : n4 = 0
    · obtain ⟨x4, hb4, hR4, hs4⟩ := hg4 hn4z
      by_cases hn6z : n6 = 0
      · obtain ⟨x6, hb6', hR6, hs6⟩ := hg6 hn6z
        refine W.region_any (by kernel_rfl) (by kernel_rfl) [25, 26, 27, 28, 29, 30, 31, 32, 33, 34, 35, 36, 37, 38, 39, 40, 41, 42, 43, 44, 45, 46] rfl (fun a b => Ext a b) (fun _ => Chg.refl _ _) (fun h k => Chg.trans h k) [
            (fun (u : Value) (_ : World) => u = .int .i64 n4),
            (fun (u : Value) (_ : World) => u = .bool true),
            (fun (u : Value) (_ : World) => u = .bool true),
            (fun (u : Value) (_ : World) => u = Value.agg (List.toArray q4.cells)),
            (fun (u : Value) (w : World) => RB (hfOf w) u bs),
            (fun (u : Value) (_ : World) => u = strOf bs),
            (fun (u : Value) (_ : World) => u = (.slice ao bs.length cap)),
            (fun (u : Value) (_ : World) => u = strOf bs),
            (fun (u : Value) (_ : World) => u = .bool false),
            (fun (u : Value) (_ : World) => u = .bool false),
            (fun (u : Value) (_ : World) => u = .bool false),
            (fun (u : Value) (_ : World) => u = .int .i64 n6),
            (fun (u : Value) (_ : World) => u = .bool true),
            (fun (u : Value) (_ : World) => u = .bool true),
            (fun (u : Value) (_ : World) => u = Value.agg (List.toArray q6.cells)),
            (fun (u : Value) (w : World) => RB (hfOf w) u bs),
            (fun (u : Value) (_ : World) => u = strOf bs),
            (fun (u : Value) (_ : World) => u = (.slice ao bs.length cap)),
            (fun (u : Value) (_ : World) => u = strOf bs),
            (fun (u : Value) (_ : World) => u = .bool false),
            (fun (u : Value) (_ : World) => u = .bool false),
            (fun (u : Value) (_ : World) => u = .bool false)
          ] ⟨fun _ _ _ _ h => h, fun _ _ _ _ h => h, fun _ _ _ _ h => h, fun _ _ _ _ h => h, fun _ _ _ hE h => RB.mono h (Ext.hle hE), fun _ _ _ _ h => h, fun _ _ _ _ h => h, fun _ _ _ _ h => h, fun _ _ _ _ h => h, fun _ _ _ _ h => h, fun _ _ _ _ h => h, fun _ _ _ _ h => h, fun _ _ _ _ h => h, fun _ _ _ _ h => h, fun _ _ _ _ h => h, fun _ _ _ hE h => RB.mono h (Ext.hle hE), fun _ _ _ _ h => h, fun _ _ _ _ h => h, fun _ _ _ _ h => h, fun _ _ _ _ h => h, fun _ _ _ _ h => h, fun _ _ _ _ h => h, trivial⟩ ⟨?_, ?_, ?_, ?_, ?_, ?_, ?_, ?_, ?_, ?_, ?_, ?_, ?_, ?_, ?_, ?_, ?_, ?_, ?_, ?_, ?_, ?_, trivial⟩ ?_
        · intro g w1 hR hf hd
          have h1 : g 5 = .int .i64 n4 := hf 5 (by decide)
          exact StepT.plain rfl (O.move (v := .int .i64 n4) rfl h1 ⟨Chg.refl _ _, rfl⟩)
        · intro g w1 hR hf hd
          have h1 : (fun (u : Value) (_ : World) => u = .int .i64 n4) (g 25) w1 := hd.1 rfl
          exact StepT.plain rfl (O.cmp (a := n4) (b := 0) (r := true) rfl h1 rfl (by simp [cmpI, hn4z]) ⟨Chg.refl _ _, rfl⟩)
        · intro g w1 hR hf hd
          have h1 : (fun (u : Value) (_ : World) => u = .bool true) (g 26) w1 := hd.1 rfl
          exact StepT.plain rfl (O.move (v := .bool true) rfl h1 ⟨Chg.refl _ _, rfl⟩)
        · intro g w1 hR hf hd
          have hgd : g 27 = .bool true := hd.1 rfl
          have h1 : g 4 = .pointer (some ⟨b4, 0, none⟩) := hf 4 (by decide)
          have hk := Ext.blk hR (show w7.drew.heap[b4]? = _ from hk4w7)
          refine StepT.on rfl (guardF_of (t := 27) rfl hgd) (O.loadBlk (b := b4) (off := 0) (cs := q4.cells) rfl h1 hk Tryz.underlying36 rfl sz36 rfl ⟨Chg.refl _ _, rfl⟩)
        · intro g w1 hR hf hd
          have hgd : g 27 = .bool true := hd.2.1 rfl
          have h1 : (fun (u : Value) (_ : World) => u = Value.agg (List.toArray q4.cells)) (g 28) w1 := hd.1 rfl
          refine StepT.on rfl (guardF_of (t := 27) rfl hgd) (O.call (fid := 9) (cap := #[]) (args := [Value.agg (List.toArray q4.cells)]) rfl rfl (by show [g 28] = _; rw [h1]) Tryz.func9 rfl rfl ?_)
          refine Calls.mono (Message_calls (Ext.agr hR (show Agr N4 w7.drew from hN4w7)) hR4 (by rw [hb4]; omega)) ?_
          rintro e w2 ⟨v2, rfl, own2, hE2⟩
          refine ⟨v2, rfl, hE2, ?_⟩
          show RB (hfOf w2) v2 bs
          rw [← hb4]
          exact own2.rb
        · intro g w1 hR hf hd
          have hgd : g 27 = .bool true := hd.2.1 rfl
          have h1 : (fun (u : Value) (w : World) => RB (hfOf w) u bs) (g 29) w1 := hd.1 rfl
          refine StepT.on rfl (guardF_of (t := 27) rfl hgd) (O.toString (H := hfOf w1) rfl rfl Tryz.underlying22 Tryz.underlying9 Tryz.underlying5 (Agr.hf w1) h1 ⟨Chg.refl _ _, rfl⟩)
        · intro g w1 hR hf hd
          have hgd : g 27 = .bool true := hd.1 rfl
          have h1 : g 0 = (.slice ao bs.length cap) := hf 0 (by decide)
          refine StepT.on rfl (guardF_of (t := 27) rfl hgd) (O.move (v := (.slice ao bs.length cap)) rfl h1 ⟨Chg.refl _ _, rfl⟩)
        · intro g w1 hR hf hd
          have hgd : g 27 = .bool true := hd.2.1 rfl
          have h1 : (fun (u : Value) (_ : World) => u = (.slice ao bs.length cap)) (g 31) w1 := hd.1 rfl
          refine StepT.on rfl (guardF_of (t := 27) rfl hgd) (O.toString (H := H) rfl h1 Tryz.underlying22 Tryz.underlying9 Tryz.underlying5 (Ext.agr hR (show Agr H w7.drew from hAw7)) r ⟨Chg.refl _ _, rfl⟩)
        · intro g w1 hR hf hd
          have hgd : g 27 = .bool true := hd.2.2.1 rfl
          have h1 : (fun (u : Value) (_ : World) => u = strOf bs) (g 30) w1 := hd.1 rfl
          have h2 : (fun (u : Value) (_ : World) => u = strOf bs) (g 32) w1 := hd.2.1 rfl
          refine StepT.on rfl (guardF_of (t := 27) rfl hgd) (O.strEql (a := bs) (b := bs) (r := false) rfl h1 h2 (.inr ⟨rfl, by simp⟩) ⟨Chg.refl _ _, rfl⟩)
        · intro g w1 hR hf hd
          have h1 : g 27 = .bool true := hd.1 rfl
          have h2 : g 33 = .bool false := hd.2.1 rfl
          exact StepT.plain rfl (O.pick (b := true) (v := .bool false) rfl h1 h2 ⟨Chg.refl _ _, rfl⟩)
        · intro g w1 hR hf hd
          have h1 : (fun (u : Value) (_ : World) => u = .bool false) (g 34) w1 := hd.1 rfl
          exact StepT.plain rfl (O.move (v := .bool false) rfl h1 ⟨Chg.refl _ _, rfl⟩)
        · intro g w1 hR hf hd
          have hgd : g 35 = .bool false := hd.1 rfl
          have h1 : g 7 = .int .i64 n6 := hf 7 (by decide)
          exact StepT.on rfl (guardF_of (t := 35) rfl hgd) (O.move (v := .int .i64 n6) rfl h1 ⟨Chg.refl _ _, rfl⟩)
        · intro g w1 hR hf hd
          have hgd : g 35 = .bool false := hd.2.1 rfl
          have h1 : (fun (u : Value) (_ : World) => u = .int .i64 n6) (g 36) w1 := hd.1 rfl
          exact StepT.on rfl (guardF_of (t := 35) rfl hgd) (O.cmp (a := n6) (b := 0) (r := true) rfl h1 rfl (by simp [cmpI, hn6z]) ⟨Chg.refl _ _, rfl⟩)
        · intro g w1 hR hf hd
          have hgd : g 35 = .bool false := hd.2.1 rfl
          have h1 : (fun (u : Value) (_ : World) => u = .bool true) (g 37) w1 := hd.1 rfl
          exact StepT.on rfl (guardF_of (t := 35) rfl hgd) (O.move (v := .bool true) rfl h1 ⟨Chg.refl _ _, rfl⟩)
        · intro g w1 hR hf hd
          have hgd : g 38 = .bool true := hd.1 rfl
          have h1 : g 6 = .pointer (some ⟨b6, 0, none⟩) := hf 6 (by decide)
          have hk := Ext.blk hR (show w7.drew.heap[b6]? = _ from hkb6)
          refine StepT.on rfl (guardF_of (t := 38) rfl hgd) (O.loadBlk (b := b6) (off := 0) (cs := q6.cells) rfl h1 hk Tryz.underlying47 rfl sz47 rfl ⟨Chg.refl _ _, rfl⟩)
        · intro g w1 hR hf hd
          have hgd : g 38 = .bool true := hd.2.1 rfl
          have h1 : (fun (u : Value) (_ : World) => u = Value.agg (List.toArray q6.cells)) (g 39) w1 := hd.1 rfl
          refine StepT.on rfl (guardF_of (t := 38) rfl hgd) (O.call (fid := 10) (cap := #[]) (args := [Value.agg (List.toArray q6.cells)]) rfl rfl (by show [g 39] = _; rw [h1]) Tryz.func10 rfl rfl ?_)
          refine Calls.mono (Fact_calls (Ext.agr hR (show Agr N6 w7.drew from hN6w7)) hR6 (by rw [hb6']; omega)) ?_
          rintro e w2 ⟨v2, rfl, own2, hE2⟩
          refine ⟨v2, rfl, hE2, ?_⟩
          show RB (hfOf w2) v2 bs
          rw [← hb6']
          exact own2.rb
        · intro g w1 hR hf hd
          have hgd : g 38 = .bool true := hd.2.1 rfl
          have h1 : (fun (u : Value) (w : World) => RB (hfOf w) u bs) (g 40) w1 := hd.1 rfl
          refine StepT.on rfl (guardF_of (t := 38) rfl hgd) (O.toString (H := hfOf w1) rfl rfl Tryz.underlying22 Tryz.underlying9 Tryz.underlying5 (Agr.hf w1) h1 ⟨Chg.refl _ _, rfl⟩)
        · intro g w1 hR hf hd
          have hgd : g 38 = .bool true := hd.1 rfl
          have h1 : g 0 = (.slice ao bs.length cap) := hf 0 (by decide)
          refine StepT.on rfl (guardF_of (t := 38) rfl hgd) (O.move (v := (.slice ao bs.length cap)) rfl h1 ⟨Chg.refl _ _, rfl⟩)
        · intro g w1 hR hf hd
          have hgd : g 38 = .bool true := hd.2.1 rfl
          have h1 : (fun (u : Value) (_ : World) => u = (.slice ao bs.length cap)) (g 42) w1 := hd.1 rfl
          refine StepT.on rfl (guardF_of (t := 38) rfl hgd) (O.toString (H := H) rfl h1 Tryz.underlying22 Tryz.underlying9 Tryz.underlying5 (Ext.agr hR (show Agr H w7.drew from hAw7)) r ⟨Chg.refl _ _, rfl⟩)
        · intro g w1 hR hf hd
          have hgd : g 38 = .bool true := hd.2.2.1 rfl
          have h1 : (fun (u : Value) (_ : World) => u = strOf bs) (g 41) w1 := hd.1 rfl
          have h2 : (fun (u : Value) (_ : World) => u = strOf bs) (g 43) w1 := hd.2.1 rfl
          refine StepT.on rfl (guardF_of (t := 38) rfl hgd) (O.strEql (a := bs) (b := bs) (r := false) rfl h1 h2 (.inr ⟨rfl, by simp⟩) ⟨Chg.refl _ _, rfl⟩)
        · intro g w1 hR hf hd
          have hgd : g 35 = .bool false := hd.2.2.1 rfl
          have h1 : g 38 = .bool true := hd.1 rfl
          have h2 : g 44 = .bool false := hd.2.1 rfl
          exact StepT.on rfl (guardF_of (t := 35) rfl hgd) (O.pick (b := true) (v := .bool false) rfl h1 h2 ⟨Chg.refl _ _, rfl⟩)
        · intro g w1 hR hf hd
          have h1 : g 35 = .bool false := hd.1 rfl
          have h2 : g 45 = .bool false := hd.2.1 rfl
          exact StepT.plain rfl (O.pick (b := false) (v := .bool false) rfl h1 h2 ⟨Chg.refl _ _, rfl⟩)
        intro g w8 hR hf hall
        have h46 := hall.2.2.2.2.2.2.2.2.2.2.2.2.2.2.2.2.2.2.2.2.2.1
        exact ⟨rfl, (Ext.drew w7).trans hR, h46, hf 0 (by decide), hf 3 (by decide), hf 4 (by decide), hf 5 (by decide), hf 6 (by decide)⟩
      · skip
        refine W.region_any (by kernel_rfl) (by kernel_rfl) [25, 26, 27, 28, 29, 30, 31, 32, 33, 34, 35, 36, 37, 38, 39, 40, 41, 42, 43, 44, 45, 46] rfl (fun a b => Ext a b) (fun _ => Chg.refl _ _) (fun h k => Chg.trans h k) [
            (fun (u : Value) (_ : World) => u = .int .i64 n4),
            (fun (u : Value) (_ : World) => u = .bool true),
            (fun (u : Value) (_ : World) => u = .bool true),
            (fun (u : Value) (_ : World) => u = Value.agg (List.toArray q4.cells)),
            (fun (u : Value) (w : World) => RB (hfOf w) u bs),
            (fun (u : Value) (_ : World) => u = strOf bs),
            (fun (u : Value) (_ : World) => u = (.slice ao bs.length cap)),
            (fun (u : Value) (_ : World) => u = strOf bs),
            (fun (u : Value) (_ : World) => u = .bool false),
            (fun (u : Value) (_ : World) => u = .bool false),
            (fun (u : Value) (_ : World) => u = .bool false),
            (fun (u : Value) (_ : World) => u = .int .i64 n6),
            (fun (u : Value) (_ : World) => u = .bool false),
            (fun (u : Value) (_ : World) => u = .bool false),
            (fun (_ : Value) (_ : World) => True),
            (fun (_ : Value) (_ : World) => True),
            (fun (_ : Value) (_ : World) => True),
            (fun (_ : Value) (_ : World) => True),
            (fun (_ : Value) (_ : World) => True),
            (fun (_ : Value) (_ : World) => True),
            (fun (u : Value) (_ : World) => u = .bool false),
            (fun (u : Value) (_ : World) => u = .bool false)
          ] ⟨fun _ _ _ _ h => h, fun _ _ _ _ h => h, fun _ _ _ _ h => h, fun _ _ _ _ h => h, fun _ _ _ hE h => RB.mono h (Ext.hle hE), fun _ _ _ _ h => h, fun _ _ _ _ h => h, fun _ _ _ _ h => h, fun _ _ _ _ h => h, fun _ _ _ _ h => h, fun _ _ _ _ h => h, fun _ _ _ _ h => h, fun _ _ _ _ h => h, fun _ _ _ _ h => h, fun _ _ _ _ h => h, fun _ _ _ _ h => h, fun _ _ _ _ h => h, fun _ _ _ _ h => h, fun _ _ _ _ h => h, fun _ _ _ _ h => h, fun _ _ _ _ h => h, fun _ _ _ _ h => h, trivial⟩ ⟨?_, ?_, ?_, ?_, ?_, ?_, ?_, ?_, ?_, ?_, ?_, ?_, ?_, ?_, ?_, ?_, ?_, ?_, ?_, ?_, ?_, ?_, trivial⟩ ?_
        · intro g w1 hR hf hd
          have h1 : g 5 = .int .i64 n4 := hf 5 (by decide)
          exact StepT.plain rfl (O.move (v := .int .i64 n4) rfl h1 ⟨Chg.refl _ _, rfl⟩)
        · intro g w1 hR hf hd
          have h1 : (fun (u : Value) (_ : World) => u = .int .i64 n4) (g 25) w1 := hd.1 rfl
          exact StepT.plain rfl (O.cmp (a := n4) (b := 0) (r := true) rfl h1 rfl (by simp [cmpI, hn4z]) ⟨Chg.refl _ _, rfl⟩)
        · intro g w1 hR hf hd
          have h1 : (fun (u : Value) (_ : World) => u = .bool true) (g 26) w1 := hd.1 rfl
          exact StepT.plain rfl (O.move (v := .bool true) rfl h1 ⟨Chg.refl _ _, rfl⟩)
        · intro g w1 hR hf hd
          have hgd : g 27 = .bool true := hd.1 rfl
          have h1 : g 4 = .pointer (some ⟨b4, 0, none⟩) := hf 4 (by decide)
          have hk := Ext.blk hR (show w7.drew.heap[b4]? = _ from hk4w7)
          refine StepT.on rfl (guardF_of (t := 27) rfl hgd) (O.loadBlk (b := b4) (off := 0) (cs := q4.cells) rfl h1 hk Tryz.underlying36 rfl sz36 rfl ⟨Chg.refl _ _, rfl⟩)
        · intro g w1 hR hf hd
          have hgd : g 27 = .bool true := hd.2.1 rfl
          have h1 : (fun (u : Value) (_ : World) => u = Value.agg (List.toArray q4.cells)) (g 28) w1 := hd.1 rfl
          refine StepT.on rfl (guardF_of (t := 27) rfl hgd) (O.call (fid := 9) (cap := #[]) (args := [Value.agg (List.toArray q4.cells)]) rfl rfl (by show [g 28] = _; rw [h1]) Tryz.func9 rfl rfl ?_)
          refine Calls.mono (Message_calls (Ext.agr hR (show Agr N4 w7.drew from hN4w7)) hR4 (by rw [hb4]; omega)) ?_
          rintro e w2 ⟨v2, rfl, own2, hE2⟩
          refine ⟨v2, rfl, hE2, ?_⟩
          show RB (hfOf w2) v2 bs
          rw [← hb4]
          exact own2.rb
        · intro g w1 hR hf hd
          have hgd : g 27 = .bool true := hd.2.1 rfl
          have h1 : (fun (u : Value) (w : World) => RB (hfOf w) u bs) (g 29) w1 := hd.1 rfl
          refine StepT.on rfl (guardF_of (t := 27) rfl hgd) (O.toString (H := hfOf w1) rfl rfl Tryz.underlying22 Tryz.underlying9 Tryz.underlying5 (Agr.hf w1) h1 ⟨Chg.refl _ _, rfl⟩)
        · intro g w1 hR hf hd
          have hgd : g 27 = .bool true := hd.1 rfl
          have h1 : g 0 = (.slice ao bs.length cap) := hf 0 (by decide)
          refine StepT.on rfl (guardF_of (t := 27) rfl hgd) (O.move (v := (.slice ao bs.length cap)) rfl h1 ⟨Chg.refl _ _, rfl⟩)
        · intro g w1 hR hf hd
          have hgd : g 27 = .bool true := hd.2.1 rfl
          have h1 : (fun (u : Value) (_ : World) => u = (.slice ao bs.length cap)) (g 31) w1 := hd.1 rfl
          refine StepT.on rfl (guardF_of (t := 27) rfl hgd) (O.toString (H := H) rfl h1 Tryz.underlying22 Tryz.underlying9 Tryz.underlying5 (Ext.agr hR (show Agr H w7.drew from hAw7)) r ⟨Chg.refl _ _, rfl⟩)
        · intro g w1 hR hf hd
          have hgd : g 27 = .bool true := hd.2.2.1 rfl
          have h1 : (fun (u : Value) (_ : World) => u = strOf bs) (g 30) w1 := hd.1 rfl
          have h2 : (fun (u : Value) (_ : World) => u = strOf bs) (g 32) w1 := hd.2.1 rfl
          refine StepT.on rfl (guardF_of (t := 27) rfl hgd) (O.strEql (a := bs) (b := bs) (r := false) rfl h1 h2 (.inr ⟨rfl, by simp⟩) ⟨Chg.refl _ _, rfl⟩)
        · intro g w1 hR hf hd
          have h1 : g 27 = .bool true := hd.1 rfl
          have h2 : g 33 = .bool false := hd.2.1 rfl
          exact StepT.plain rfl (O.pick (b := true) (v := .bool false) rfl h1 h2 ⟨Chg.refl _ _, rfl⟩)
        · intro g w1 hR hf hd
          have h1 : (fun (u : Value) (_ : World) => u = .bool false) (g 34) w1 := hd.1 rfl
          exact StepT.plain rfl (O.move (v := .bool false) rfl h1 ⟨Chg.refl _ _, rfl⟩)
        · intro g w1 hR hf hd
          have hgd : g 35 = .bool false := hd.1 rfl
          have h1 : g 7 = .int .i64 n6 := hf 7 (by decide)
          exact StepT.on rfl (guardF_of (t := 35) rfl hgd) (O.move (v := .int .i64 n6) rfl h1 ⟨Chg.refl _ _, rfl⟩)
        · intro g w1 hR hf hd
          have hgd : g 35 = .bool false := hd.2.1 rfl
          have h1 : (fun (u : Value) (_ : World) => u = .int .i64 n6) (g 36) w1 := hd.1 rfl
          exact StepT.on rfl (guardF_of (t := 35) rfl hgd) (O.cmp (a := n6) (b := 0) (r := false) rfl h1 rfl (by simp [cmpI, hn6z]) ⟨Chg.refl _ _, rfl⟩)
        · intro g w1 hR hf hd
          have hgd : g 35 = .bool false := hd.2.1 rfl
          have h1 : (fun (u : Value) (_ : World) => u = .bool false) (g 37) w1 := hd.1 rfl
          exact StepT.on rfl (guardF_of (t := 35) rfl hgd) (O.move (v := .bool false) rfl h1 ⟨Chg.refl _ _, rfl⟩)
        · intro g w1 hR hf hd
          have hgd : g 38 = .bool false := hd.1 rfl
          exact StepT.off rfl (guardF_of (t := 38) rfl hgd) rfl ⟨Chg.refl _ _, trivial⟩
        · intro g w1 hR hf hd
          have hgd : g 38 = .bool false := hd.2.1 rfl
          exact StepT.off rfl (guardF_of (t := 38) rfl hgd) rfl ⟨Chg.refl _ _, trivial⟩
        · intro g w1 hR hf hd
          have hgd : g 38 = .bool false := hd.2.1 rfl
          exact StepT.off rfl (guardF_of (t := 38) rfl hgd) rfl ⟨Chg.refl _ _, trivial⟩
        · intro g w1 hR hf hd
          have hgd : g 38 = .bool false := hd.1 rfl
          exact StepT.off rfl (guardF_of (t := 38) rfl hgd) rfl ⟨Chg.refl _ _, trivial⟩
        · intro g w1 hR hf hd
          have hgd : g 38 = .bool false := hd.2.1 rfl
          exact StepT.off rfl (guardF_of (t := 38) rfl hgd) rfl ⟨Chg.refl _ _, trivial⟩
        · intro g w1 hR hf hd
          have hgd : g 38 = .bool false := hd.2.2.1 rfl
          exact StepT.off rfl (guardF_of (t := 38) rfl hgd) rfl ⟨Chg.refl _ _, trivial⟩
        · intro g w1 hR hf hd
          have hgd : g 35 = .bool false := hd.2.2.1 rfl
          have h1 : g 38 = .bool false := hd.1 rfl
          exact StepT.on rfl (guardF_of (t := 35) rfl hgd) (O.pick (b := false) (v := .bool false) rfl h1 rfl ⟨Chg.refl _ _, rfl⟩)
        · intro g w1 hR hf hd
          have h1 : g 35 = .bool false := hd.1 rfl
          have h2 : g 45 = .bool false := hd.2.1 rfl
          exact StepT.plain rfl (O.pick (b := false) (v := .bool false) rfl h1 h2 ⟨Chg.refl _ _, rfl⟩)
        intro g w8 hR hf hall
        have h46 := hall.2.2.2.2.2.2.2.2.2.2.2.2.2.2.2.2.2.2.2.2.2.1
        exact ⟨rfl, (Ext.drew w7).trans hR, h46, hf 0 (by decide), hf 3 (by decide), hf 4 (by decide), hf 5 (by decide), hf 6 (by decide)⟩
    · skip
      by_cases hn6z : n6 = 0
      · obtain ⟨x6, hb6', hR6, hs6⟩ := hg6 hn6z
        refine W.region_any (by kernel_rfl) (by kernel_rfl) [25, 26, 27, 28, 29, 30, 31, 32, 33, 34, 35, 36, 37, 38, 39, 40, 41, 42, 43, 44, 45, 46] rfl (fun a b => Ext a b) (fun _ => Chg.refl _ _) (fun h k => Chg.trans h k) [
            (fun (u : Value) (_ : World) => u = .int .i64 n4),
            (fun (u : Value) (_ : World) => u = .bool false),
            (fun (u : Value) (_ : World) => u = .bool false),
            (fun (_ : Value) (_ : World) => True),
            (fun (_ : Value) (_ : World) => True),
            (fun (_ : Value) (_ : World) => True),
            (fun (_ : Value) (_ : World) => True),
            (fun (_ : Value) (_ : World) => True),
            (fun (_ : Value) (_ : World) => True),
            (fun (u : Value) (_ : World) => u = .bool false),
            (fun (u : Value) (_ : World) => u = .bool false),
            (fun (u : Value) (_ : World) => u = .int .i64 n6),
            (fun (u : Value) (_ : World) => u = .bool true),
            (fun (u : Value) (_ : World) => u = .bool true),
            (fun (u : Value) (_ : World) => u = Value.agg (List.toArray q6.cells)),
            (fun (u : Value) (w : World) => RB (hfOf w) u bs),
            (fun (u : Value) (_ : World) => u = strOf bs),
            (fun (u : Value) (_ : World) => u = (.slice ao bs.length cap)),
            (fun (u : Value) (_ : World) => u = strOf bs),
            (fun (u : Value) (_ : World) => u = .bool false),
            (fun (u : Value) (_ : World) => u = .bool false),
            (fun (u : Value) (_ : World) => u = .bool false)
          ] ⟨fun _ _ _ _ h => h, fun _ _ _ _ h => h, fun _ _ _ _ h => h, fun _ _ _ _ h => h, fun _ _ _ _ h => h, fun _ _ _ _ h => h, fun _ _ _ _ h => h, fun _ _ _ _ h => h, fun _ _ _ _ h => h, fun _ _ _ _ h => h, fun _ _ _ _ h => h, fun _ _ _ _ h => h, fun _ _ _ _ h => h, fun _ _ _ _ h => h, fun _ _ _ _ h => h, fun _ _ _ hE h => RB.mono h (Ext.hle hE), fun _ _ _ _ h => h, fun _ _ _ _ h => h, fun _ _ _ _ h => h, fun _ _ _ _ h => h, fun _ _ _ _ h => h, fun _ _ _ _ h => h, trivial⟩ ⟨?_, ?_, ?_, ?_, ?_, ?_, ?_, ?_, ?_, ?_, ?_, ?_, ?_, ?_, ?_, ?_, ?_, ?_, ?_, ?_, ?_, ?_, trivial⟩ ?_
        · intro g w1 hR hf hd
          have h1 : g 5 = .int .i64 n4 := hf 5 (by decide)
          exact StepT.plain rfl (O.move (v := .int .i64 n4) rfl h1 ⟨Chg.refl _ _, rfl⟩)
        · intro g w1 hR hf hd
          have h1 : (fun (u : Value) (_ : World) => u = .int .i64 n4) (g 25) w1 := hd.1 rfl
          exact StepT.plain rfl (O.cmp (a := n4) (b := 0) (r := false) rfl h1 rfl (by simp [cmpI, hn4z]) ⟨Chg.refl _ _, rfl⟩)
        · intro g w1 hR hf hd
          have h1 : (fun (u : Value) (_ : World) => u = .bool false) (g 26) w1 := hd.1 rfl
          exact StepT.plain rfl (O.move (v := .bool false) rfl h1 ⟨Chg.refl _ _, rfl⟩)
        · intro g w1 hR hf hd
          have hgd : g 27 = .bool false := hd.1 rfl
          exact StepT.off rfl (guardF_of (t := 27) rfl hgd) rfl ⟨Chg.refl _ _, trivial⟩
        · intro g w1 hR hf hd
          have hgd : g 27 = .bool false := hd.2.1 rfl
          exact StepT.off rfl (guardF_of (t := 27) rfl hgd) rfl ⟨Chg.refl _ _, trivial⟩
        · intro g w1 hR hf hd
          have hgd : g 27 = .bool false := hd.2.1 rfl
          exact StepT.off rfl (guardF_of (t := 27) rfl hgd) rfl ⟨Chg.refl _ _, trivial⟩
        · intro g w1 hR hf hd
          have hgd : g 27 = .bool false := hd.1 rfl
          exact StepT.off rfl (guardF_of (t := 27) rfl hgd) rfl ⟨Chg.refl _ _, trivial⟩
        · intro g w1 hR hf hd
          have hgd : g 27 = .bool false := hd.2.1 rfl
          exact StepT.off rfl (guardF_of (t := 27) rfl hgd) rfl ⟨Chg.refl _ _, trivial⟩
        · intro g w1 hR hf hd
          have hgd : g 27 = .bool false := hd.2.2.1 rfl
          exact StepT.off rfl (guardF_of (t := 27) rfl hgd) rfl ⟨Chg.refl _ _, trivial⟩
        · intro g w1 hR hf hd
          have h1 : g 27 = .bool false := hd.1 rfl
          exact StepT.plain rfl (O.pick (b := false) (v := .bool false) rfl h1 rfl ⟨Chg.refl _ _, rfl⟩)
        · intro g w1 hR hf hd
          have h1 : (fun (u : Value) (_ : World) => u = .bool false) (g 34) w1 := hd.1 rfl
          exact StepT.plain rfl (O.move (v := .bool false) rfl h1 ⟨Chg.refl _ _, rfl⟩)
        · intro g w1 hR hf hd
          have hgd : g 35 = .bool false := hd.1 rfl
          have h1 : g 7 = .int .i64 n6 := hf 7 (by decide)
          exact StepT.on rfl (guardF_of (t := 35) rfl hgd) (O.move (v := .int .i64 n6) rfl h1 ⟨Chg.refl _ _, rfl⟩)
        · intro g w1 hR hf hd
          have hgd : g 35 = .bool false := hd.2.1 rfl
          have h1 : (fun (u : Value) (_ : World) => u = .int .i64 n6) (g 36) w1 := hd.1 rfl
          exact StepT.on rfl (guardF_of (t := 35) rfl hgd) (O.cmp (a := n6) (b := 0) (r := true) rfl h1 rfl (by simp [cmpI, hn6z]) ⟨Chg.refl _ _, rfl⟩)
        · intro g w1 hR hf hd
          have hgd : g 35 = .bool false := hd.2.1 rfl
          have h1 : (fun (u : Value) (_ : World) => u = .bool true) (g 37) w1 := hd.1 rfl
          exact StepT.on rfl (guardF_of (t := 35) rfl hgd) (O.move (v := .bool true) rfl h1 ⟨Chg.refl _ _, rfl⟩)
        · intro g w1 hR hf hd
          have hgd : g 38 = .bool true := hd.1 rfl
          have h1 : g 6 = .pointer (some ⟨b6, 0, none⟩) := hf 6 (by decide)
          have hk := Ext.blk hR (show w7.drew.heap[b6]? = _ from hkb6)
          refine StepT.on rfl (guardF_of (t := 38) rfl hgd) (O.loadBlk (b := b6) (off := 0) (cs := q6.cells) rfl h1 hk Tryz.underlying47 rfl sz47 rfl ⟨Chg.refl _ _, rfl⟩)
        · intro g w1 hR hf hd
          have hgd : g 38 = .bool true := hd.2.1 rfl
          have h1 : (fun (u : Value) (_ : World) => u = Value.agg (List.toArray q6.cells)) (g 39) w1 := hd.1 rfl
          refine StepT.on rfl (guardF_of (t := 38) rfl hgd) (O.call (fid := 10) (cap := #[]) (args := [Value.agg (List.toArray q6.cells)]) rfl rfl (by show [g 39] = _; rw [h1]) Tryz.func10 rfl rfl ?_)
          refine Calls.mono (Fact_calls (Ext.agr hR (show Agr N6 w7.drew from hN6w7)) hR6 (by rw [hb6']; omega)) ?_
          rintro e w2 ⟨v2, rfl, own2, hE2⟩
          refine ⟨v2, rfl, hE2, ?_⟩
          show RB (hfOf w2) v2 bs
          rw [← hb6']
          exact own2.rb
        · intro g w1 hR hf hd
          have hgd : g 38 = .bool true := hd.2.1 rfl
          have h1 : (fun (u : Value) (w : World) => RB (hfOf w) u bs) (g 40) w1 := hd.1 rfl
          refine StepT.on rfl (guardF_of (t := 38) rfl hgd) (O.toString (H := hfOf w1) rfl rfl Tryz.underlying22 Tryz.underlying9 Tryz.underlying5 (Agr.hf w1) h1 ⟨Chg.refl _ _, rfl⟩)
        · intro g w1 hR hf hd
          have hgd : g 38 = .bool true := hd.1 rfl
          have h1 : g 0 = (.slice ao bs.length cap) := hf 0 (by decide)
          refine StepT.on rfl (guardF_of (t := 38) rfl hgd) (O.move (v := (.slice ao bs.length cap)) rfl h1 ⟨Chg.refl _ _, rfl⟩)
        · intro g w1 hR hf hd
          have hgd : g 38 = .bool true := hd.2.1 rfl
          have h1 : (fun (u : Value) (_ : World) => u = (.slice ao bs.length cap)) (g 42) w1 := hd.1 rfl
          refine StepT.on rfl (guardF_of (t := 38) rfl hgd) (O.toString (H := H) rfl h1 Tryz.underlying22 Tryz.underlying9 Tryz.underlying5 (Ext.agr hR (show Agr H w7.drew from hAw7)) r ⟨Chg.refl _ _, rfl⟩)
        · intro g w1 hR hf hd
          have hgd : g 38 = .bool true := hd.2.2.1 rfl
          have h1 : (fun (u : Value) (_ : World) => u = strOf bs) (g 41) w1 := hd.1 rfl
          have h2 : (fun (u : Value) (_ : World) => u = strOf bs) (g 43) w1 := hd.2.1 rfl
          refine StepT.on rfl (guardF_of (t := 38) rfl hgd) (O.strEql (a := bs) (b := bs) (r := false) rfl h1 h2 (.inr ⟨rfl, by simp⟩) ⟨Chg.refl _ _, rfl⟩)
        · intro g w1 hR hf hd
          have hgd : g 35 = .bool false := hd.2.2.1 rfl
          have h1 : g 38 = .bool true := hd.1 rfl
          have h2 : g 44 = .bool false := hd.2.1 rfl
          exact StepT.on rfl (guardF_of (t := 35) rfl hgd) (O.pick (b := true) (v := .bool false) rfl h1 h2 ⟨Chg.refl _ _, rfl⟩)
        · intro g w1 hR hf hd
          have h1 : g 35 = .bool false := hd.1 rfl
          have h2 : g 45 = .bool false := hd.2.1 rfl
          exact StepT.plain rfl (O.pick (b := false) (v := .bool false) rfl h1 h2 ⟨Chg.refl _ _, rfl⟩)
        intro g w8 hR hf hall
        have h46 := hall.2.2.2.2.2.2.2.2.2.2.2.2.2.2.2.2.2.2.2.2.2.1
        exact ⟨rfl, (Ext.drew w7).trans hR, h46, hf 0 (by decide), hf 3 (by decide), hf 4 (by decide), hf 5 (by decide), hf 6 (by decide)⟩
      · skip
        refine W.region_any (by kernel_rfl) (by kernel_rfl) [25, 26, 27, 28, 29, 30, 31, 32, 33, 34, 35, 36, 37, 38, 39, 40, 41, 42, 43, 44, 45, 46] rfl (fun a b => Ext a b) (fun _ => Chg.refl _ _) (fun h k => Chg.trans h k) [
            (fun (u : Value) (_ : World) => u = .int .i64 n4),
            (fun (u : Value) (_ : World) => u = .bool false),
            (fun (u : Value) (_ : World) => u = .bool false),
            (fun (_ : Value) (_ : World) => True),
            (fun (_ : Value) (_ : World) => True),
            (fun (_ : Value) (_ : World) => True),
            (fun (_ : Value) (_ : World) => True),
            (fun (_ : Value) (_ : World) => True),
            (fun (_ : Value) (_ : World) => True),
            (fun (u : Value) (_ : World) => u = .bool false),
            (fun (u : Value) (_ : World) => u = .bool false),
            (fun (u : Value) (_ : World) => u = .int .i64 n6),
            (fun (u : Value) (_ : World) => u = .bool false),
            (fun (u : Value) (_ : World) => u = .bool false),
            (fun (_ : Value) (_ : World) => True),
            (fun (_ : Value) (_ : World) => True),
            (fun (_ : Value) (_ : World) => True),
            (fun (_ : Value) (_ : World) => True),
            (fun (_ : Value) (_ : World) => True),
            (fun (_ : Value) (_ : World) => True),
            (fun (u : Value) (_ : World) => u = .bool false),
            (fun (u : Value) (_ : World) => u = .bool false)
          ] ⟨fun _ _ _ _ h => h, fun _ _ _ _ h => h, fun _ _ _ _ h => h, fun _ _ _ _ h => h, fun _ _ _ _ h => h, fun _ _ _ _ h => h, fun _ _ _ _ h => h, fun _ _ _ _ h => h, fun _ _ _ _ h => h, fun _ _ _ _ h => h, fun _ _ _ _ h => h, fun _ _ _ _ h => h, fun _ _ _ _ h => h, fun _ _ _ _ h => h, fun _ _ _ _ h => h, fun _ _ _ _ h => h, fun _ _ _ _ h => h, fun _ _ _ _ h => h, fun _ _ _ _ h => h, fun _ _ _ _ h => h, fun _ _ _ _ h => h, fun _ _ _ _ h => h, trivial⟩ ⟨?_, ?_, ?_, ?_, ?_, ?_, ?_, ?_, ?_, ?_, ?_, ?_, ?_, ?_, ?_, ?_, ?_, ?_, ?_, ?_, ?_, ?_, trivial⟩ ?_
        · intro g w1 hR hf hd
          have h1 : g 5 = .int .i64 n4 := hf 5 (by decide)
          exact StepT.plain rfl (O.move (v := .int .i64 n4) rfl h1 ⟨Chg.refl _ _, rfl⟩)
        · intro g w1 hR hf hd
          have h1 : (fun (u : Value) (_ : World) => u = .int .i64 n4) (g 25) w1 := hd.1 rfl
          exact StepT.plain rfl (O.cmp (a := n4) (b := 0) (r := false) rfl h1 rfl (by simp [cmpI, hn4z]) ⟨Chg.refl _ _, rfl⟩)
        · intro g w1 hR hf hd
          have h1 : (fun (u : Value) (_ : World) => u = .bool false) (g 26) w1 := hd.1 rfl
          exact StepT.plain rfl (O.move (v := .bool false) rfl h1 ⟨Chg.refl _ _, rfl⟩)
        · intro g w1 hR hf hd
          have hgd : g 27 = .bool false := hd.1 rfl
          exact StepT.off rfl (guardF_of (t := 27) rfl hgd) rfl ⟨Chg.refl _ _, trivial⟩
        · intro g w1 hR hf hd
          have hgd : g 27 = .bool false := hd.2.1 rfl
          exact StepT.off rfl (guardF_of (t := 27) rfl hgd) rfl ⟨Chg.refl _ _, trivial⟩
        · intro g w1 hR hf hd
          have hgd : g 27 = .bool false := hd.2.1 rfl
          exact StepT.off rfl (guardF_of (t := 27) rfl hgd) rfl ⟨Chg.refl _ _, trivial⟩
        · intro g w1 hR hf hd
          have hgd : g 27 = .bool false := hd.1 rfl
          exact StepT.off rfl (guardF_of (t := 27) rfl hgd) rfl ⟨Chg.refl _ _, trivial⟩
        · intro g w1 hR hf hd
          have hgd : g 27 = .bool false := hd.2.1 rfl
          exact StepT.off rfl (guardF_of (t := 27) rfl hgd) rfl ⟨Chg.refl _ _, trivial⟩
        · intro g w1 hR hf hd
          have hgd : g 27 = .bool false := hd.2.2.1 rfl
          exact StepT.off rfl (guardF_of (t := 27) rfl hgd) rfl ⟨Chg.refl _ _, trivial⟩
        · intro g w1 hR hf hd
          have h1 : g 27 = .bool false := hd.1 rfl
          exact StepT.plain rfl (O.pick (b := false) (v := .bool false) rfl h1 rfl ⟨Chg.refl _ _, rfl⟩)
        · intro g w1 hR hf hd
          have h1 : (fun (u : Value) (_ : World) => u = .bool false) (g 34) w1 := hd.1 rfl
          exact StepT.plain rfl (O.move (v := .bool false) rfl h1 ⟨Chg.refl _ _, rfl⟩)
        · intro g w1 hR hf hd
          have hgd : g 35 = .bool false := hd.1 rfl
          have h1 : g 7 = .int .i64 n6 := hf 7 (by decide)
          exact StepT.on rfl (guardF_of (t := 35) rfl hgd) (O.move (v := .int .i64 n6) rfl h1 ⟨Chg.refl _ _, rfl⟩)
        · intro g w1 hR hf hd
          have hgd : g 35 = .bool false := hd.2.1 rfl
          have h1 : (fun (u : Value) (_ : World) => u = .int .i64 n6) (g 36) w1 := hd.1 rfl
          exact StepT.on rfl (guardF_of (t := 35) rfl hgd) (O.cmp (a := n6) (b := 0) (r := false) rfl h1 rfl (by simp [cmpI, hn6z]) ⟨Chg.refl _ _, rfl⟩)
        · intro g w1 hR hf hd
          have hgd : g 35 = .bool false := hd.2.1 rfl
          have h1 : (fun (u : Value) (_ : World) => u = .bool false) (g 37) w1 := hd.1 rfl
          exact StepT.on rfl (guardF_of (t := 35) rfl hgd) (O.move (v := .bool false) rfl h1 ⟨Chg.refl _ _, rfl⟩)
        · intro g w1 hR hf hd
          have hgd : g 38 = .bool false := hd.1 rfl
          exact StepT.off rfl (guardF_of (t := 38) rfl hgd) rfl ⟨Chg.refl _ _, trivial⟩
        · intro g w1 hR hf hd
          have hgd : g 38 = .bool false := hd.2.1 rfl
          exact StepT.off rfl (guardF_of (t := 38) rfl hgd) rfl ⟨Chg.refl _ _, trivial⟩
        · intro g w1 hR hf hd
          have hgd : g 38 = .bool false := hd.2.1 rfl
          exact StepT.off rfl (guardF_of (t := 38) rfl hgd) rfl ⟨Chg.refl _ _, trivial⟩
        · intro g w1 hR hf hd
          have hgd : g 38 = .bool false := hd.1 rfl
          exact StepT.off rfl (guardF_of (t := 38) rfl hgd) rfl ⟨Chg.refl _ _, trivial⟩
        · intro g w1 hR hf hd
          have hgd : g 38 = .bool false := hd.2.1 rfl
          exact StepT.off rfl (guardF_of (t := 38) rfl hgd) rfl ⟨Chg.refl _ _, trivial⟩
        · intro g w1 hR hf hd
          have hgd : g 38 = .bool false := hd.2.2.1 rfl
          exact StepT.off rfl (guardF_of (t := 38) rfl hgd) rfl ⟨Chg.refl _ _, trivial⟩
        · intro g w1 hR hf hd
          have hgd : g 35 = .bool false := hd.2.2.1 rfl
          have h1 : g 38 = .bool false := hd.1 rfl
          exact StepT.on rfl (guardF_of (t := 35) rfl hgd) (O.pick (b := false) (v := .bool false) rfl h1 rfl ⟨Chg.refl _ _, rfl⟩)
        · intro g w1 hR hf hd
          have h1 : g 35 = .bool false := hd.1 rfl
          have h2 : g 45 = .bool false := hd.2.1 rfl
          exact StepT.plain rfl (O.pick (b := false) (v := .bool false) rfl h1 h2 ⟨Chg.refl _ _, rfl⟩)
        intro g w8 hR hf hall
        have h46 := hall.2.2.2.2.2.2.2.2.2.2.2.2.2.2.2.2.2.2.2.2.2.1
        exact ⟨rfl, (Ext.drew w7).trans hR, h46, hf 0 (by decide), hf 3 (by decide), hf 4 (by decide), hf 5 (by decide), hf 6 (by decide)⟩
  rintro g w8 ⟨hE8, h46, h0, h3, h4, h5, h6⟩
  refine hK8 _ _ ?_
  try clear hK8 K8
  refine W.cut [0, 3, 4, 5, 6, 46] (fun vals w1 => w8 = w1 ∧ vals = [(.slice ao bs.length cap), (.slice ao1 bs.length cap1), .pointer (some ⟨b4, 0, none⟩), .int .i64 n4, .pointer (some ⟨b6, 0, none⟩), .bool false]) ⟨rfl, by show [g 0, g 3, g 4, g 5, g 6, g 46] = _; rw [h0, h3, h4, h5, h6, h46]⟩ ?_
  rintro g2 _ _ ⟨rfl, rfl⟩
  refine W.cond_false rfl ?_
  obtain ⟨ao6, cap6, hv6⟩ := RS.form rb6
  have hc70 : (q6.cells.toArray)[70]? = some (.slice ao6 bs6.length cap6) := by rw [← hv6]; rfl
  rw [hv6] at rb6
  have hk6 := Ext.blk hE8 hkb6
  have hl6 := RS.len_le rb6
  have hmax : maxLen = 9223372036854775807 := rfl
  obtain ⟨B6, hsp6, hB6⟩ := Sp.ofRB (Ext.agr hE8 hN6w7) m6.unf rb6 w8.heap.size
  have hz1 := hE3.size; have hz2 := m4.st.chg.size; have hz3 := hE5.size; have hz4 := m6.st.chg.size; have hz5 := hE7.size; have hz6 := hE8.size; have hz7 := blk_lt hk6; have hz8 := blk_lt hkb4
  have hB6a : w5.heap.size ≤ B6 ∧ b6 ≠ B6 := by
    rcases hB6 with ⟨_, h⟩ | ⟨o, h⟩
    · omega
    · have h1 := m6.low h; have h2 := m6.st.agr.lt h; omega
  refine W.skip ?_
  refine hK7 _ _ ?_
  try clear hK7 K7
  refine W.seq fun K9 hK9 => ?_
  refine W.seq fun K10 hK10 => ?_
  refine W.region ?_
  refine SeqOps.put 47 rfl rfl rfl (O.fieldAddr (a := ⟨b6, 0, none⟩) (v := .pointer (some ⟨b6, 70, none⟩)) rfl rfl Tryz.underlying47 rfl (by kernel_rfl) rfl ?_)
  refine SeqOps.put 48 rfl rfl rfl (O.loadBlk1 (b := b6) (off := 70) (v := .slice ao6 bs6.length cap6) rfl rfl hk6 Tryz.underlying22 rfl hc70 ?_)
  refine SeqOps.put 49 rfl rfl rfl (O.lenSlice (ad := ao6) (n := bs6.length) (c := cap6) rfl rfl Tryz.underlying22 ?_)
  refine SeqOps.put 50 rfl rfl rfl (O.move (v := (.int .i64 (0))) rfl rfl ?_)
  refine SeqOps.nil ?_
  refine hK10 _ _ ?_
  try clear hK10 K10
  refine W.block ?_
  refine W.loopG (G := Nat) [0, 3, 4, 5, 6, 49, 50] (fun k vals wk => vals = [(.slice ao bs.length cap), (.slice ao1 bs.length cap1), .pointer (some ⟨b4, 0, none⟩), .int .i64 n4, .pointer (some ⟨b6, 0, none⟩), .int .i64 (bs6.length : Int), .int .i64 (k : Int)] ∧ k ≤ bs6.length ∧ Chg (· = B6) w8 wk ∧ Sp B6 ao6 bs6.length wk) (fun k => bs6.length - k) 0 ⟨rfl, Nat.zero_le _, Chg.refl _ _, hsp6⟩ ?_
  rintro k g _ wk ⟨rfl, hk, hCk, hspk⟩
  rcases Nat.lt_or_ge k bs6.length with hlt | hge
  · obtain ⟨off, c, ec, rfl, hblk, hby⟩ := hspk (by omega)
    obtain ⟨x, hx⟩ := hby k hlt
    have hok := (Array.getElem?_eq_some_iff.1 hx).1
    refine W.seq fun K11 hK11 => ?_
    refine W.region ?_
    refine SeqOps.put 51 rfl rfl rfl (O.cmp (a := (k : Int)) (b := (bs6.length : Int)) (r := true) rfl rfl rfl (by simp [cmpI]; omega) ?_)
    refine SeqOps.nil ?_
    refine hK11 _ _ ?_
    try clear hK11 K11
    refine W.seq fun K12 hK12 => ?_
    refine W.cond_true rfl ?_
    refine W.skip ?_
    refine hK12 _ _ ?_
    try clear hK12 K12
    refine W.seq fun K13 hK13 => ?_
    refine W.block ?_
    refine W.seq fun K14 hK14 => ?_
    refine W.region ?_
    refine SeqOps.put 52 rfl rfl rfl (O.move (v := (.int .i64 ((k : Int)))) rfl rfl ?_)
    refine SeqOps.put 8 rfl rfl rfl (O.assign (v := (.int .i64 ((k : Int)))) rfl rfl ?_)
    refine SeqOps.nil ?_
    refine hK14 _ _ ?_
    try clear hK14 K14
    refine W.region ?_
    refine SeqOps.put 53 rfl rfl rfl (O.fieldAddr (a := ⟨b6, 0, none⟩) (v := .pointer (some ⟨b6, 70, none⟩)) rfl rfl Tryz.underlying47 rfl (by kernel_rfl) rfl ?_)
    refine SeqOps.put 54 rfl rfl rfl (O.loadBlk1 (b := b6) (off := 70) (v := .slice (some ⟨B6, off, none⟩) bs6.length cap6) rfl rfl (Chg.blk hCk hk6 (fun h => hB6a.2 h)) Tryz.underlying22 rfl hc70 ?_)
    refine SeqOps.put 55 rfl rfl rfl (O.move (v := (.int .i64 ((k : Int)))) rfl rfl ?_)
    refine SeqOps.put 56 rfl rfl rfl (O.indexAddr (a := ⟨B6, off, none⟩) (len := bs6.length) (cap := cap6) (i := (k : Int)) (sz := 1) (v := .pointer (some ⟨B6, off + k, none⟩)) rfl rfl rfl Tryz.underlying22 sz5 (by omega) (by omega) (by rw [Addr.add_lit]; simp) ?_)
    refine SeqOps.put 57 rfl rfl rfl (O.loadBlk1 (b := B6) (off := off + k) (v := bc x) rfl rfl hblk Tryz.underlying5 rfl hx ?_)
    obtain ⟨y, hy⟩ := u8_wrap ((x.toNat : Int) + 1)
    refine SeqOps.put 58 rfl rfl rfl (O.arith (a := (x.toNat : Int)) (b := 1) (r := (x.toNat : Int) + 1) (c := (y.toNat : Int)) rfl rfl rfl rfl hy ?_)
    refine SeqOps.put 59 rfl rfl rfl (O.indexAddr (a := ⟨B6, off, none⟩) (len := bs6.length) (cap := cap6) (i := (k : Int)) (sz := 1) (v := .pointer (some ⟨B6, off + k, none⟩)) rfl rfl rfl Tryz.underlying22 sz5 (by omega) (by omega) (by rw [Addr.add_lit]; simp) ?_)
    refine SeqOps.eff rfl rfl (O.store (b := B6) (off := off + k) (v := bc y) (n := 1) rfl rfl rfl hblk sz5 rfl (by omega) (by intro u hu; simp [Value.cells, bc] at hu; subst hu; rfl) rfl ?_)
    intro w2 hC2 hb2
    refine SeqOps.nil ?_
    refine hK13 _ _ ?_
    try clear hK13 K13
    refine W.region ?_
    refine SeqOps.put 60 rfl rfl rfl (O.arith (a := (k : Int)) (b := 1) (r := (k : Int) + 1) (c := (k : Int) + 1) rfl rfl rfl rfl (by exact wrap_i64 (by omega) (by omega)) ?_)
    refine SeqOps.put 50 rfl rfl rfl (O.move (v := (.int .i64 ((k : Int) + 1))) rfl rfl ?_)
    refine SeqOps.nil ?_
    exact ⟨k + 1, ⟨rfl, by omega, hCk.trans hC2, Sp.stored hby hlt hb2⟩, by show bs6.length - (k + 1) < bs6.length - k; omega⟩
  have hkn : k = bs6.length := by omega
  refine W.seq fun K15 hK15 => ?_
  refine W.region ?_
  refine SeqOps.put 51 rfl rfl rfl (O.cmp (a := (k : Int)) (b := (bs6.length : Int)) (r := false) rfl rfl rfl (by simp [cmpI]; omega) ?_)
  refine SeqOps.nil ?_
  refine hK15 _ _ ?_
  try clear hK15 K15
  refine W.seq fun K16 hK16 => ?_
  refine W.cond_false rfl ?_
  refine W.exit ?_
  refine hK9 _ _ ?_
  try clear hK9 K9
  refine W.seq fun K17 hK17 => ?_
  refine W.seq fun K18 hK18 => ?_
  refine W.region ?_
  obtain ⟨w9, hw9⟩ : ∃ w9, w9 = wk := ⟨_, rfl⟩
  rw [← hw9] at hCk hspk ⊢
  clear hw9
  have hC9 : Chg (· = B6) w8 w9 := hCk
  have hN1w9 : Agr N1 w9 := hC9.agr (Ext.agr ((((m4.st.chg.trans hE5).trans m6.st.chg).trans hE7).trans hE8) n1.st.agr) (fun i hi => by subst hi; exact n1.st.agr.none (by omega))
  have hN4w9 : Agr N4 w9 := hC9.agr (Ext.agr hE8 hN4w7) (fun i hi => by subst hi; exact (Ext.agr hE5 m4.st.agr).none (by omega))
  have hAw9 : Agr H w9 := hC9.agr (Ext.agr hE8 hAw7) (fun i hi => by subst hi; exact hA.none (by omega))
  have hk4w9 := Chg.blk hC9 (Ext.blk hE8 hk4w7) (fun h => by have h' : b4 = B6 := h; omega)
  have hz9 := hC9.size
  have hl1 := RS.len_le rb1
  obtain ⟨B1, hsp1, hB1⟩ := Sp.ofRB hN1w9 n1.unf rb1 w9.heap.size
  have hB1a : w.heap.size ≤ B1 ∧ b4 ≠ B1 ∧ N4 B1 = none := by
    rcases hB1 with ⟨_, h⟩ | ⟨o, h⟩
    · exact ⟨by omega, by omega, hN4w9.none (by omega)⟩
    · have h1 := n1.low h; have h2 := n1.st.agr.lt h; exact ⟨by omega, by omega, m4.st.low _ h2⟩
  refine SeqOps.put 61 rfl rfl rfl (O.move (v := (.slice ao1 bs.length cap1)) rfl rfl ?_)
  refine SeqOps.put 62 rfl rfl rfl (O.lenSlice (ad := ao1) (n := bs.length) (c := cap1) rfl rfl Tryz.underlying22 ?_)
  refine SeqOps.put 63 rfl rfl rfl (O.move (v := (.int .i64 (0))) rfl rfl ?_)
  refine SeqOps.nil ?_
  refine hK18 _ _ ?_
  try clear hK18 K18
  refine W.block ?_
  refine W.loopG (G := Nat) [0, 3, 4, 5, 62, 63] (fun k vals wk => vals = [(.slice ao bs.length cap), (.slice ao1 bs.length cap1), .pointer (some ⟨b4, 0, none⟩), .int .i64 n4, .int .i64 (bs.length : Int), .int .i64 (k : Int)] ∧ k ≤ bs.length ∧ Chg (· = B1) w9 wk ∧ Sp B1 ao1 bs.length wk) (fun k => bs.length - k) 0 ⟨rfl, Nat.zero_le _, Chg.refl _ _, hsp1⟩ ?_
  rintro k g _ wk ⟨rfl, hk, hCk, hspk⟩
  rcases Nat.lt_or_ge k bs.length with hlt | hge
  · obtain ⟨off, c, ec, rfl, hblk, hby⟩ := hspk (by omega)
    obtain ⟨x, hx⟩ := hby k hlt
    have hok := (Array.getElem?_eq_some_iff.1 hx).1
    refine W.seq fun K19 hK19 => ?_
    refine W.region ?_
    refine SeqOps.put 64 rfl rfl rfl (O.cmp (a := (k : Int)) (b := (bs.length : Int)) (r := true) rfl rfl rfl (by simp [cmpI]; omega) ?_)
    refine SeqOps.nil ?_
    refine hK19 _ _ ?_
    try clear hK19 K19
    refine W.seq fun K20 hK20 => ?_
    refine W.cond_true rfl ?_
    refine W.skip ?_
    refine hK20 _ _ ?_
    try clear hK20 K20
    refine W.seq fun K21 hK21 => ?_
    refine W.block ?_
    refine W.seq fun K22 hK22 => ?_
    refine W.region ?_
    refine SeqOps.put 65 rfl rfl rfl (O.move (v := (.int .i64 ((k : Int)))) rfl rfl ?_)
    refine SeqOps.put 9 rfl rfl rfl (O.assign (v := (.int .i64 ((k : Int)))) rfl rfl ?_)
    refine SeqOps.nil ?_
    refine hK22 _ _ ?_
    try clear hK22 K22
    refine W.region ?_
    refine SeqOps.put 66 rfl rfl rfl (O.move (v := (.slice (some ⟨B1, off, none⟩) bs.length cap1)) rfl rfl ?_)
    refine SeqOps.put 67 rfl rfl rfl (O.move (v := (.int .i64 ((k : Int)))) rfl rfl ?_)
    refine SeqOps.put 68 rfl rfl rfl (O.indexAddr (a := ⟨B1, off, none⟩) (len := bs.length) (cap := cap1) (i := (k : Int)) (sz := 1) (v := .pointer (some ⟨B1, off + k, none⟩)) rfl rfl rfl Tryz.underlying22 sz5 (by omega) (by omega) (by rw [Addr.add_lit]; simp) ?_)
    refine SeqOps.put 69 rfl rfl rfl (O.loadBlk1 (b := B1) (off := off + k) (v := bc x) rfl rfl hblk Tryz.underlying5 rfl hx ?_)
    obtain ⟨y, hy⟩ := u8_wrap ((BitVec.ofInt IntKind.u8.bits (x.toNat : Int) ^^^ BitVec.ofInt IntKind.u8.bits 85).toNat : Int)
    refine SeqOps.put 70 rfl rfl rfl (O.xor (a := (x.toNat : Int)) (b := 85) (c := (y.toNat : Int)) rfl rfl rfl hy ?_)
    refine SeqOps.put 71 rfl rfl rfl (O.indexAddr (a := ⟨B1, off, none⟩) (len := bs.length) (cap := cap1) (i := (k : Int)) (sz := 1) (v := .pointer (some ⟨B1, off + k, none⟩)) rfl rfl rfl Tryz.underlying22 sz5 (by omega) (by omega) (by rw [Addr.add_lit]; simp) ?_)
    refine SeqOps.eff rfl rfl (O.store (b := B1) (off := off + k) (v := bc y) (n := 1) rfl rfl rfl hblk sz5 rfl (by omega) (by intro u hu; simp [Value.cells, bc] at hu; subst hu; rfl) rfl ?_)
    intro w2 hC2 hb2
    refine SeqOps.nil ?_
    refine hK21 _ _ ?_
    try clear hK21 K21
    refine W.region ?_
    refine SeqOps.put 72 rfl rfl rfl (O.arith (a := (k : Int)) (b := 1) (r := (k : Int) + 1) (c := (k : Int) + 1) rfl rfl rfl rfl (by exact wrap_i64 (by omega) (by omega)) ?_)
    refine SeqOps.put 63 rfl rfl rfl (O.move (v := (.int .i64 ((k : Int) + 1))) rfl rfl ?_)
    refine SeqOps.nil ?_
    exact ⟨k + 1, ⟨rfl, by omega, hCk.trans hC2, Sp.stored hby hlt hb2⟩, by show bs.length - (k + 1) < bs.length - k; omega⟩
  have hkn : k = bs.length := by omega
  refine W.seq fun K23 hK23 => ?_
  refine W.region ?_
  refine SeqOps.put 64 rfl rfl rfl (O.cmp (a := (k : Int)) (b := (bs.length : Int)) (r := false) rfl rfl rfl (by simp [cmpI]; omega) ?_)
  refine SeqOps.nil ?_
  refine hK23 _ _ ?_
  try clear hK23 K23
  refine W.seq fun K24 hK24 => ?_
  refine W.cond_false rfl ?_
  refine W.exit ?_
  refine hK17 _ _ ?_
  try clear hK17 K17
  refine W.seq fun K25 hK25 => ?_
  have hAwk : Agr H wk := hCk.agr hAw9 (fun i hi => by subst hi; exact hA.none hB1a.1)
  have hN4wk : Agr N4 wk := hCk.agr hN4w9 (fun i hi => by subst hi; exact hB1a.2.2)
  have hk4wk := Chg.blk hCk hk4w9 (fun h => hB1a.2.1 h)
  refine W.post (fun g w11 => g 2 = .bool true ∧ Ext wk w11) ?_ ?_
  · by_cases hn4z : n4 = 0
    · obtain ⟨x4, hb4, hR4, hs4⟩ := hg4 hn4z
      refine W.region_any (by kernel_rfl) (by kernel_rfl) [73, 74, 75, 76, 77, 78, 79, 80, 81, 82, 2] rfl (fun a b => Ext a b) (fun _ => Chg.refl _ _) (fun h k => Chg.trans h k) [
          (fun (u : Value) (_ : World) => u = .int .i64 n4),
          (fun (u : Value) (_ : World) => u = .bool false),
          (fun (u : Value) (_ : World) => u = .bool false),
          (fun (u : Value) (_ : World) => u = Value.agg (List.toArray q4.cells)),
          (fun (u : Value) (w : World) => RB (hfOf w) u bs),
          (fun (u : Value) (_ : World) => u = strOf bs),
          (fun (u : Value) (_ : World) => u = (.slice ao bs.length cap)),
          (fun (u : Value) (_ : World) => u = strOf bs),
          (fun (u : Value) (_ : World) => u = .bool true),
          (fun (u : Value) (_ : World) => u = .bool true),
          (fun (u : Value) (_ : World) => u = .bool true)
        ] ⟨fun _ _ _ _ h => h, fun _ _ _ _ h => h, fun _ _ _ _ h => h, fun _ _ _ _ h => h, fun _ _ _ hE h => RB.mono h (Ext.hle hE), fun _ _ _ _ h => h, fun _ _ _ _ h => h, fun _ _ _ _ h => h, fun _ _ _ _ h => h, fun _ _ _ _ h => h, fun _ _ _ _ h => h, trivial⟩ ⟨?_, ?_, ?_, ?_, ?_, ?_, ?_, ?_, ?_, ?_, ?_, trivial⟩ ?_
      · intro g w1 hR hf hd
        have h1 : g 5 = .int .i64 n4 := hf 5 (by decide)
        exact StepT.plain rfl (O.move (v := .int .i64 n4) rfl h1 ⟨Chg.refl _ _, rfl⟩)
      · intro g w1 hR hf hd
        have h1 : (fun (u : Value) (_ : World) => u = .int .i64 n4) (g 73) w1 := hd.1 rfl
        exact StepT.plain rfl (O.cmp (a := n4) (b := 0) (r := false) rfl h1 rfl (by simp [cmpI, hn4z]) ⟨Chg.refl _ _, rfl⟩)
      · intro g w1 hR hf hd
        have h1 : (fun (u : Value) (_ : World) => u = .bool false) (g 74) w1 := hd.1 rfl
        exact StepT.plain rfl (O.move (v := .bool false) rfl h1 ⟨Chg.refl _ _, rfl⟩)
      · intro g w1 hR hf hd
        have hgd : g 75 = .bool false := hd.1 rfl
        have h1 : g 4 = .pointer (some ⟨b4, 0, none⟩) := hf 4 (by decide)
        have hk := Ext.blk hR (show wk.drew.heap[b4]? = _ from hk4wk)
        refine StepT.on rfl (guardF_of (t := 75) rfl hgd) (O.loadBlk (b := b4) (off := 0) (cs := q4.cells) rfl h1 hk Tryz.underlying36 rfl sz36 rfl ⟨Chg.refl _ _, rfl⟩)
      · intro g w1 hR hf hd
        have hgd : g 75 = .bool false := hd.2.1 rfl
        have h1 : (fun (u : Value) (_ : World) => u = Value.agg (List.toArray q4.cells)) (g 76) w1 := hd.1 rfl
        refine StepT.on rfl (guardF_of (t := 75) rfl hgd) (O.call (fid := 9) (cap := #[]) (args := [Value.agg (List.toArray q4.cells)]) rfl rfl (by show [g 76] = _; rw [h1]) Tryz.func9 rfl rfl ?_)
        refine Calls.mono (Message_calls (Ext.agr hR (show Agr N4 wk.drew from hN4wk)) hR4 (by rw [hb4]; omega)) ?_
        rintro e w2 ⟨v2, rfl, own2, hE2⟩
        refine ⟨v2, rfl, hE2, ?_⟩
        show RB (hfOf w2) v2 bs
        rw [← hb4]
        exact own2.rb
      · intro g w1 hR hf hd
        have hgd : g 75 = .bool false := hd.2.1 rfl
        have h1 : (fun (u : Value) (w : World) => RB (hfOf w) u bs) (g 77) w1 := hd.1 rfl
        refine StepT.on rfl (guardF_of (t := 75) rfl hgd) (O.toString (H := hfOf w1) rfl rfl Tryz.underlying22 Tryz.underlying9 Tryz.underlying5 (Agr.hf w1) h1 ⟨Chg.refl _ _, rfl⟩)
      · intro g w1 hR hf hd
        have hgd : g 75 = .bool false := hd.1 rfl
        have h1 : g 0 = (.slice ao bs.length cap) := hf 0 (by decide)
        refine StepT.on rfl (guardF_of (t := 75) rfl hgd) (O.move (v := (.slice ao bs.length cap)) rfl h1 ⟨Chg.refl _ _, rfl⟩)
      · intro g w1 hR hf hd
        have hgd : g 75 = .bool false := hd.2.1 rfl
        have h1 : (fun (u : Value) (_ : World) => u = (.slice ao bs.length cap)) (g 79) w1 := hd.1 rfl
        refine StepT.on rfl (guardF_of (t := 75) rfl hgd) (O.toString (H := H) rfl h1 Tryz.underlying22 Tryz.underlying9 Tryz.underlying5 (Ext.agr hR (show Agr H wk.drew from hAwk)) r ⟨Chg.refl _ _, rfl⟩)
      · intro g w1 hR hf hd
        have hgd : g 75 = .bool false := hd.2.2.1 rfl
        have h1 : (fun (u : Value) (_ : World) => u = strOf bs) (g 78) w1 := hd.1 rfl
        have h2 : (fun (u : Value) (_ : World) => u = strOf bs) (g 80) w1 := hd.2.1 rfl
        refine StepT.on rfl (guardF_of (t := 75) rfl hgd) (O.strEql (a := bs) (b := bs) (r := true) rfl h1 h2 (.inl ⟨rfl, by simp⟩) ⟨Chg.refl _ _, rfl⟩)
      · intro g w1 hR hf hd
        have h1 : g 75 = .bool false := hd.1 rfl
        have h2 : g 81 = .bool true := hd.2.1 rfl
        exact StepT.plain rfl (O.pick (b := false) (v := .bool true) rfl h1 h2 ⟨Chg.refl _ _, rfl⟩)
      · intro g w1 hR hf hd
        have h1 : (fun (u : Value) (_ : World) => u = .bool true) (g 82) w1 := hd.1 rfl
        exact StepT.plain rfl (O.assign (v := .bool true) rfl h1 ⟨Chg.refl _ _, rfl⟩)
      intro g w11 hR hf hall
      have h2 := hall.2.2.2.2.2.2.2.2.2.2.1
      exact ⟨rfl, h2, (Ext.drew wk).trans hR⟩
    · skip
      refine W.region_any (by kernel_rfl) (by kernel_rfl) [73, 74, 75, 76, 77, 78, 79, 80, 81, 82, 2] rfl (fun a b => Ext a b) (fun _ => Chg.refl _ _) (fun h k => Chg.trans h k) [
          (fun (u : Value) (_ : World) => u = .int .i64 n4),
          (fun (u : Value) (_ : World) => u = .bool true),
          (fun (u : Value) (_ : World) => u = .bool true),
          (fun (_ : Value) (_ : World) => True),
          (fun (_ : Value) (_ : World) => True),
          (fun (_ : Value) (_ : World) => True),
          (fun (_ : Value) (_ : World) => True),
          (fun (_ : Value) (_ : World) => True),
          (fun (_ : Value) (_ : World) => True),
          (fun (u : Value) (_ : World) => u = .bool true),
          (fun (u : Value) (_ : World) => u = .bool true)
        ] ⟨fun _ _ _ _ h => h, fun _ _ _ _ h => h, fun _ _ _ _ h => h, fun _ _ _ _ h => h, fun _ _ _ _ h => h, fun _ _ _ _ h => h, fun _ _ _ _ h => h, fun _ _ _ _ h => h, fun _ _ _ _ h => h, fun _ _ _ _ h => h, fun _ _ _ _ h => h, trivial⟩ ⟨?_, ?_, ?_, ?_, ?_, ?_, ?_, ?_, ?_, ?_, ?_, trivial⟩ ?_
      · intro g w1 hR hf hd
        have h1 : g 5 = .int .i64 n4 := hf 5 (by decide)
        exact StepT.plain rfl (O.move (v := .int .i64 n4) rfl h1 ⟨Chg.refl _ _, rfl⟩)
      · intro g w1 hR hf hd
        have h1 : (fun (u : Value) (_ : World) => u = .int .i64 n4) (g 73) w1 := hd.1 rfl
        exact StepT.plain rfl (O.cmp (a := n4) (b := 0) (r := true) rfl h1 rfl (by simp [cmpI, hn4z]) ⟨Chg.refl _ _, rfl⟩)
      · intro g w1 hR hf hd
        have h1 : (fun (u : Value) (_ : World) => u = .bool true) (g 74) w1 := hd.1 rfl
        exact StepT.plain rfl (O.move (v := .bool true) rfl h1 ⟨Chg.refl _ _, rfl⟩)
      · intro g w1 hR hf hd
        have hgd : g 75 = .bool true := hd.1 rfl
        exact StepT.off rfl (guardF_of (t := 75) rfl hgd) rfl ⟨Chg.refl _ _, trivial⟩
      · intro g w1 hR hf hd
        have hgd : g 75 = .bool true := hd.2.1 rfl
        exact StepT.off rfl (guardF_of (t := 75) rfl hgd) rfl ⟨Chg.refl _ _, trivial⟩
      · intro g w1 hR hf hd
        have hgd : g 75 = .bool true := hd.2.1 rfl
        exact StepT.off rfl (guardF_of (t := 75) rfl hgd) rfl ⟨Chg.refl _ _, trivial⟩
      · intro g w1 hR hf hd
        have hgd : g 75 = .bool true := hd.1 rfl
        exact StepT.off rfl (guardF_of (t := 75) rfl hgd) rfl ⟨Chg.refl _ _, trivial⟩
      · intro g w1 hR hf hd
        have hgd : g 75 = .bool true := hd.2.1 rfl
        exact StepT.off rfl (guardF_of (t := 75) rfl hgd) rfl ⟨Chg.refl _ _, trivial⟩
      · intro g w1 hR hf hd
        have hgd : g 75 = .bool true := hd.2.2.1 rfl
        exact StepT.off rfl (guardF_of (t := 75) rfl hgd) rfl ⟨Chg.refl _ _, trivial⟩
      · intro g w1 hR hf hd
        have h1 : g 75 = .bool true := hd.1 rfl
        exact StepT.plain rfl (O.pick (b := true) (v := .bool true) rfl h1 rfl ⟨Chg.refl _ _, rfl⟩)
      · intro g w1 hR hf hd
        have h1 : (fun (u : Value) (_ : World) => u = .bool true) (g 82) w1 := hd.1 rfl
        exact StepT.plain rfl (O.assign (v := .bool true) rfl h1 ⟨Chg.refl _ _, rfl⟩)
      intro g w11 hR hf hall
      have h2 := hall.2.2.2.2.2.2.2.2.2.2.1
      exact ⟨rfl, h2, (Ext.drew wk).trans hR⟩
  rintro g w11 ⟨h2, hE11⟩
  refine hK25 _ _ ?_
  try clear hK25 K25
  refine W.ret ?_
  have hEw9 : Ext w w9 := (hE17.trans hE8).trans_new hC9 fun i hi => .inl (by have h' : i = B6 := hi; omega)
  have hEwk : Ext w wk := hEw9.trans_new hCk fun i hi => .inl (by have h' : i = B1 := hi; omega)
  exact retQ_one rfl h2 ⟨rfl, hEwk.trans hE11⟩

end Go.Proofs.YtddpmpbngcbokaaGreatDoor

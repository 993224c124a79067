/- The law's look at whether codec is awake. -/
import Derived.Test.YtddpmpbngcbokaaGreatDoorCodec
namespace Go.Proofs.YtddpmpbngcbokaaGreatDoor
open Go Go.RowKit
set_option maxRecDepth 100000


def zDRecord : DRecord := { epoch := 0, members := [], seats := [] }
theorem eR_len : (eRecord zDRecord).length = 56 := by kernel_rfl
theorem eR_7 : (bcs (eRecord zDRecord))[7]? = some (.int .u8 3) := by kernel_rfl
theorem eR_back : dRecord (eRecord zDRecord) = some zDRecord := by kernel_rfl
theorem eR_8 : dRecord (List.replicate 8 0) = none := by kernel_rfl
theorem RL.nil' {α : Type} (s : Nat) (R : Heap → List Value → α → Prop) (H : Heap) : RL s R H (.slice none 0 0) [] := ⟨[], .nil, (by simp), RS.nil H⟩
theorem zR_Record (H : Heap) : RRecord H zVRecord zDRecord := ⟨⟨rfl, by decide, by decide⟩, RL.nil' _ _ _, RL.nil' _ _ _⟩
theorem awake_calls {aF aB : Addr} {H : Heap} {w : World} (hA : Agr H w) (hG : Globs aF aB H) :
    Calls Tryz.prog 5 #[] w (fun e w' => e = .returned (.bool true) ∧ Ext w w') := by
  have hz : (Tryz.prog.info? 55).bind (·.zero) = some (.agg (List.toArray zVRecord.cells)) := by rw [← zVRecord_cells]; exact zr55
  refine calls_of_W (n := 51) Tryz.func5 rfl Tryz.ntmps5 (Nat.le_of_ble_eq_true rfl) ?_
  refine W.seq fun K1 hK1 => ?_
  refine W.region ?_
  refine SeqOps.put 0 rfl rfl rfl (O.assign (v := (.bool (false))) rfl rfl ?_)
  refine SeqOps.nil ?_
  refine hK1 _ _ ?_
  try clear hK1 K1
  refine W.seq fun K2 hK2 => ?_
  refine W.region ?_
  refine SeqOps.put 8 rfl rfl rfl (O.build (vps := []) (cells := zVRecord.cells) rfl rfl (by kernel_rfl) ?_)
  refine SeqOps.put 9 rfl rfl rfl (O.call (fid := 11) (cap := #[]) (args := [(.agg (List.toArray zVRecord.cells))]) rfl rfl rfl Tryz.func11 rfl rfl ?_)
  refine Calls.mono (Record_calls (v := zVRecord) (x := zDRecord) hA (zR_Record H) (by rw [eR_len]; decide)) ?_
  rintro e w1 ⟨v1, rfl, own1, hE1⟩
  have rb1 : RB (hfOf w1) v1 (eRecord zDRecord) := own1.rb
  obtain ⟨ao1, cap1, rfl⟩ := own1.form
  obtain ⟨ad, rfl, hc7⟩ := RS.elem rb1 (i := 7) (u := .int .u8 3) eR_7
  have hA1 := Ext.agr hE1 hA
  refine ⟨_, rfl, ?_⟩
  refine SeqOps.put 1 rfl rfl rfl (O.assign (v := (.slice (some ad) (eRecord zDRecord).length cap1)) rfl rfl ?_)
  refine SeqOps.nil ?_
  refine hK2 _ _ ?_
  try clear hK2 K2
  refine W.seq fun K3 hK3 => ?_
  refine W.region ?_
  refine SeqOps.put 11 rfl rfl rfl (O.move (v := (.slice (some ad) (eRecord zDRecord).length cap1)) rfl rfl ?_)
  refine SeqOps.put 12 rfl rfl rfl (O.call (fid := 12) (cap := #[]) (args := [(.slice (some ad) (eRecord zDRecord).length cap1)]) rfl rfl rfl Tryz.func12 rfl rfl ?_)
  refine Calls.mono (ReadRecord_calls (Agr.hf w1) (hG.mono hA1.le) rb1) ?_
  rintro e w2 ⟨N2, v2, n2, rfl, hn2, _, hr2⟩
  obtain ⟨q2, rfl, rfl, hq2, hep⟩ : ∃ q2 : VRecord, v2 = .agg (List.toArray q2.cells) ∧ n2 = 0 ∧ q2.ok ∧ q2.epoch = 0 := by
    rcases hr2 with ⟨h, _⟩ | ⟨_, h, _⟩ | ⟨x, _, h, h0, q, hq, hR⟩
    · rw [eR_len] at h; omega
    · rw [eR_back] at h; cases h
    · rw [eR_back] at h; cases h; exact ⟨q, hq, h0, hR.ok, hR.epoch.1⟩
  have hE2 : Ext w1 w2 := hn2.st.chg
  refine ⟨_, rfl, ?_⟩
  refine SeqOps.put 10 rfl rfl rfl (O.move (v := (.tuple #[(.agg (List.toArray q2.cells)), (.int .i64 (0))])) rfl rfl ?_)
  refine SeqOps.put 13 rfl rfl rfl (O.extract (v := (.agg (List.toArray q2.cells))) rfl rfl rfl ?_)
  refine SeqOps.put 14 rfl rfl rfl (O.extract (v := (.int .i64 (0))) rfl rfl rfl ?_)
  refine SeqOps.put 2 rfl rfl rfl (O.alloc rfl hz ?_)
  intro b4 w4a hb4 hb4l hEw4a hkb40
  refine SeqOps.eff rfl rfl (O.store (b := b4) (off := 0) (v := .agg (List.toArray q2.cells)) (n := 3) (c' := q2.cells.toArray) rfl rfl rfl hkb40 sz55 rfl (Nat.le_refl _) (VRecord.one hq2) rfl ?_)
  intro w4 hCw4 hkb4
  have hE4 : Ext w2 w4 := hEw4a.trans_new hCw4 fun i hi => .inl (by omega)
  refine SeqOps.put 3 rfl rfl rfl (O.assign (v := (.int .i64 (0))) rfl rfl ?_)
  refine SeqOps.nil ?_
  refine hK3 _ _ ?_
  try clear hK3 K3
  refine W.seq fun K4 hK4 => ?_
  refine W.region ?_
  refine SeqOps.put 16 rfl rfl rfl (O.makeSlice (H := NH) (n := 8) rfl rfl rfl Tryz.underlying22 inf5 (by decide) (by decide) (Agr.NH _) (by intro u hu; simp [Value.cells] at hu; subst hu; rfl) (by decide) ?_)
  intro b5 w5 hb5 hE5 own5
  rw [madeBytes] at own5
  replace own5 : OwnB NH w5 w4.heap.size (.slice (some ⟨b5, 0, none⟩) 8 8) (List.replicate 8 0) := by unfold OwnB; rw [List.length_replicate]; exact own5
  refine SeqOps.put 17 rfl rfl rfl (O.call (fid := 12) (cap := #[]) (args := [(.slice (some ⟨b5, 0, none⟩) 8 8)]) rfl rfl rfl Tryz.func12 rfl rfl ?_)
  refine Calls.mono (ReadRecord_calls (Agr.hf w5) (hG.mono (Agr.le (Ext.agr hE5 (Ext.agr hE4 (Ext.agr hE2 hA1))))) own5.rsw) ?_
  rintro e w6 ⟨N6, v6, n6, rfl, hn6, ⟨q6, rfl, hq6⟩, hr6⟩
  have h6 : n6 = 5 := by
    rcases hr6 with ⟨h, _⟩ | ⟨_, _, h, _⟩ | ⟨x, _, h, _⟩
    · rw [List.length_replicate] at h; omega
    · exact h
    · rw [eR_8] at h; cases h
  subst h6
  have hE6 : Ext w5 w6 := hn6.st.chg
  refine ⟨_, rfl, ?_⟩
  refine SeqOps.put 15 rfl rfl rfl (O.move (v := (.tuple #[(.agg (List.toArray q6.cells)), (.int .i64 (5))])) rfl rfl ?_)
  refine SeqOps.put 18 rfl rfl rfl (O.extract (v := (.agg (List.toArray q6.cells))) rfl rfl rfl ?_)
  refine SeqOps.put 19 rfl rfl rfl (O.extract (v := (.int .i64 (5))) rfl rfl rfl ?_)
  refine SeqOps.put 4 rfl rfl rfl (O.alloc rfl hz ?_)
  intro b8 w8a hb8 hb8l hEw8a hkb80
  refine SeqOps.eff rfl rfl (O.store (b := b8) (off := 0) (v := .agg (List.toArray q6.cells)) (n := 3) (c' := q6.cells.toArray) rfl rfl rfl hkb80 sz55 rfl (Nat.le_refl _) (VRecord.one hq6) rfl ?_)
  intro w8 hCw8 hkb8
  have hE8 : Ext w6 w8 := hEw8a.trans_new hCw8 fun i hi => .inl (by omega)
  refine SeqOps.put 5 rfl rfl rfl (O.assign (v := (.int .i64 (5))) rfl rfl ?_)
  refine SeqOps.nil ?_
  refine hK4 _ _ ?_
  try clear hK4 K4
  refine W.seq fun K5 hK5 => ?_
  refine W.region ?_
  refine SeqOps.put 21 rfl rfl rfl (O.makeSlice (H := NH) (n := 262145) rfl rfl rfl Tryz.underlying22 inf5 (by decide) (by decide) (Agr.NH _) (by intro u hu; simp [Value.cells] at hu; subst hu; rfl) (by decide) ?_)
  intro b9 w9 hb9 hE9 own9
  rw [madeBytes] at own9
  replace own9 : OwnB NH w9 w8.heap.size (.slice (some ⟨b9, 0, none⟩) 262145 262145) (List.replicate 262145 0) := by unfold OwnB; rw [List.length_replicate]; exact own9
  refine SeqOps.put 22 rfl rfl rfl (O.call (fid := 12) (cap := #[]) (args := [(.slice (some ⟨b9, 0, none⟩) 262145 262145)]) rfl rfl rfl Tryz.func12 rfl rfl ?_)
  refine Calls.mono (ReadRecord_calls (Agr.hf w9) (hG.mono (Agr.le (Ext.agr hE9 (Ext.agr hE8 (Ext.agr hE6 (Ext.agr hE5 (Ext.agr hE4 (Ext.agr hE2 hA1)))))))) own9.rsw) ?_
  rintro e w10 ⟨N10, v10, n10, rfl, hn10, ⟨q10, rfl, hq10⟩, hr10⟩
  have h10 : n10 = 4 := by
    rcases hr10 with ⟨_, h, _⟩ | ⟨h, _⟩ | ⟨x, h, _⟩
    · exact h
    · rw [List.length_replicate] at h; omega
    · rw [List.length_replicate] at h; omega
  subst h10
  have hE10 : Ext w9 w10 := hn10.st.chg
  refine ⟨_, rfl, ?_⟩
  refine SeqOps.put 20 rfl rfl rfl (O.move (v := (.tuple #[(.agg (List.toArray q10.cells)), (.int .i64 (4))])) rfl rfl ?_)
  refine SeqOps.put 23 rfl rfl rfl (O.extract (v := (.agg (List.toArray q10.cells))) rfl rfl rfl ?_)
  refine SeqOps.put 24 rfl rfl rfl (O.extract (v := (.int .i64 (4))) rfl rfl rfl ?_)
  refine SeqOps.put 6 rfl rfl rfl (O.alloc rfl hz ?_)
  intro b12 w12a hb12 hb12l hEw12a hkb120
  refine SeqOps.eff rfl rfl (O.store (b := b12) (off := 0) (v := .agg (List.toArray q10.cells)) (n := 3) (c' := q10.cells.toArray) rfl rfl rfl hkb120 sz55 rfl (Nat.le_refl _) (VRecord.one hq10) rfl ?_)
  intro w12 hCw12 hkb12
  have hE12 : Ext w10 w12 := hEw12a.trans_new hCw12 fun i hi => .inl (by omega)
  refine SeqOps.put 7 rfl rfl rfl (O.assign (v := (.int .i64 (4))) rfl rfl ?_)
  refine SeqOps.nil ?_
  refine hK5 _ _ ?_
  try clear hK5 K5
  refine W.seq fun K6 hK6 => ?_
  refine W.region ?_
  refine SeqOps.put 25 rfl rfl rfl (O.move (v := (.slice (some ad) (eRecord zDRecord).length cap1)) rfl rfl ?_)
  refine SeqOps.put 26 rfl rfl rfl (O.lenSlice (ad := (some ad)) (n := (eRecord zDRecord).length) (c := cap1) rfl rfl Tryz.underlying22 ?_)
  refine SeqOps.put 27 rfl rfl rfl (O.cmp (a := (((eRecord zDRecord).length : Nat) : Int)) (b := 56) (r := true) rfl rfl rfl (by rw [eR_len]; rfl) ?_)
  refine SeqOps.put 28 rfl rfl rfl (O.move (v := (.bool (true))) rfl rfl ?_)
  refine SeqOps.put_on 29 rfl rfl rfl rfl (O.move (v := (.slice (some ad) (eRecord zDRecord).length cap1)) rfl rfl ?_)
  have hE412 : Ext w4 w12 := ((((hE5.trans hE6).trans hE8).trans hE9).trans hE10).trans hE12
  refine SeqOps.put_on 30 rfl rfl rfl rfl (O.indexAddr (a := ad) (len := (eRecord zDRecord).length) (cap := cap1) (i := 7) (sz := 1) (v := .pointer (some (ad.add 7))) rfl rfl rfl Tryz.underlying22 sz5 (by decide) (by rw [eR_len]; decide) rfl ?_)
  refine SeqOps.put_on 31 rfl rfl rfl rfl (O.loadOne (a := ad.add 7) (v := .int .u8 3) rfl rfl Tryz.underlying5 rfl ((Ext.agr ((hE2.trans hE4).trans hE412) (Agr.hf w1)).cell hc7) ?_)
  refine SeqOps.put_on 32 rfl rfl rfl rfl (O.cmp (a := 3) (b := 3) (r := true) rfl rfl rfl (rfl) ?_)
  refine SeqOps.put 33 rfl rfl rfl (O.pick (b := true) (v := (.bool (true))) rfl rfl rfl ?_)
  refine SeqOps.put 34 rfl rfl rfl (O.move (v := (.bool (true))) rfl rfl ?_)
  refine SeqOps.put_on 35 rfl rfl rfl rfl (O.move (v := (.int .i64 (0))) rfl rfl ?_)
  refine SeqOps.put_on 36 rfl rfl rfl rfl (O.cmp (a := 0) (b := 0) (r := true) rfl rfl rfl (rfl) ?_)
  refine SeqOps.put 37 rfl rfl rfl (O.pick (b := true) (v := (.bool (true))) rfl rfl rfl ?_)
  refine SeqOps.put 38 rfl rfl rfl (O.move (v := (.bool (true))) rfl rfl ?_)
  refine SeqOps.put_on 39 rfl rfl rfl rfl (O.fieldAddr (a := ⟨b4, 0, none⟩) (v := .pointer (some ⟨b4, 0, none⟩)) rfl rfl Tryz.underlying55 rfl (by kernel_rfl) rfl ?_)
  skip
  refine SeqOps.put_on 40 rfl rfl rfl rfl (O.loadBlk1 (b := b4) (off := 0) (v := .int .i64 q2.epoch) rfl rfl (Ext.blk hE412 hkb4) Tryz.underlying3 rfl rfl ?_)
  refine SeqOps.put_on 41 rfl rfl rfl rfl (O.cmp (a := q2.epoch) (b := 0) (r := true) rfl rfl rfl (by rw [hep]; rfl) ?_)
  refine SeqOps.put 42 rfl rfl rfl (O.pick (b := true) (v := (.bool (true))) rfl rfl rfl ?_)
  refine SeqOps.put 43 rfl rfl rfl (O.move (v := (.bool (true))) rfl rfl ?_)
  refine SeqOps.put_on 44 rfl rfl rfl rfl (O.move (v := (.int .i64 (5))) rfl rfl ?_)
  refine SeqOps.put_on 45 rfl rfl rfl rfl (O.cmp (a := 5) (b := 5) (r := true) rfl rfl rfl (rfl) ?_)
  refine SeqOps.put 46 rfl rfl rfl (O.pick (b := true) (v := (.bool (true))) rfl rfl rfl ?_)
  refine SeqOps.put 47 rfl rfl rfl (O.move (v := (.bool (true))) rfl rfl ?_)
  refine SeqOps.put_on 48 rfl rfl rfl rfl (O.move (v := (.int .i64 (4))) rfl rfl ?_)
  refine SeqOps.put_on 49 rfl rfl rfl rfl (O.cmp (a := 4) (b := 4) (r := true) rfl rfl rfl (rfl) ?_)
  refine SeqOps.put 50 rfl rfl rfl (O.pick (b := true) (v := (.bool (true))) rfl rfl rfl ?_)
  refine SeqOps.put 0 rfl rfl rfl (O.assign (v := (.bool (true))) rfl rfl ?_)
  refine SeqOps.nil ?_
  refine hK6 _ _ ?_
  try clear hK6 K6
  refine W.ret ?_
  exact retQ_one rfl rfl ⟨rfl, ((hE1.trans hE2).trans hE4).trans hE412⟩

end Go.Proofs.YtddpmpbngcbokaaGreatDoor

/- What codec's told says of an error. -/
import Derived.Test.YtddpmpbngcbokaaGreatDoorIs
namespace Go.Proofs.YtddpmpbngcbokaaGreatDoor
open Go Go.RowKit
set_option maxRecDepth 100000

theorem as_calls {w : World} {b : Nat} {a e : Addr} {old : Value} (ha : w.cell? a = some (.pointer (some ⟨b, 0, none⟩))) (hb : w.heap[b]? = some (.cells #[old] 160 (0, 0))) :
    Calls Tryz.prog 134 #[(.iface 160 (.pointer (some e))), (.iface 211 (.pointer (some ⟨b, 0, none⟩))), (.agg #[.pointer (some ⟨3, 211, none⟩), .pointer (some a), .int .u64 150]), (.iface 233 (.agg #[.pointer (some ⟨3, 160, none⟩)]))] w (fun r w' => r = .returned (.bool true) ∧ Chg (· = b) w w') := by
  refine calls_of_W (n := 62) Tryz.func134 rfl Tryz.ntmps134 (Nat.le_of_ble_eq_true rfl) ?_
  refine W.seq fun K1 hK1 => ?_
  refine W.region ?_
  refine SeqOps.put 6 rfl rfl rfl (O.box (v := (.agg #[.pointer (some ⟨3, 211, none⟩), .pointer (some a), .int .u64 150])) rfl rfl ?_)
  intro b6 w6 hb6 hb61 hE6 hk6
  refine SeqOps.put 8 rfl rfl rfl (O.assign (v := (.bool (false))) rfl rfl ?_)
  refine SeqOps.nil ?_
  refine hK1 _ _ ?_
  try clear hK1 K1
  refine W.block ?_
  refine W.loopG (G := Unit) [0, 1, 2, 3, 6] (fun _ vals w1 => w1 = w6 ∧ vals = [(.iface 160 (.pointer (some e))), (.iface 211 (.pointer (some ⟨b, 0, none⟩))), (.agg #[.pointer (some ⟨3, 211, none⟩), .pointer (some a), .int .u64 150]), (.iface 233 (.agg #[.pointer (some ⟨3, 160, none⟩)])), .pointer (some ⟨b6, 0, none⟩)]) (fun _ => 0) () ⟨rfl, rfl⟩ ?_
  rintro _ g _ _ ⟨rfl, rfl⟩
  refine W.block ?_
  refine W.seq fun K2 hK2 => ?_
  refine W.seq fun K3 hK3 => ?_
  refine W.region ?_
  refine SeqOps.put 16 rfl rfl rfl (O.move (v := (.iface 160 (.pointer (some e)))) rfl rfl ?_)
  refine SeqOps.put 17 rfl rfl rfl (O.extern (fid := 129) (args := [(.iface 160 (.pointer (some e)))]) (v := (.iface 233 (.agg #[.pointer (some ⟨3, 160, none⟩)]))) rfl rfl rfl (eTypeOfW _ _) ?_)
  refine SeqOps.put 18 rfl rfl rfl (O.move (v := (.iface 233 (.agg #[.pointer (some ⟨3, 160, none⟩)]))) rfl rfl ?_)
  refine SeqOps.put 19 rfl rfl rfl (O.invoke (r := (.iface 233 (.agg #[.pointer (some ⟨3, 160, none⟩)]))) (args := [(.iface 233 (.agg #[.pointer (some ⟨3, 160, none⟩)]))]) (v := .bool true) rfl rfl rfl (eAssignable _) ?_)
  refine SeqOps.nil ?_
  refine hK3 _ _ ?_
  try clear hK3 K3
  refine W.cond_true rfl ?_
  refine W.seq fun K4 hK4 => ?_
  refine W.region ?_
  refine SeqOps.put 20 rfl rfl rfl (O.loadBlk (b := b6) (off := 0) (cs := [.pointer (some ⟨3, 211, none⟩), .pointer (some a), .int .u64 150]) rfl rfl hk6 Tryz.underlying225 rfl sz225 rfl ?_)
  refine SeqOps.put 21 rfl rfl rfl (O.extern (fid := 135) (args := [(.agg #[.pointer (some ⟨3, 211, none⟩), .pointer (some a), .int .u64 150])]) (v := (.agg #[.pointer (some ⟨3, 160, none⟩), .pointer (some ⟨b, 0, none⟩), .int .u64 406])) rfl rfl rfl (eElemV _ _ _ (by have := (Agr.hf w).cell (a := a) (by rw [hcell_hf]; exact ha); exact (Ext.agr hE6 (Agr.hf w)).cell (by rw [hcell_hf]; exact ha))) ?_)
  refine SeqOps.put 22 rfl rfl rfl (O.move (v := (.iface 160 (.pointer (some e)))) rfl rfl ?_)
  refine SeqOps.put 23 rfl rfl rfl (O.extern (fid := 131) (args := [(.iface 160 (.pointer (some e)))]) rfl rfl rfl (eValueOf1 _ _) ?_)
  rename_i w6
  generalize hw7 : w6.alloc _ = w7
  have hE7 : Ext w6 w7 := by rw [← hw7]; exact Ext.of_alloc _ _
  have hk7 : w7.heap[w6.heap.size]? = some (.cells #[.pointer (some e)] 160 (0, 0)) := by rw [← hw7]; exact heap_alloc_new _ _
  have hbt : w7.heap[b]? = some (.cells #[old] _ (0, 0)) := hE7.blk (hE6.blk hb)
  refine SeqOps.put 24 rfl rfl rfl (O.extern (fid := 136) (args := [(.agg #[.pointer (some ⟨3, 160, none⟩), .pointer (some ⟨b, 0, none⟩), .int .u64 406]), (.agg #[.pointer (some ⟨3, 160, none⟩), .pointer (some ⟨w6.heap.size, 0, none⟩), .int .u64 150])]) rfl rfl rfl (eSet _ _ _ old _ (by rw [cell_of_row w7 _ _ _ _ _ hk7]; rfl) (by rw [cell_of_row w7 _ _ _ _ _ hbt]; rfl) (by simp [World.frozen?, hbt])) ?_)
  refine SeqOps.nil ?_
  refine hK4 _ _ ?_
  try clear hK4 K4
  refine W.seq fun K5 hK5 => ?_
  refine W.region ?_
  refine SeqOps.put 8 rfl rfl rfl (O.assign (v := (.bool (true))) rfl rfl ?_)
  refine SeqOps.nil ?_
  refine hK5 _ _ ?_
  try clear hK5 K5
  refine W.ret ?_
  simp only [thenF_ret, blockF_ret]
  refine retQ_one rfl rfl ⟨rfl, ?_⟩
  refine (Chg.ofExt (hE6.trans hE7)).trans ?_
  exact ⟨rfl, rfl, rfl, by simp [World.setCell], fun k hk hkb => by simp only [World.setCell, Array.getElem?_modify]; rw [if_neg (fun e => hkb e.symm)]⟩

theorem As_calls {aF aB : Addr} {H : Heap} {w : World} {b : Nat} {e : Addr} (hG : Globs aF aB H) (hH : Agr H w) (hb : w.heap[b]? = some (.cells #[.pointer none] 160 (0, 0))) (hHb : H b = none) :
    Calls Tryz.prog 122 #[(.iface 160 (.pointer (some e))), (.iface 211 (.pointer (some ⟨b, 0, none⟩)))] w (fun r w' => r = .returned (.bool true) ∧ Chg (· = b) w w') := by
  refine calls_of_W (n := 42) Tryz.func122 rfl Tryz.ntmps122 (Nat.le_of_ble_eq_true rfl) ?_
  refine W.seq fun K1 hK1 => ?_
  refine W.region ?_
  refine SeqOps.put 4 rfl rfl rfl (O.assign (v := (.bool (false))) rfl rfl ?_)
  refine SeqOps.nil ?_
  refine hK1 _ _ ?_
  try clear hK1 K1
  refine W.seq fun K2 hK2 => ?_
  refine W.seq fun K3 hK3 => ?_
  refine W.region ?_
  refine SeqOps.put 8 rfl rfl rfl (O.move (v := (.iface 160 (.pointer (some e)))) rfl rfl ?_)
  refine SeqOps.put 9 rfl rfl rfl (O.ifaceNil (v := (.iface 160 (.pointer (some e)))) (r := false) rfl rfl (.inr ⟨_, _, rfl⟩) Tryz.underlying162 (.inl ⟨rfl, rfl⟩) ?_)
  refine SeqOps.nil ?_
  refine hK3 _ _ ?_
  try clear hK3 K3
  refine W.cond_false rfl ?_
  refine W.skip ?_
  refine hK2 _ _ ?_
  try clear hK2 K2
  refine W.seq fun K4 hK4 => ?_
  refine W.seq fun K5 hK5 => ?_
  refine W.region ?_
  refine SeqOps.put 10 rfl rfl rfl (O.move (v := (.iface 211 (.pointer (some ⟨b, 0, none⟩)))) rfl rfl ?_)
  refine SeqOps.put 11 rfl rfl rfl (O.ifaceNil (v := (.iface 211 (.pointer (some ⟨b, 0, none⟩)))) (r := false) rfl rfl (.inr ⟨_, _, rfl⟩) Tryz.underlying20 (.inl ⟨rfl, rfl⟩) ?_)
  refine SeqOps.nil ?_
  refine hK5 _ _ ?_
  try clear hK5 K5
  refine W.cond_false rfl ?_
  refine W.skip ?_
  refine hK4 _ _ ?_
  try clear hK4 K4
  refine W.seq fun K6 hK6 => ?_
  refine W.region ?_
  refine SeqOps.put 13 rfl rfl rfl (O.move (v := (.iface 211 (.pointer (some ⟨b, 0, none⟩)))) rfl rfl ?_)
  refine SeqOps.put 14 rfl rfl rfl (O.extern (fid := 131) (args := [(.iface 211 (.pointer (some ⟨b, 0, none⟩)))]) rfl rfl rfl (eValueOf2 _ _) ?_)
  generalize hw1 : w.alloc _ = w1
  have hE1 : Ext w w1 := by rw [← hw1]; exact Ext.of_alloc _ _
  have hk1 : w1.heap[w.heap.size]? = some (.cells #[.pointer (some ⟨b, 0, none⟩)] 211 (0, 0)) := by rw [← hw1]; exact heap_alloc_new _ _
  refine SeqOps.put 5 rfl rfl rfl (O.alloc rfl (by kernel_rfl : (Tryz.prog.info? 225).bind (·.zero) = some (.agg #[.pointer none, .pointer none, .int .u64 0])) ?_)
  intro b5 w5 hb5 hb51 hE5 hk5
  refine SeqOps.eff rfl rfl (O.store (b := b5) (off := 0) (v := (.agg #[.pointer (some ⟨3, 211, none⟩), .pointer (some ⟨w.heap.size, 0, none⟩), .int .u64 150])) (n := 3) (c' := #[.pointer (some ⟨3, 211, none⟩), .pointer (some ⟨w.heap.size, 0, none⟩), .int .u64 150]) rfl rfl rfl hk5 sz225 rfl (by decide) (by intro u hu; simp [Value.cells] at hu; rcases hu with rfl | rfl | rfl <;> rfl) rfl ?_)
  intro w2 hC2 hk2
  have hE2 : Ext w1 w2 := hE5.trans_new hC2 fun i hi => .inl (by omega)
  have hcell : w2.cell? ⟨w.heap.size, 0, none⟩ = some (.pointer (some ⟨b, 0, none⟩)) := by rw [cell_of_row w2 _ _ _ _ _ (hE2.blk hk1)]; rfl
  refine SeqOps.nil ?_
  refine hK6 _ _ ?_
  try clear hK6 K6
  refine W.seq fun K7 hK7 => ?_
  refine W.region ?_
  refine SeqOps.put 15 rfl rfl rfl (O.loadBlk (b := b5) (off := 0) (cs := [.pointer (some ⟨3, 211, none⟩), .pointer (some ⟨w.heap.size, 0, none⟩), .int .u64 150]) rfl rfl hk2 Tryz.underlying225 rfl sz225 rfl ?_)
  refine SeqOps.put 16 rfl rfl rfl (O.extern (fid := 132) (args := [(.agg #[.pointer (some ⟨3, 211, none⟩), .pointer (some ⟨w.heap.size, 0, none⟩), .int .u64 150])]) (v := (.iface 233 (.agg #[.pointer (some ⟨3, 211, none⟩)]))) rfl rfl rfl (eType2 _ _) ?_)
  refine SeqOps.put 6 rfl rfl rfl (O.assign (v := (.iface 233 (.agg #[.pointer (some ⟨3, 211, none⟩)]))) rfl rfl ?_)
  refine SeqOps.nil ?_
  refine hK7 _ _ ?_
  try clear hK7 K7
  refine W.seq fun K8 hK8 => ?_
  refine W.seq fun K9 hK9 => ?_
  refine W.region ?_
  refine SeqOps.put 17 rfl rfl rfl (O.move (v := (.iface 233 (.agg #[.pointer (some ⟨3, 211, none⟩)]))) rfl rfl ?_)
  refine SeqOps.put 18 rfl rfl rfl (O.invoke (r := (.iface 233 (.agg #[.pointer (some ⟨3, 211, none⟩)]))) (args := []) (v := (.int .u8 (22))) rfl rfl rfl (eKind2 _) ?_)
  refine SeqOps.put 19 rfl rfl rfl (O.cmp (a := 22) (b := 22) (r := false) rfl rfl rfl (rfl) ?_)
  refine SeqOps.put 20 rfl rfl rfl (O.move (v := (.bool (false))) rfl rfl ?_)
  refine SeqOps.put_on 21 rfl rfl rfl rfl (O.loadBlk (b := b5) (off := 0) (cs := [.pointer (some ⟨3, 211, none⟩), .pointer (some ⟨w.heap.size, 0, none⟩), .int .u64 150]) rfl rfl hk2 Tryz.underlying225 rfl sz225 rfl ?_)
  refine SeqOps.put_on 22 rfl rfl rfl rfl (O.extern (fid := 133) (args := [(.agg #[.pointer (some ⟨3, 211, none⟩), .pointer (some ⟨w.heap.size, 0, none⟩), .int .u64 150])]) (v := .bool false) rfl rfl rfl (eIsNil _ _ _ hcell) ?_)
  refine SeqOps.put 23 rfl rfl rfl (O.pick (b := false) (v := (.bool (false))) rfl rfl rfl ?_)
  refine SeqOps.nil ?_
  refine hK9 _ _ ?_
  try clear hK9 K9
  refine W.cond_false rfl ?_
  refine W.skip ?_
  refine hK8 _ _ ?_
  try clear hK8 K8
  refine W.seq fun K10 hK10 => ?_
  refine W.region ?_
  refine SeqOps.put 25 rfl rfl rfl (O.move (v := (.iface 233 (.agg #[.pointer (some ⟨3, 211, none⟩)]))) rfl rfl ?_)
  refine SeqOps.put 26 rfl rfl rfl (O.invoke (r := (.iface 233 (.agg #[.pointer (some ⟨3, 211, none⟩)]))) (args := []) (v := (.iface 233 (.agg #[.pointer (some ⟨3, 160, none⟩)]))) rfl rfl rfl (eElemT _) ?_)
  refine SeqOps.put 7 rfl rfl rfl (O.assign (v := (.iface 233 (.agg #[.pointer (some ⟨3, 160, none⟩)]))) rfl rfl ?_)
  refine SeqOps.nil ?_
  refine hK10 _ _ ?_
  try clear hK10 K10
  refine W.seq fun K11 hK11 => ?_
  refine W.seq fun K12 hK12 => ?_
  refine W.region ?_
  refine SeqOps.put 27 rfl rfl rfl (O.move (v := (.iface 233 (.agg #[.pointer (some ⟨3, 160, none⟩)]))) rfl rfl ?_)
  refine SeqOps.put 28 rfl rfl rfl (O.invoke (r := (.iface 233 (.agg #[.pointer (some ⟨3, 160, none⟩)]))) (args := []) (v := (.int .u8 (22))) rfl rfl rfl (eKind1 _) ?_)
  refine SeqOps.put 29 rfl rfl rfl (O.cmp (a := 22) (b := 20) (r := true) rfl rfl rfl (rfl) ?_)
  refine SeqOps.put 30 rfl rfl rfl (O.move (v := (.bool (true))) rfl rfl ?_)
  refine SeqOps.put_on 31 rfl rfl rfl rfl (O.move (v := (.iface 233 (.agg #[.pointer (some ⟨3, 160, none⟩)]))) rfl rfl ?_)
  refine SeqOps.put_on 32 rfl rfl rfl rfl (O.loadOne (a := ⟨2, 0, none⟩) (v := (.iface 233 (.agg #[.pointer (some ⟨3, 162, none⟩)]))) rfl rfl Tryz.underlying219 rfl ((Ext.agr (hE1.trans hE2) hH).cell hG.gT) ?_)
  refine SeqOps.put_on 33 rfl rfl rfl rfl (O.invoke (r := (.iface 233 (.agg #[.pointer (some ⟨3, 160, none⟩)]))) (args := [(.iface 233 (.agg #[.pointer (some ⟨3, 162, none⟩)]))]) (v := (.bool (true))) rfl rfl rfl (eImplements _) ?_)
  refine SeqOps.put_on 34 rfl rfl rfl rfl (O.not (b := true) rfl rfl ?_)
  refine SeqOps.put 35 rfl rfl rfl (O.pick (b := true) (v := (.bool (false))) rfl rfl rfl ?_)
  refine SeqOps.nil ?_
  refine hK12 _ _ ?_
  try clear hK12 K12
  refine W.cond_false rfl ?_
  refine W.skip ?_
  refine hK11 _ _ ?_
  try clear hK11 K11
  refine W.seq fun K13 hK13 => ?_
  refine W.region ?_
  refine SeqOps.put 37 rfl rfl rfl (O.move (v := (.iface 160 (.pointer (some e)))) rfl rfl ?_)
  refine SeqOps.put 38 rfl rfl rfl (O.move (v := (.iface 211 (.pointer (some ⟨b, 0, none⟩)))) rfl rfl ?_)
  refine SeqOps.put 39 rfl rfl rfl (O.loadBlk (b := b5) (off := 0) (cs := [.pointer (some ⟨3, 211, none⟩), .pointer (some ⟨w.heap.size, 0, none⟩), .int .u64 150]) rfl rfl hk2 Tryz.underlying225 rfl sz225 rfl ?_)
  refine SeqOps.put 40 rfl rfl rfl (O.move (v := (.iface 233 (.agg #[.pointer (some ⟨3, 160, none⟩)]))) rfl rfl ?_)
  refine SeqOps.put 41 rfl rfl rfl (O.call (fid := 134) (cap := #[]) (args := [(.iface 160 (.pointer (some e))), (.iface 211 (.pointer (some ⟨b, 0, none⟩))), (.agg #[.pointer (some ⟨3, 211, none⟩), .pointer (some ⟨w.heap.size, 0, none⟩), .int .u64 150]), (.iface 233 (.agg #[.pointer (some ⟨3, 160, none⟩)]))]) rfl rfl rfl Tryz.func134 rfl rfl ?_)
  refine Calls.mono (as_calls hcell (Ext.blk (hE1.trans hE2) hb)) ?_
  rintro r w9 ⟨rfl, hC9⟩
  refine ⟨_, rfl, ?_⟩
  refine SeqOps.put 4 rfl rfl rfl (O.assign (v := (.bool (true))) rfl rfl ?_)
  refine SeqOps.nil ?_
  refine hK13 _ _ ?_
  try clear hK13 K13
  refine W.ret ?_
  refine retQ_one rfl rfl ⟨rfl, (Chg.ofExt (hE1.trans hE2)).trans hC9⟩

theorem told_bytes {aF aB : Addr} {H N : Heap} {w : World} {e : Value} (hG : Globs aF aB H) (hH : Agr H w) (hN : Agr N w) (he : ErrW aB N e) :
    Calls Tryz.prog 86 #[e] w (fun r w' => r = .returned (.int .i64 4) ∧ Ext w w') := by
  obtain ⟨be, hbe⟩ := he.form
  subst hbe
  refine calls_of_W (n := 15) Tryz.func86 rfl Tryz.ntmps86 (Nat.le_of_ble_eq_true rfl) ?_
  refine W.seq fun K1 hK1 => ?_
  refine W.region ?_
  refine SeqOps.put 2 rfl rfl rfl (O.assign (v := (.int .i64 (0))) rfl rfl ?_)
  refine SeqOps.nil ?_
  refine hK1 _ _ ?_
  try clear hK1 K1
  refine W.seq fun K2 hK2 => ?_
  refine W.region ?_
  refine SeqOps.put 3 rfl rfl rfl (O.alloc rfl (by kernel_rfl : (Tryz.prog.info? 160).bind (·.zero) = some (.pointer none)) ?_)
  intro b3 w3 hb3 hb31 hE3 hk3
  refine SeqOps.nil ?_
  refine hK2 _ _ ?_
  try clear hK2 K2
  refine W.seq fun K3 hK3 => ?_
  refine W.block ?_
  refine W.seq fun K4 hK4 => ?_
  refine W.region ?_
  refine SeqOps.put 5 rfl rfl rfl (O.move (v := (.iface 160 (.pointer (some ⟨be, 0, none⟩)))) rfl rfl ?_)
  refine SeqOps.put 6 rfl rfl rfl (O.ifaceNil (v := (.iface 160 (.pointer (some ⟨be, 0, none⟩)))) (r := false) rfl rfl (.inr ⟨_, _, rfl⟩) Tryz.underlying162 (.inl ⟨rfl, rfl⟩) ?_)
  refine SeqOps.put 4 rfl rfl rfl (O.assign (v := (.bool (false))) rfl rfl ?_)
  refine SeqOps.nil ?_
  refine hK4 _ _ ?_
  try clear hK4 K4
  refine W.cond_false rfl ?_
  refine W.seq fun K5 hK5 => ?_
  refine W.region ?_
  refine SeqOps.put 8 rfl rfl rfl (O.move (v := (.iface 160 (.pointer (some ⟨be, 0, none⟩)))) rfl rfl ?_)
  refine SeqOps.put 9 rfl rfl rfl (O.loadOne (a := ⟨0, 0, none⟩) (v := eS aB) rfl rfl Tryz.underlying162 rfl ((Ext.agr hE3 hH).cell hG.gB) ?_)
  refine SeqOps.put 10 rfl rfl rfl (O.call (fid := 121) (cap := #[]) (args := [(.iface 160 (.pointer (some ⟨be, 0, none⟩))), (eS aB)]) rfl rfl rfl Tryz.func121 rfl rfl ?_)
  refine Calls.mono (Iis_hit hG (Ext.agr hE3 hH) (Ext.agr hE3 hN) he) ?_
  rintro r _ ⟨rfl, rfl⟩
  refine ⟨_, rfl, ?_⟩
  refine SeqOps.put 7 rfl rfl rfl (O.assign (v := (.bool (true))) rfl rfl ?_)
  refine SeqOps.nil ?_
  refine hK5 _ _ ?_
  try clear hK5 K5
  refine W.cond_true rfl ?_
  refine W.seq fun K6 hK6 => ?_
  refine W.region ?_
  refine SeqOps.put 2 rfl rfl rfl (O.assign (v := (.int .i64 (4))) rfl rfl ?_)
  refine SeqOps.nil ?_
  refine hK6 _ _ ?_
  try clear hK6 K6
  refine W.ret ?_
  simp only [thenF_ret, blockF_ret]
  exact retQ_one rfl rfl ⟨rfl, hE3⟩

theorem told_form {aF aB : Addr} {H N : Heap} {w : World} {e : Value} (hG : Globs aF aB H) (hH : Agr H w) (hN : Agr N w) (he : ErrW aF N e) :
    Calls Tryz.prog 86 #[e] w (fun r w' => r = .returned (.int .i64 5) ∧ Ext w w') := by
  obtain ⟨be, hbe⟩ := he.form
  subst hbe
  refine calls_of_W (n := 15) Tryz.func86 rfl Tryz.ntmps86 (Nat.le_of_ble_eq_true rfl) ?_
  refine W.seq fun K1 hK1 => ?_
  refine W.region ?_
  refine SeqOps.put 2 rfl rfl rfl (O.assign (v := (.int .i64 (0))) rfl rfl ?_)
  refine SeqOps.nil ?_
  refine hK1 _ _ ?_
  try clear hK1 K1
  refine W.seq fun K2 hK2 => ?_
  refine W.region ?_
  refine SeqOps.put 3 rfl rfl rfl (O.alloc rfl (by kernel_rfl : (Tryz.prog.info? 160).bind (·.zero) = some (.pointer none)) ?_)
  intro b3 w3 hb3 hb31 hE3 hk3
  refine SeqOps.nil ?_
  refine hK2 _ _ ?_
  try clear hK2 K2
  refine W.seq fun K3 hK3 => ?_
  refine W.block ?_
  refine W.seq fun K4 hK4 => ?_
  refine W.region ?_
  refine SeqOps.put 5 rfl rfl rfl (O.move (v := (.iface 160 (.pointer (some ⟨be, 0, none⟩)))) rfl rfl ?_)
  refine SeqOps.put 6 rfl rfl rfl (O.ifaceNil (v := (.iface 160 (.pointer (some ⟨be, 0, none⟩)))) (r := false) rfl rfl (.inr ⟨_, _, rfl⟩) Tryz.underlying162 (.inl ⟨rfl, rfl⟩) ?_)
  refine SeqOps.put 4 rfl rfl rfl (O.assign (v := (.bool (false))) rfl rfl ?_)
  refine SeqOps.nil ?_
  refine hK4 _ _ ?_
  try clear hK4 K4
  refine W.cond_false rfl ?_
  refine W.seq fun K5 hK5 => ?_
  refine W.region ?_
  refine SeqOps.put 8 rfl rfl rfl (O.move (v := (.iface 160 (.pointer (some ⟨be, 0, none⟩)))) rfl rfl ?_)
  refine SeqOps.put 9 rfl rfl rfl (O.loadOne (a := ⟨0, 0, none⟩) (v := eS aB) rfl rfl Tryz.underlying162 rfl ((Ext.agr hE3 hH).cell hG.gB) ?_)
  refine SeqOps.put 10 rfl rfl rfl (O.call (fid := 121) (cap := #[]) (args := [(.iface 160 (.pointer (some ⟨be, 0, none⟩))), (eS aB)]) rfl rfl rfl Tryz.func121 rfl rfl ?_)
  refine Calls.mono (Iis_miss hG (Ext.agr hE3 hH) (Ext.agr hE3 hN) he) ?_
  rintro r _ ⟨rfl, rfl⟩
  refine ⟨_, rfl, ?_⟩
  refine SeqOps.put 7 rfl rfl rfl (O.assign (v := (.bool (false))) rfl rfl ?_)
  refine SeqOps.nil ?_
  refine hK5 _ _ ?_
  try clear hK5 K5
  refine W.cond_false rfl ?_
  refine W.seq fun K6 hK6 => ?_
  refine W.region ?_
  refine SeqOps.put 12 rfl rfl rfl (O.move (v := (.iface 160 (.pointer (some ⟨be, 0, none⟩)))) rfl rfl ?_)
  refine SeqOps.put 13 rfl rfl rfl (O.makeIface (v := (.pointer (some ⟨b3, 0, none⟩))) rfl rfl Tryz.underlying211 rfl ?_)
  refine SeqOps.put 14 rfl rfl rfl (O.call (fid := 122) (cap := #[]) (args := [(.iface 160 (.pointer (some ⟨be, 0, none⟩))), (.iface 211 (.pointer (some ⟨b3, 0, none⟩)))]) rfl rfl rfl Tryz.func122 rfl rfl ?_)
  refine Calls.mono (As_calls hG (Ext.agr hE3 hH) hk3 (hH.none hb3)) ?_
  rintro r w4 ⟨rfl, hC4⟩
  refine ⟨_, rfl, ?_⟩
  refine SeqOps.put 11 rfl rfl rfl (O.assign (v := (.bool (true))) rfl rfl ?_)
  refine SeqOps.nil ?_
  refine hK6 _ _ ?_
  try clear hK6 K6
  refine W.cond_true rfl ?_
  refine W.seq fun K7 hK7 => ?_
  refine W.region ?_
  refine SeqOps.put 2 rfl rfl rfl (O.assign (v := (.int .i64 (5))) rfl rfl ?_)
  refine SeqOps.nil ?_
  refine hK7 _ _ ?_
  try clear hK7 K7
  refine W.ret ?_
  simp only [thenF_ret, blockF_ret]
  exact retQ_one rfl rfl ⟨rfl, hE3.trans_new hC4 fun i hi => .inl (by omega)⟩

end Go.Proofs.YtddpmpbngcbokaaGreatDoor

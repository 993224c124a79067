/- The methods of codec's parts that read numbers, digests, bytes and truth values. -/
import Derived.Test.YtddpmpbngcbokaaGreatDoorParts
namespace Go.Proofs.YtddpmpbngcbokaaGreatDoor
open Go Go.RowKit
set_option maxRecDepth 100000


theorem Hm.nilL (N : Heap) : Hm NH N = N := by funext k; unfold Hm; cases N k <;> rfl
theorem dU64_isSome (b : List UInt8) : (dU64 b).isSome = decide (b.length = 8) := by unfold dU64; split <;> simp [*]
theorem dI64_isSome (b : List UInt8) : (dI64 b).isSome = decide (b.length = 8) := by unfold dI64; split <;> simp [*]
theorem dDig_isSome (b : List UInt8) : (dDig b).isSome = decide (b.length = 32) := by unfold dDig; split <;> simp [*]
theorem bcs_digC {b : List UInt8} (h : b.length = 32) : bcs b = digC (fun i => b.getD i 0) := by
  rw [digC_eq]; congr 1; symm
  unfold digB
  apply List.ext_getElem
  · simp [h]
  · intro i h1 h2; simp [h2]
theorem toI_I64 {n : Nat} (h : n < 18446744073709551616) : I64 (toI n) := by unfold toI I64; split <;> omega
theorem wrap_toI {n : Nat} (h : n < 18446744073709551616) : IntKind.i64.wrap (n : Int) = toI n := by
  unfold toI
  split
  · exact wrap_i64 (by omega) (by omega)
  · simp only [IntKind.wrap, IntKind.bits, IntKind.signed]; simp; omega
abbrev PU (b : List UInt8) (_M : Heap) (v : Value) : Prop := ∃ n : Nat, v = .int .u64 (n : Int) ∧ n < 18446744073709551616 ∧ (b.length = 8 → n = dec8 b)
abbrev PI (b : List UInt8) (_M : Heap) (v : Value) : Prop := ∃ n : Int, v = .int .i64 n ∧ I64 n ∧ ∀ y, dI64 b = some y → n = y
abbrev PD (b : List UInt8) (_M : Heap) (v : Value) : Prop := ∃ d : Dig, v = .agg (List.toArray (digC d)) ∧ ∀ y, dDig b = some y → d = y
abbrev PB (b : List UInt8) (M : Heap) (v : Value) : Prop := RB M v b
abbrev PT (b : List UInt8) (_M : Heap) (v : Value) : Prop := ∃ t : Bool, v = .bool t ∧ ∀ y, dBool b = some y → t = y

theorem u_calls {a : Addr} {HL N : Heap} {w : World} {bp : Nat} {b : List UInt8} {rem : List (List UInt8)} {ok : Bool} (h : PS a HL N w bp (b :: rem) ok) :
    Calls Tryz.prog 117 #[.pointer (some ⟨bp, 0, none⟩)] w (RetP a HL N w bp rem (ok && (dU64 b).isSome) (PU b)) := by
  refine calls_of_W (n := 6) Tryz.func117 rfl Tryz.ntmps117 (Nat.le_of_ble_eq_true rfl) ?_
  refine W.seq fun K1 hK1 => ?_
  refine W.region ?_
  refine SeqOps.put 2 rfl rfl rfl (O.assign (v := (.int .u64 (0))) rfl rfl ?_)
  refine SeqOps.nil ?_
  refine hK1 _ _ ?_
  try clear hK1 K1
  refine W.seq fun K2 hK2 => ?_
  refine W.region ?_
  refine SeqOps.put 3 rfl rfl rfl (O.move (v := (.pointer (some ⟨bp, 0, none⟩))) rfl rfl ?_)
  refine SeqOps.put 4 rfl rfl rfl (O.call (fid := 124) (cap := #[]) (args := [(.pointer (some ⟨bp, 0, none⟩)), (.int .i64 (8))]) rfl rfl rfl Tryz.func124 rfl rfl ?_)
  refine Calls.mono (sized_calls (n := 8) h (by omega)) ?_
  rintro e w1 ⟨M, v1, rfl, hN, hM, h1, b', hr, hl, hb⟩
  obtain ⟨ao1, cap1, rfl⟩ := RS.form hr
  refine ⟨_, rfl, ?_⟩
  refine SeqOps.put 5 rfl rfl rfl (O.call (fid := 128) (cap := #[]) (args := [(.slice ao1 b'.length cap1)]) rfl rfl rfl Tryz.func128 rfl rfl ?_)
  refine Calls.mono (Uint64_calls (Hm.agr h1.agrL hN.st.agr) hr (by omega)) ?_
  rintro e w2 ⟨rfl, rfl⟩
  refine ⟨_, rfl, ?_⟩
  refine SeqOps.put 2 rfl rfl rfl (O.assign (v := (.int .u64 ((dec8 (b'.take 8) : Int)))) rfl rfl ?_)
  refine SeqOps.nil ?_
  refine hK2 _ _ ?_
  try clear hK2 K2
  refine W.ret ?_
  refine retQ_one rfl rfl ⟨M, _, rfl, hN, hM, by rw [dU64_isSome]; exact h1, _, rfl, dec8_lt (by simp; omega), fun e => ?_⟩
  rw [hb e, ← e, List.take_length]

theorem pint_calls {a : Addr} {HL N : Heap} {w : World} {bp : Nat} {b : List UInt8} {rem : List (List UInt8)} {ok : Bool} (h : PS a HL N w bp (b :: rem) ok) :
    Calls Tryz.prog 88 #[.pointer (some ⟨bp, 0, none⟩)] w (RetP a HL N w bp rem (ok && (dI64 b).isSome) (PI b)) := by
  refine calls_of_W (n := 6) Tryz.func88 rfl Tryz.ntmps88 (Nat.le_of_ble_eq_true rfl) ?_
  refine W.seq fun K1 hK1 => ?_
  refine W.region ?_
  refine SeqOps.put 2 rfl rfl rfl (O.assign (v := (.int .i64 (0))) rfl rfl ?_)
  refine SeqOps.nil ?_
  refine hK1 _ _ ?_
  try clear hK1 K1
  refine W.seq fun K2 hK2 => ?_
  refine W.region ?_
  refine SeqOps.put 3 rfl rfl rfl (O.move (v := (.pointer (some ⟨bp, 0, none⟩))) rfl rfl ?_)
  refine SeqOps.put 4 rfl rfl rfl (O.call (fid := 117) (cap := #[]) (args := [(.pointer (some ⟨bp, 0, none⟩))]) rfl rfl rfl Tryz.func117 rfl rfl ?_)
  refine Calls.mono (u_calls h) ?_
  rintro e w1 ⟨M, v1, rfl, hN, hM, h1, n, rfl, hn, hd⟩
  refine ⟨_, rfl, ?_⟩
  refine SeqOps.put 5 rfl rfl rfl (O.convInt (a := (n : Int)) (c := toI n) rfl rfl Tryz.underlying79 Tryz.underlying3 (wrap_toI hn) ?_)
  refine SeqOps.put 2 rfl rfl rfl (O.assign (v := (.int .i64 (toI n))) rfl rfl ?_)
  refine SeqOps.nil ?_
  refine hK2 _ _ ?_
  try clear hK2 K2
  refine W.ret ?_
  refine retQ_one rfl rfl ⟨M, _, rfl, hN, hM, by rw [dI64_isSome, ← dU64_isSome]; exact h1, _, rfl, toI_I64 hn, fun y hy => ?_⟩
  unfold dI64 at hy; split at hy
  · rename_i h8; cases hy; rw [hd h8]
  · cases hy

theorem pn_calls {a : Addr} {HL N : Heap} {w : World} {bp : Nat} {b : List UInt8} {rem : List (List UInt8)} {ok : Bool} (h : PS a HL N w bp (b :: rem) ok) :
    Calls Tryz.prog 89 #[.pointer (some ⟨bp, 0, none⟩)] w (RetP a HL N w bp rem (ok && (dI64 b).isSome) (PI b)) := by
  refine calls_of_W (n := 6) Tryz.func89 rfl Tryz.ntmps89 (Nat.le_of_ble_eq_true rfl) ?_
  refine W.seq fun K1 hK1 => ?_
  refine W.region ?_
  refine SeqOps.put 2 rfl rfl rfl (O.assign (v := (.int .i64 (0))) rfl rfl ?_)
  refine SeqOps.nil ?_
  refine hK1 _ _ ?_
  try clear hK1 K1
  refine W.seq fun K2 hK2 => ?_
  refine W.region ?_
  refine SeqOps.put 3 rfl rfl rfl (O.move (v := (.pointer (some ⟨bp, 0, none⟩))) rfl rfl ?_)
  refine SeqOps.put 4 rfl rfl rfl (O.call (fid := 117) (cap := #[]) (args := [(.pointer (some ⟨bp, 0, none⟩))]) rfl rfl rfl Tryz.func117 rfl rfl ?_)
  refine Calls.mono (u_calls h) ?_
  rintro e w1 ⟨M, v1, rfl, hN, hM, h1, n, rfl, hn, hd⟩
  refine ⟨_, rfl, ?_⟩
  refine SeqOps.put 5 rfl rfl rfl (O.convInt (a := (n : Int)) (c := toI n) rfl rfl Tryz.underlying79 Tryz.underlying2 (wrap_toI hn) ?_)
  refine SeqOps.put 2 rfl rfl rfl (O.assign (v := (.int .i64 (toI n))) rfl rfl ?_)
  refine SeqOps.nil ?_
  refine hK2 _ _ ?_
  try clear hK2 K2
  refine W.ret ?_
  refine retQ_one rfl rfl ⟨M, _, rfl, hN, hM, by rw [dI64_isSome, ← dU64_isSome]; exact h1, _, rfl, toI_I64 hn, fun y hy => ?_⟩
  unfold dI64 at hy; split at hy
  · rename_i h8; cases hy; rw [hd h8]
  · cases hy

theorem pdigest_calls {a : Addr} {HL N : Heap} {w : World} {bp : Nat} {b : List UInt8} {rem : List (List UInt8)} {ok : Bool} (h : PS a HL N w bp (b :: rem) ok) :
    Calls Tryz.prog 90 #[.pointer (some ⟨bp, 0, none⟩)] w (RetP a HL N w bp rem (ok && (dDig b).isSome) (PD b)) := by
  refine calls_of_W (n := 7) Tryz.func90 rfl Tryz.ntmps90 (Nat.le_of_ble_eq_true rfl) ?_
  have hlt0 := h.lt
  have h0L : ∀ {k}, w.heap.size ≤ k → HL k = none := fun hk => h.agrL.none hk
  have h0N : ∀ {k}, w.heap.size ≤ k → N k = none := fun hk => h.agrN.none hk
  refine W.seq fun K1 hK1 => ?_
  refine W.region ?_
  refine SeqOps.put 2 rfl rfl rfl (O.alloc rfl zr29 ?_)
  intro br w0 hbr hbr1 hE0 hk0
  replace h := h.ext hE0
  refine SeqOps.nil ?_
  refine hK1 _ _ ?_
  try clear hK1 K1
  refine W.seq fun K2 hK2 => ?_
  refine W.region ?_
  refine SeqOps.put 3 rfl rfl rfl (O.move (v := (.pointer (some ⟨bp, 0, none⟩))) rfl rfl ?_)
  refine SeqOps.put 4 rfl rfl rfl (O.call (fid := 124) (cap := #[]) (args := [(.pointer (some ⟨bp, 0, none⟩)), (.int .i64 (32))]) rfl rfl rfl Tryz.func124 rfl rfl ?_)
  refine Calls.mono (sized_calls (n := 32) h (by omega)) ?_
  rintro e w1 ⟨M, v1, rfl, hN, hM, h1, b', hr, hl, hb⟩
  obtain ⟨ao1, cap1, rfl⟩ := RS.form hr
  have hr0 := hr
  obtain ⟨_, _, e0, _, _, hnone, hone, hcells⟩ := hr0
  cases e0
  have hne : br ≠ bp := fun e => by have := hlt0; omega
  have hkr := hN.st.chg.blk hk0 hne
  obtain ⟨ad, rfl⟩ : ∃ ad, ao1 = some ad := by
    obtain ⟨ad, e, _⟩ := hcells 0 _ (List.getElem?_eq_getElem (show 0 < (bcs b').length by rw [bcs_length]; omega))
    exact ⟨ad, e⟩
  refine ⟨_, rfl, ?_⟩
  refine SeqOps.put 5 rfl rfl rfl (O.arrPtr (a := ad) (n := 32) (len := b'.length) (cap := cap1) rfl rfl Tryz.underlying29 (by omega) ?_)
  refine SeqOps.put 6 rfl rfl rfl (O.loadAgg (a := ad) (cs := bcs b') rfl rfl Tryz.underlying29 rfl (by rw [bcs_length, hl]; exact sz29) (fun j u hu => (Hm.agr h1.agrL hN.st.agr).cell (by obtain ⟨a', e, hc⟩ := hcells j u hu; cases e; exact hc)) ?_)
  refine SeqOps.eff rfl rfl (O.store (b := br) (off := 0) (v := .agg (List.toArray (bcs b'))) (n := 32) (c' := (bcs b').toArray) rfl rfl rfl hkr sz29 (by simp [Value.cells, bcs, hl]) (by decide) (bcs_one _) (by simp only [Value.cells, List.take_zero, List.nil_append]; rw [List.drop_eq_nil_of_le (by decide), List.append_nil]) ?_)
  intro w2 hC2 hk2
  refine SeqOps.nil ?_
  refine hK2 _ _ ?_
  try clear hK2 K2
  refine W.ret ?_
  have hMr : M br = none := by rw [hN.st.low br hbr1]
  have n1 := (((New.start w (· = bp)).new hE0).trans hN (fun i hi => ⟨.inr hi, rfl⟩)).step hC2 (fun i hi => ⟨.inl (by omega), by rw [Hm.nilL]; subst hi; exact hMr⟩)
  rw [Hm.nilL] at n1
  have h2 := h1.chg hC2 (fun k hk => by subst hk; exact ⟨hne, h0L hbr, Hm.none (h0N hbr) hMr⟩)
  rw [bcs_digC hl] at hk2
  refine retQ_cell (b := br) (cs := digC (fun i => b'.getD i 0)) rfl rfl hk2 Tryz.underlying29 rfl sz29 ⟨M, _, rfl, n1, hM, by rw [dDig_isSome]; exact h2, _, rfl, fun y hy => ?_⟩
  unfold dDig at hy; split at hy
  · rename_i h32; cases hy; rw [hb h32]
  · cases hy

theorem pbytes_calls {a : Addr} {HL N : Heap} {w : World} {bp : Nat} {b : List UInt8} {rem : List (List UInt8)} {ok : Bool} (h : PS a HL N w bp (b :: rem) ok) (hlen : b.length ≤ 1099511627776) :
    Calls Tryz.prog 97 #[.pointer (some ⟨bp, 0, none⟩)] w (RetP a HL N w bp rem ok (PB b)) := by
  refine calls_of_W (n := 6) Tryz.func97 rfl Tryz.ntmps97 (Nat.le_of_ble_eq_true rfl) ?_
  refine W.seq fun K1 hK1 => ?_
  refine W.region ?_
  refine SeqOps.put 2 rfl rfl rfl (O.assign (v := (.slice none 0 0)) rfl rfl ?_)
  refine SeqOps.nil ?_
  refine hK1 _ _ ?_
  try clear hK1 K1
  refine W.seq fun K2 hK2 => ?_
  refine W.region ?_
  refine SeqOps.put 3 rfl rfl rfl (O.move (v := (.pointer (some ⟨bp, 0, none⟩))) rfl rfl ?_)
  refine SeqOps.put 4 rfl rfl rfl (O.call (fid := 125) (cap := #[]) (args := [(.pointer (some ⟨bp, 0, none⟩))]) rfl rfl rfl Tryz.func125 rfl rfl ?_)
  refine Calls.mono (next_calls h) ?_
  rintro e w1 ⟨v1, rfl, hr, h1, hC1⟩
  obtain ⟨ao1, cap1, rfl⟩ := RS.form hr
  refine ⟨_, rfl, ?_⟩
  refine SeqOps.put 5 rfl rfl rfl (O.append (H := N) (B := w1.heap.size) (v := .slice none 0 0) (vx := .slice ao1 b.length cap1) (m := b.length) (xs := []) (news := bcs b) rfl rfl rfl Tryz.underlying22 inf5 rfl (Own.nil _ _ _ _ _) (RS.mono hr h1.agrL.le) (by simp [bcs]) (by omega) (by omega) (Nat.le_refl _) h1.agrN ?_)
  intro v2 w2 own2 hC2
  have hE2 : Ext w1 w2 := hC2.mono fun k hk => by cases hk
  rw [List.nil_append, Nat.zero_add] at own2
  refine SeqOps.put 2 rfl rfl rfl (O.assign (v := v2) rfl rfl ?_)
  refine SeqOps.nil ?_
  refine hK2 _ _ ?_
  try clear hK2 K2
  refine W.ret ?_
  have n1 := (New.ofChg hC1).new hE2
  obtain ⟨M, _, n2, hsame, rb⟩ := (own2.heap (H' := NH) fun j hj => rfl).join n1 hC1.size
  have hM : M bp = none := by rw [hsame bp fun e => by have := (own2.base e).1; have := h1.lt; omega]
  refine retQ_one rfl rfl ⟨M, v2, rfl, n2, hM, ?_, rb⟩
  obtain ⟨lv, ev, hblk, hrb, hev⟩ := (h1.ext hE2).blk
  exact h.next n2 hM ⟨lv, ev, hblk, hrb, hev.imp id fun ⟨e1, e2⟩ => ⟨e1, e2.mono (Hm.left h.agrN n2)⟩⟩

theorem dBool_one (c : UInt8) : (dBool [c]).isSome = decide (c.toNat ≤ 1) ∧ ∀ y, dBool [c] = some y → decide ((c.toNat : Int) = 1) = y := by
  unfold dBool
  by_cases h0 : c = 0
  · subst h0; simp
  · by_cases h1 : c = 1
    · subst h1; simp
    · have e0 : c.toNat ≠ 0 := fun e => h0 (by rw [← UInt8.toNat_inj]; simpa using e)
      have e1 : c.toNat ≠ 1 := fun e => h1 (by rw [← UInt8.toNat_inj]; simpa using e)
      simp [h0, h1]; omega
theorem dBool_len {b : List UInt8} (h : b.length ≠ 1) : dBool b = none := by
  unfold dBool
  rw [if_neg (by intro e; rw [e] at h; simp at h), if_neg (by intro e; rw [e] at h; simp at h)]
theorem ptruth_calls {a : Addr} {HL N : Heap} {w : World} {bp : Nat} {b : List UInt8} {rem : List (List UInt8)} {ok : Bool} (h : PS a HL N w bp (b :: rem) ok) :
    Calls Tryz.prog 98 #[.pointer (some ⟨bp, 0, none⟩)] w (RetP a HL N w bp rem (ok && (dBool b).isSome) (PT b)) := by
  refine calls_of_W (n := 18) Tryz.func98 rfl Tryz.ntmps98 (Nat.le_of_ble_eq_true rfl) ?_
  refine W.seq fun K1 hK1 => ?_
  refine W.region ?_
  refine SeqOps.put 2 rfl rfl rfl (O.assign (v := (.bool (false))) rfl rfl ?_)
  refine SeqOps.nil ?_
  refine hK1 _ _ ?_
  try clear hK1 K1
  refine W.seq fun K2 hK2 => ?_
  refine W.region ?_
  refine SeqOps.put 4 rfl rfl rfl (O.move (v := (.pointer (some ⟨bp, 0, none⟩))) rfl rfl ?_)
  refine SeqOps.put 5 rfl rfl rfl (O.call (fid := 124) (cap := #[]) (args := [(.pointer (some ⟨bp, 0, none⟩)), (.int .i64 (1))]) rfl rfl rfl Tryz.func124 rfl rfl ?_)
  refine Calls.mono (sized_calls (n := 1) h (by omega)) ?_
  rintro e w1 ⟨M, v1, rfl, hN, hM, h1, b', hr, hl, hb⟩
  obtain ⟨ao1, cap1, rfl⟩ := RS.form hr
  obtain ⟨c, rfl⟩ : ∃ c, b' = [c] := by match b', hl with | [c], _ => exact ⟨c, rfl⟩
  obtain ⟨ad, rfl, hcell⟩ := RS.elem hr (i := 0) (u := bc c) rfl
  refine ⟨_, rfl, ?_⟩
  refine SeqOps.put 6 rfl rfl rfl (O.indexAddr (a := ad) (len := 1) (cap := cap1) (i := 0) (sz := 1) (v := .pointer (some (ad.add 0))) rfl rfl rfl Tryz.underlying22 sz5 (by omega) (by omega) (by simp) ?_)
  refine SeqOps.put 7 rfl rfl rfl (O.loadOne (a := ad.add 0) (v := bc c) rfl rfl Tryz.underlying5 rfl ((Hm.agr h1.agrL hN.st.agr).cell hcell) ?_)
  refine SeqOps.put 3 rfl rfl rfl (O.assign (v := (.int .u8 ((c.toNat : Int)))) rfl rfl ?_)
  refine SeqOps.nil ?_
  refine hK2 _ _ ?_
  try clear hK2 K2
  refine W.seq fun K3 hK3 => ?_
  refine W.seq fun K4 hK4 => ?_
  refine W.region ?_
  refine SeqOps.put 8 rfl rfl rfl (O.move (v := (.int .u8 ((c.toNat : Int)))) rfl rfl ?_)
  refine SeqOps.put 9 rfl rfl rfl (O.cmp (a := (c.toNat : Int)) (b := 1) (r := decide ((c.toNat : Int) > 1)) rfl rfl rfl rfl ?_)
  refine SeqOps.nil ?_
  refine hK4 _ _ ?_
  try clear hK4 K4
  have hone := dBool_one c
  by_cases hc : c.toNat ≤ 1
  · refine W.cond_false (show evF _ _ = .bool false from congrArg Value.bool (decide_eq_false (by omega))) ?_
    refine W.skip ?_
    refine hK3 _ _ ?_
    refine W.seq fun K5 hK5 => ?_
    refine W.region ?_
    refine SeqOps.put 16 rfl rfl rfl (O.move (v := (.int .u8 ((c.toNat : Int)))) rfl rfl ?_)
    refine SeqOps.put 17 rfl rfl rfl (O.cmp (a := (c.toNat : Int)) (b := 1) (r := (c.toNat : Int) == 1) rfl rfl rfl rfl ?_)
    refine SeqOps.put 2 rfl rfl rfl (O.assign (v := (.bool ((c.toNat : Int) == 1))) rfl rfl ?_)
    refine SeqOps.nil ?_
    refine hK5 _ _ ?_
    try clear hK5 K5
    refine W.ret ?_
    refine retQ_one rfl rfl ⟨M, _, rfl, hN, hM, ?_, _, rfl, fun y hy => ?_⟩
    · have e : (dBool b).isSome = decide (b.length = 1) := by
        by_cases hb1 : b.length = 1
        · rw [← hb hb1, hone.1, decide_eq_true hc, hb hb1]; exact (decide_eq_true hb1).symm
        · rw [dBool_len hb1, decide_eq_false hb1]; rfl
      rw [e]; exact h1
    · by_cases hb1 : b.length = 1
      · rw [← hb hb1] at hy; rw [← hone.2 y hy]; rfl
      · rw [dBool_len hb1] at hy; cases hy
  refine W.cond_true (show evF _ _ = .bool true from congrArg Value.bool (decide_eq_true (by omega))) ?_
  refine W.region ?_
  refine SeqOps.put 10 rfl rfl rfl (O.move (v := (.pointer (some ⟨bp, 0, none⟩))) rfl rfl ?_)
  refine SeqOps.put 11 rfl rfl rfl (O.loadOne (a := ⟨1, 0, none⟩) (v := eS a) rfl rfl Tryz.underlying162 rfl (h1.agrL.cell h1.glob) ?_)
  refine SeqOps.put 12 rfl rfl rfl (O.build (vps := [(0, (strOf [97, 32, 116, 114, 117, 116, 104, 32, 118, 97, 108, 117, 101])), (1, (eS a))]) (cells := [(strOf [97, 32, 116, 114, 117, 116, 104, 32, 118, 97, 108, 117, 101]), (eS a)]) rfl rfl (by kernel_rfl) ?_)
  refine SeqOps.put 13 rfl rfl rfl (O.box (v := (.agg (List.toArray ([(strOf [97, 32, 116, 114, 117, 116, 104, 32, 118, 97, 108, 117, 101]), (eS a)])))) rfl rfl ?_)
  intro b2 w2 hb2 hb2l hEw2 hkb2
  obtain ⟨h2, hN2, e2⟩ := h1.wrong hEw2 hb2 hkb2
  refine SeqOps.put 14 rfl rfl rfl (O.makeIface (v := (.pointer (some ⟨b2, 0, none⟩))) rfl rfl Tryz.underlying160 rfl ?_)
  refine SeqOps.put 15 rfl rfl rfl (O.call (fid := 126) (cap := #[]) (args := [(.pointer (some ⟨bp, 0, none⟩)), (.iface 160 (.pointer (some ⟨b2, 0, none⟩)))]) rfl rfl rfl Tryz.func126 rfl rfl ?_)
  refine Calls.mono (bad_calls h2 (.base (Hadd_same _ _ _))) ?_
  rintro e w3 ⟨rfl, h3, hC3⟩
  refine ⟨_, rfl, ?_⟩
  refine SeqOps.nil ?_
  refine hK3 _ _ ?_
  refine W.seq fun K6 hK6 => ?_
  refine W.region ?_
  refine SeqOps.put 16 rfl rfl rfl (O.move (v := (.int .u8 ((c.toNat : Int)))) rfl rfl ?_)
  refine SeqOps.put 17 rfl rfl rfl (O.cmp (a := (c.toNat : Int)) (b := 1) (r := (c.toNat : Int) == 1) rfl rfl rfl rfl ?_)
  refine SeqOps.put 2 rfl rfl rfl (O.assign (v := (.bool ((c.toNat : Int) == 1))) rfl rfl ?_)
  refine SeqOps.nil ?_
  refine hK6 _ _ ?_
  try clear hK6 K6
  refine W.ret ?_
  have hlt1 := h1.lt
  have n3 := (hN.trans hN2 (fun i hi => hi.elim)).step hC3 (fun i hi => ⟨.inr hi, by subst hi; exact Hm.none hM (by rw [Hadd_ne _ _ (by omega)])⟩)
  refine retQ_one rfl rfl ⟨_, _, rfl, n3, Hm.none hM (by rw [Hadd_ne _ _ (by omega)]), ?_, _, rfl, fun y hy => ?_⟩
  · have e : (ok && (dBool b).isSome) = false := by
      by_cases hb1 : b.length = 1
      · rw [← hb hb1, hone.1, decide_eq_false hc, Bool.and_false]
      · rw [dBool_len hb1]; simp
    rw [e, ← Hm.assoc, e2]; exact h3
  · by_cases hb1 : b.length = 1
    · rw [← hb hb1] at hy; have := hone.1; rw [hy, decide_eq_false hc] at this; cases this
    · rw [dBool_len hb1] at hy; cases hy

end Go.Proofs.YtddpmpbngcbokaaGreatDoor

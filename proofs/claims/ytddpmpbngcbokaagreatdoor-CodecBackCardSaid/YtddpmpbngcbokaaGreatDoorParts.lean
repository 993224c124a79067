/- The methods of codec's parts. -/
import Derived.Test.YtddpmpbngcbokaaGreatDoorSplit
namespace Go.Proofs.YtddpmpbngcbokaaGreatDoor
open Go Go.RowKit
set_option maxRecDepth 100000


/-- The error of package errors that lies at an address. -/
abbrev eS (a : Addr) : Value := .iface 248 (.pointer (some a))
inductive ErrW (a : Addr) (N : Heap) : Value → Prop
  | base {b : Nat} {s : List UInt8} : N b = some (.cells #[strOf s, eS a] 164 (0, 0)) → ErrW a N (.iface 160 (.pointer (some ⟨b, 0, none⟩)))
  | wrap {b : Nat} {s : List UInt8} {e : Value} : N b = some (.cells #[strOf s, e] 164 (0, 0)) → ErrW a N e → ErrW a N (.iface 160 (.pointer (some ⟨b, 0, none⟩)))
theorem ErrW.mono {a : Addr} {N M : Heap} {e : Value} (h : ErrW a N e) (hl : Hle N M) : ErrW a M e := by
  induction h with
  | base h => exact .base (hl _ _ h)
  | wrap h _ ih => exact .wrap (hl _ _ h) ih
theorem ErrW.form {a : Addr} {N : Heap} {e : Value} (h : ErrW a N e) : ∃ b, e = .iface 160 (.pointer (some ⟨b, 0, none⟩)) := by cases h <;> exact ⟨_, rfl⟩
/-- The parts of a thing behind their pointer: what is left, and whether all was well so far. -/
structure PS (a : Addr) (HL N : Heap) (w : World) (bp : Nat) (rem : List (List UInt8)) (ok : Bool) : Prop where
  blk : ∃ lv ev, w.heap[bp]? = some (.cells #[lv, ev] 177 (0, 0)) ∧ RBB HL lv rem ∧ ((ok = true ∧ ev = .nilIface) ∨ (ok = false ∧ ErrW a N ev))
  agrL : Agr HL w
  agrN : Agr N w
  outL : HL bp = none
  outN : N bp = none
  glob : hcell HL ⟨1, 0, none⟩ = some (eS a)
theorem PS.next {a : Addr} {HL N M : Heap} {w w' : World} {bp : Nat} {rem rem' : List (List UInt8)} {ok ok' : Bool} (h : PS a HL N w bp rem ok) (k : New w (· = bp) M w') (hM : M bp = none)
    (b : ∃ lv ev, w'.heap[bp]? = some (.cells #[lv, ev] 177 (0, 0)) ∧ RBB HL lv rem' ∧ ((ok' = true ∧ ev = .nilIface) ∨ (ok' = false ∧ ErrW a (Hm N M) ev))) : PS a HL (Hm N M) w' bp rem' ok' :=
  ⟨b, k.st.chg.agr h.agrL (fun k hk => by subst hk; exact h.outL), Hm.agr (k.st.chg.agr h.agrN (fun k hk => by subst hk; exact h.outN)) k.st.agr, h.outL, Hm.none h.outN hM, h.glob⟩
theorem PS.lt {a : Addr} {HL N : Heap} {w : World} {bp : Nat} {rem : List (List UInt8)} {ok : Bool} (h : PS a HL N w bp rem ok) : bp < w.heap.size := by obtain ⟨lv, ev, hb, _⟩ := h.blk; exact blk_lt hb
theorem PS.ext {a : Addr} {HL N : Heap} {w w' : World} {bp : Nat} {rem : List (List UInt8)} {ok : Bool} (h : PS a HL N w bp rem ok) (c : Ext w w') : PS a HL N w' bp rem ok := by
  obtain ⟨lv, ev, hb, r⟩ := h.blk
  exact ⟨⟨lv, ev, Ext.blk c hb, r⟩, Ext.agr c h.agrL, Ext.agr c h.agrN, h.outL, h.outN, h.glob⟩
/-- A change of blocks that neither the parts nor the snapshots hold. -/
theorem PS.chg {a : Addr} {HL N : Heap} {w w' : World} {X : Nat → Prop} {bp : Nat} {rem : List (List UInt8)} {ok : Bool} (h : PS a HL N w bp rem ok) (c : Chg X w w') (hX : ∀ k, X k → k ≠ bp ∧ HL k = none ∧ N k = none) : PS a HL N w' bp rem ok := by
  obtain ⟨lv, ev, hb, r⟩ := h.blk
  exact ⟨⟨lv, ev, c.blk hb (fun hx => (hX _ hx).1 rfl), r⟩, c.agr h.agrL (fun k hk => (hX k hk).2.1), c.agr h.agrN (fun k hk => (hX k hk).2.2), h.outL, h.outN, h.glob⟩
theorem PS.new {a : Addr} {HL N M : Heap} {w w' : World} {bp : Nat} {rem : List (List UInt8)} {ok : Bool} (h : PS a HL N w bp rem ok) (k : New w NoX M w') : PS a HL (Hm N M) w' bp rem ok := by
  obtain ⟨lv, ev, hb, r, e⟩ := h.blk
  have hM : M bp = none := by rw [k.st.low bp h.lt]
  exact ⟨⟨lv, ev, Ext.blk k.st.chg hb, r, e.imp id fun ⟨h1, h2⟩ => ⟨h1, h2.mono (Hm.left h.agrN k)⟩⟩, k.agr h.agrL, Hm.agr (k.agr h.agrN) k.st.agr, h.outL, Hm.none h.outN hM, h.glob⟩
def RetP (a : Addr) (HL N : Heap) (w : World) (bp : Nat) (rem : List (List UInt8)) (ok : Bool) (Φ : Heap → Value → Prop) : Ending → World → Prop :=
  fun e w' => ∃ M v, e = .returned v ∧ New w (· = bp) M w' ∧ M bp = none ∧ PS a HL (Hm N M) w' bp rem ok ∧ Φ M v
theorem New.ofChg {w w' : World} {X : Nat → Prop} (c : Chg X w w') : New w X NH w' := ⟨⟨c, fun _ _ h => h, (fun _ _ e => by cases e), fun _ _ => rfl⟩, (fun _ _ e => by cases e)⟩
theorem Hm.nil (N : Heap) : Hm N NH = N := by funext k; simp [Hm]
theorem Hm.assoc (A B C : Heap) : Hm (Hm A B) C = Hm A (Hm B C) := by
  funext k
  unfold Hm
  cases C k <;> cases B k <;> rfl

theorem next_calls {a : Addr} {HL N : Heap} {w : World} {bp : Nat} {b : List UInt8} {rem : List (List UInt8)} {ok : Bool} (h : PS a HL N w bp (b :: rem) ok) :
    Calls Tryz.prog 125 #[.pointer (some ⟨bp, 0, none⟩)] w (fun e w' => ∃ v, e = .returned v ∧ RB HL v b ∧ PS a HL N w' bp rem ok ∧ Chg (· = bp) w w') := by
  obtain ⟨lv, ev, hb, ⟨vs, h2, rs⟩, hev⟩ := h.blk
  obtain ⟨ao, cap, rfl⟩ := rs.form
  cases h2 with
  | cons hr h2 =>
  rename_i v vs
  have hl := h2.length
  obtain ⟨ad, rfl, hcell⟩ := rs.elem (i := 0) (u := v) rfl
  obtain ⟨aov, capv, rfl⟩ := RS.form hr
  have hone := RS.one hr
  have hcev : ev.cells.size = 1 := by
    rcases hev with ⟨_, rfl⟩ | ⟨_, he⟩
    · rfl
    · obtain ⟨b', rfl⟩ := he.form; rfl
  refine calls_of_W (n := 19) Tryz.func125 rfl Tryz.ntmps125 (Nat.le_of_ble_eq_true rfl) ?_
  refine W.seq fun K1 hK1 => ?_
  refine W.region ?_
  refine SeqOps.put 2 rfl rfl rfl (O.assign (v := (.slice none 0 0)) rfl rfl ?_)
  refine SeqOps.nil ?_
  refine hK1 _ _ ?_
  try clear hK1 K1
  refine W.seq fun K2 hK2 => ?_
  refine W.region ?_
  refine SeqOps.put 4 rfl rfl rfl (O.move (v := (.pointer (some ⟨bp, 0, none⟩))) rfl rfl ?_)
  refine SeqOps.put 5 rfl rfl rfl (O.nilCheckPtr (a := ⟨bp, 0, none⟩) rfl rfl ?_)
  refine SeqOps.put 6 rfl rfl rfl (O.fieldAddr (a := ⟨bp, 0, none⟩) (v := (.pointer (some ⟨bp, 0, none⟩))) rfl rfl Tryz.underlying177 rfl (by kernel_rfl) rfl ?_)
  refine SeqOps.put 7 rfl rfl rfl (O.loadBlk1 (b := bp) (off := 0) (v := (.slice (some ad) (b :: rem).length cap)) rfl rfl hb Tryz.underlying133 rfl rfl ?_)
  refine SeqOps.put 8 rfl rfl rfl (O.indexAddr (a := ad) (len := (b :: rem).length) (cap := cap) (i := 0) (sz := 1) (v := .pointer (some (ad.add 0))) rfl rfl rfl Tryz.underlying133 sz22 (by omega) (by simp <;> omega) (by simp) ?_)
  refine SeqOps.put 9 rfl rfl rfl (O.loadOne (a := ad.add 0) (v := .slice aov b.length capv) rfl rfl Tryz.underlying22 rfl (h.agrL.cell hcell) ?_)
  refine SeqOps.put 3 rfl rfl rfl (O.assign (v := (.slice aov b.length capv)) rfl rfl ?_)
  refine SeqOps.nil ?_
  refine hK2 _ _ ?_
  try clear hK2 K2
  refine W.seq fun K3 hK3 => ?_
  refine W.region ?_
  refine SeqOps.put 10 rfl rfl rfl (O.move (v := (.pointer (some ⟨bp, 0, none⟩))) rfl rfl ?_)
  refine SeqOps.put 11 rfl rfl rfl (O.move (v := (.pointer (some ⟨bp, 0, none⟩))) rfl rfl ?_)
  refine SeqOps.put 12 rfl rfl rfl (O.nilCheckPtr (a := ⟨bp, 0, none⟩) rfl rfl ?_)
  refine SeqOps.put 13 rfl rfl rfl (O.fieldAddr (a := ⟨bp, 0, none⟩) (v := (.pointer (some ⟨bp, 0, none⟩))) rfl rfl Tryz.underlying177 rfl (by kernel_rfl) rfl ?_)
  refine SeqOps.put 14 rfl rfl rfl (O.loadBlk1 (b := bp) (off := 0) (v := (.slice (some ad) (b :: rem).length cap)) rfl rfl hb Tryz.underlying133 rfl rfl ?_)
  refine SeqOps.put 15 rfl rfl rfl (O.slice (H := HL) (ao := some ad) (n := (b :: rem).length) (cap := cap) (s := 1) (cells := .slice aov b.length capv :: vs) (l := 1) (h := (b :: rem).length) rfl rfl Tryz.underlying133 sz22 ⟨.i64, rfl⟩ rfl rs (by simp [hl]) (by simp) (Nat.le_refl _) ?_)
  rintro v15 r15 ⟨ao15, cap15, rfl⟩
  refine SeqOps.put 16 rfl rfl rfl (O.nilCheckPtr (a := ⟨bp, 0, none⟩) rfl rfl ?_)
  refine SeqOps.put 17 rfl rfl rfl (O.fieldAddr (a := ⟨bp, 0, none⟩) (v := (.pointer (some ⟨bp, 0, none⟩))) rfl rfl Tryz.underlying177 rfl (by kernel_rfl) rfl ?_)
  refine SeqOps.eff rfl rfl (O.store (b := bp) (off := 0) (v := .slice ao15 ((b :: rem).length - 1) cap15) (n := 1) (c' := #[.slice ao15 ((b :: rem).length - 1) cap15, ev]) rfl rfl rfl hb sz133 rfl (by simp) (by intro u hu; simp [Value.cells] at hu; subst hu; rfl) rfl ?_)
  intro w2 hC2 hb2
  refine SeqOps.nil ?_
  refine hK3 _ _ ?_
  try clear hK3 K3
  refine W.seq fun K4 hK4 => ?_
  refine W.region ?_
  refine SeqOps.put 18 rfl rfl rfl (O.move (v := (.slice aov b.length capv)) rfl rfl ?_)
  refine SeqOps.put 2 rfl rfl rfl (O.assign (v := (.slice aov b.length capv)) rfl rfl ?_)
  refine SeqOps.nil ?_
  refine hK4 _ _ ?_
  try clear hK4 K4
  refine W.ret ?_
  refine retQ_one rfl rfl ⟨_, rfl, hr, ⟨⟨_, ev, hb2, ⟨vs, h2, ?_⟩, hev⟩, hC2.agr h.agrL (fun k hk => by subst hk; exact h.outL), hC2.agr h.agrN (fun k hk => by subst hk; exact h.outN), h.outL, h.outN, h.glob⟩, hC2⟩
  have e : ((Value.slice aov b.length capv :: vs).drop (1 * 1)).take (((b :: rem).length - 1) * 1) = vs := by simp [← hl]
  rw [e] at r15; simpa using r15

theorem bad_calls {a : Addr} {HL N : Heap} {w : World} {bp be : Nat} {rem : List (List UInt8)} {ok : Bool} (h : PS a HL N w bp rem ok) (he : ErrW a N (.iface 160 (.pointer (some ⟨be, 0, none⟩)))) :
    Calls Tryz.prog 126 #[.pointer (some ⟨bp, 0, none⟩), .iface 160 (.pointer (some ⟨be, 0, none⟩))] w (fun e w' => e = .returned (.tuple #[]) ∧ PS a HL N w' bp rem false ∧ Chg (· = bp) w w') := by
  obtain ⟨lv, ev, hb, hr, hev⟩ := h.blk
  rcases hev with ⟨rfl, rfl⟩ | ⟨rfl, hew⟩
  · refine calls_of_W (n := 13) Tryz.func126 rfl Tryz.ntmps126 (Nat.le_of_ble_eq_true rfl) ?_
    refine W.seq fun K1 hK1 => ?_
    refine W.region ?_
    refine SeqOps.put 4 rfl rfl rfl (O.move (v := (.pointer (some ⟨bp, 0, none⟩))) rfl rfl ?_)
    refine SeqOps.put 5 rfl rfl rfl (O.nilCheckPtr (a := ⟨bp, 0, none⟩) rfl rfl ?_)
    refine SeqOps.put 6 rfl rfl rfl (O.fieldAddr (a := ⟨bp, 0, none⟩) (v := (.pointer (some ⟨bp, 1, none⟩))) rfl rfl Tryz.underlying177 rfl (by kernel_rfl) rfl ?_)
    refine SeqOps.put 7 rfl rfl rfl (O.loadBlk1 (b := bp) (off := 1) (v := .nilIface) rfl rfl hb Tryz.underlying162 rfl rfl ?_)
    refine SeqOps.put 8 rfl rfl rfl (O.ifaceNil (v := .nilIface) (r := true) rfl rfl (.inl rfl) Tryz.underlying162 (.inl ⟨rfl, rfl⟩) ?_)
    refine SeqOps.nil ?_
    refine hK1 _ _ ?_
    try clear hK1 K1
    refine W.cond_true rfl ?_
    refine W.region ?_
    refine SeqOps.put 9 rfl rfl rfl (O.move (v := (.pointer (some ⟨bp, 0, none⟩))) rfl rfl ?_)
    refine SeqOps.put 10 rfl rfl rfl (O.move (v := (.iface 160 (.pointer (some ⟨be, 0, none⟩)))) rfl rfl ?_)
    refine SeqOps.put 11 rfl rfl rfl (O.nilCheckPtr (a := ⟨bp, 0, none⟩) rfl rfl ?_)
    refine SeqOps.put 12 rfl rfl rfl (O.fieldAddr (a := ⟨bp, 0, none⟩) (v := (.pointer (some ⟨bp, 1, none⟩))) rfl rfl Tryz.underlying177 rfl (by kernel_rfl) rfl ?_)
    refine SeqOps.eff rfl rfl (O.store (b := bp) (off := 1) (v := (.iface 160 (.pointer (some ⟨be, 0, none⟩)))) (n := 1) (c' := #[lv, (.iface 160 (.pointer (some ⟨be, 0, none⟩)))]) rfl rfl rfl hb sz162 rfl (by simp) (by intro u hu; simp [Value.cells] at hu; subst hu; rfl) rfl ?_)
    intro w2 hC2 hb2
    refine SeqOps.nil ?_
    exact retQ_none rfl ⟨rfl, ⟨⟨lv, _, hb2, hr, .inr ⟨rfl, he⟩⟩, hC2.agr h.agrL (fun k hk => by subst hk; exact h.outL), hC2.agr h.agrN (fun k hk => by subst hk; exact h.outN), h.outL, h.outN, h.glob⟩, hC2⟩
  · refine calls_of_W (n := 13) Tryz.func126 rfl Tryz.ntmps126 (Nat.le_of_ble_eq_true rfl) ?_
    obtain ⟨b', rfl⟩ := hew.form
    refine W.seq fun K2 hK2 => ?_
    refine W.region ?_
    refine SeqOps.put 4 rfl rfl rfl (O.move (v := (.pointer (some ⟨bp, 0, none⟩))) rfl rfl ?_)
    refine SeqOps.put 5 rfl rfl rfl (O.nilCheckPtr (a := ⟨bp, 0, none⟩) rfl rfl ?_)
    refine SeqOps.put 6 rfl rfl rfl (O.fieldAddr (a := ⟨bp, 0, none⟩) (v := (.pointer (some ⟨bp, 1, none⟩))) rfl rfl Tryz.underlying177 rfl (by kernel_rfl) rfl ?_)
    refine SeqOps.put 7 rfl rfl rfl (O.loadBlk1 (b := bp) (off := 1) (v := (.iface 160 (.pointer (some ⟨b', 0, none⟩)))) rfl rfl hb Tryz.underlying162 rfl rfl ?_)
    refine SeqOps.put 8 rfl rfl rfl (O.ifaceNil (v := (.iface 160 (.pointer (some ⟨b', 0, none⟩)))) (r := false) rfl rfl (.inr ⟨_, _, rfl⟩) Tryz.underlying162 (.inl ⟨rfl, rfl⟩) ?_)
    refine SeqOps.nil ?_
    refine hK2 _ _ ?_
    try clear hK2 K2
    refine W.cond_false rfl ?_
    refine W.skip ?_
    exact retQ_none rfl ⟨rfl, h, Chg.refl _ _⟩


/-- A new wrong joins the new memory. -/
theorem PS.wrong {a : Addr} {HL N : Heap} {w w' : World} {bp b : Nat} {rem : List (List UInt8)} {ok : Bool} {c : Array Value} {e : TypeId} (h : PS a HL N w bp rem ok) (c' : Ext w w') (hb : w.heap.size ≤ b) (hk : w'.heap[b]? = some (.cells c e (0, 0))) :
    PS a HL (Hadd N b (.cells c e (0, 0))) w' bp rem ok ∧ New w NoX (Hadd NH b (.cells c e (0, 0))) w' ∧ Hm N (Hadd NH b (.cells c e (0, 0))) = Hadd N b (.cells c e (0, 0)) := by
  have hn : N b = none := h.agrN.none hb
  have hne : bp ≠ b := by have := h.lt; omega
  have h' := h.ext c'
  have e1 : Hm N (Hadd NH b (.cells c e (0, 0))) = Hadd N b (.cells c e (0, 0)) := by
    funext k
    by_cases hkb : k = b
    · subst hkb; simp [Hm, Hadd_same]
    · simp [Hm, Hadd_ne _ _ hkb]
  have hN : New w NoX (Hadd NH b (.cells c e (0, 0))) w' := ((New.start w NoX).new c').add hk rfl hb
  refine ⟨?_, hN, e1⟩
  have := h.new hN
  rwa [e1] at this

theorem madeBytes (n : Nat) : (madeCells (Value.cells (.int .u8 0)) (n * 1)).toList = bcs (List.replicate n 0) := by
  apply List.ext_getElem
  · simp [madeCells, bcs]
  · intro i h1 h2
    have : Value.cells (.int .u8 0) = #[.int .u8 0] := rfl
    simp [madeCells, bcs, bc, this, Nat.mod_one]
theorem sized_calls {a : Addr} {HL N : Heap} {w : World} {bp n : Nat} {b : List UInt8} {rem : List (List UInt8)} {ok : Bool} (h : PS a HL N w bp (b :: rem) ok) (hn : n ≤ 1000) :
    Calls Tryz.prog 124 #[.pointer (some ⟨bp, 0, none⟩), .int .i64 (n : Int)] w (RetP a HL N w bp rem (ok && decide (b.length = n)) (fun M v => ∃ b', RB (Hm HL M) v b' ∧ b'.length = n ∧ (b.length = n → b' = b))) := by
  refine calls_of_W (n := 21) Tryz.func124 rfl Tryz.ntmps124 (Nat.le_of_ble_eq_true rfl) ?_
  refine W.seq fun K1 hK1 => ?_
  refine W.region ?_
  refine SeqOps.put 4 rfl rfl rfl (O.assign (v := (.slice none 0 0)) rfl rfl ?_)
  refine SeqOps.nil ?_
  refine hK1 _ _ ?_
  try clear hK1 K1
  refine W.seq fun K2 hK2 => ?_
  refine W.region ?_
  refine SeqOps.put 6 rfl rfl rfl (O.move (v := (.pointer (some ⟨bp, 0, none⟩))) rfl rfl ?_)
  refine SeqOps.put 7 rfl rfl rfl (O.call (fid := 125) (cap := #[]) (args := [(.pointer (some ⟨bp, 0, none⟩))]) rfl rfl rfl Tryz.func125 rfl rfl ?_)
  refine Calls.mono (next_calls h) ?_
  rintro e w1 ⟨v1, rfl, hr, h1, hC1⟩
  obtain ⟨ao1, cap1, rfl⟩ := RS.form hr
  refine ⟨_, rfl, ?_⟩
  refine SeqOps.put 5 rfl rfl rfl (O.assign (v := (.slice ao1 b.length cap1)) rfl rfl ?_)
  refine SeqOps.nil ?_
  refine hK2 _ _ ?_
  try clear hK2 K2
  refine W.seq fun K3 hK3 => ?_
  refine W.seq fun K4 hK4 => ?_
  refine W.region ?_
  refine SeqOps.put 8 rfl rfl rfl (O.move (v := (.slice ao1 b.length cap1)) rfl rfl ?_)
  refine SeqOps.put 9 rfl rfl rfl (O.lenSlice (ad := ao1) (n := b.length) (c := cap1) rfl rfl Tryz.underlying22 ?_)
  refine SeqOps.put 10 rfl rfl rfl (O.move (v := (.int .i64 ((n : Int)))) rfl rfl ?_)
  refine SeqOps.put 11 rfl rfl rfl (O.cmp (a := ((b.length : Nat) : Int)) (b := (n : Int)) (r := ((b.length : Nat) : Int) != (n : Int)) rfl rfl rfl rfl ?_)
  refine SeqOps.nil ?_
  refine hK4 _ _ ?_
  try clear hK4 K4
  by_cases hbn : b.length = n
  · refine W.cond_false (show evF _ _ = .bool false from congrArg Value.bool (by rw [hbn]; exact bne_self_eq_false _)) ?_
    refine W.skip ?_
    refine hK3 _ _ ?_
    refine W.seq fun K5 hK5 => ?_
    refine W.region ?_
    refine SeqOps.put 20 rfl rfl rfl (O.move (v := (.slice ao1 b.length cap1)) rfl rfl ?_)
    refine SeqOps.put 4 rfl rfl rfl (O.assign (v := (.slice ao1 b.length cap1)) rfl rfl ?_)
    refine SeqOps.nil ?_
    refine hK5 _ _ ?_
    try clear hK5 K5
    refine W.ret ?_
    refine retQ_one rfl rfl ⟨NH, _, rfl, New.ofChg hC1, rfl, ?_, b, ?_, hbn, fun _ => rfl⟩
    · rw [Hm.nil, decide_eq_true hbn, Bool.and_true]; exact h1
    · rw [Hm.nil]; exact hr
  refine W.cond_true (show evF _ _ = .bool true from congrArg Value.bool (by rw [bne_iff_ne]; omega)) ?_
  refine W.seq fun K6 hK6 => ?_
  refine W.region ?_
  refine SeqOps.put 12 rfl rfl rfl (O.move (v := (.pointer (some ⟨bp, 0, none⟩))) rfl rfl ?_)
  refine SeqOps.put 13 rfl rfl rfl (O.loadOne (a := ⟨1, 0, none⟩) (v := eS a) rfl rfl Tryz.underlying162 rfl (h1.agrL.cell h1.glob) ?_)
  refine SeqOps.put 14 rfl rfl rfl (O.build (vps := [(0, (strOf [97, 32, 112, 97, 114, 116])), (1, (eS a))]) (cells := [(strOf [97, 32, 112, 97, 114, 116]), (eS a)]) rfl rfl (by kernel_rfl) ?_)
  refine SeqOps.put 15 rfl rfl rfl (O.box (v := (.agg (List.toArray ([(strOf [97, 32, 112, 97, 114, 116]), (eS a)])))) rfl rfl ?_)
  intro b2 w2 hb2 hb2l hEw2 hkb2
  obtain ⟨h2, hN2, e2⟩ := h1.wrong hEw2 hb2 hkb2
  refine SeqOps.put 16 rfl rfl rfl (O.makeIface (v := (.pointer (some ⟨b2, 0, none⟩))) rfl rfl Tryz.underlying160 rfl ?_)
  refine SeqOps.put 17 rfl rfl rfl (O.call (fid := 126) (cap := #[]) (args := [(.pointer (some ⟨bp, 0, none⟩)), (.iface 160 (.pointer (some ⟨b2, 0, none⟩)))]) rfl rfl rfl Tryz.func126 rfl rfl ?_)
  refine Calls.mono (bad_calls h2 (.base (Hadd_same _ _ _))) ?_
  rintro e w3 ⟨rfl, h3, hC3⟩
  refine ⟨_, rfl, ?_⟩
  refine SeqOps.nil ?_
  refine hK6 _ _ ?_
  try clear hK6 K6
  refine W.seq fun K7 hK7 => ?_
  refine W.region ?_
  refine SeqOps.put 18 rfl rfl rfl (O.move (v := (.int .i64 ((n : Int)))) rfl rfl ?_)
  refine SeqOps.put 19 rfl rfl rfl (O.makeSlice (H := Hm N (Hadd NH b2 _)) (n := n) rfl rfl rfl Tryz.underlying22 inf5 (by omega) (by simp only [maxLen]; omega) (by rw [e2]; exact h3.agrN) (by intro u hu; simp [Value.cells] at hu; subst hu; rfl) (by decide) ?_)
  intro b4 w4 hb4 hE4 own4
  refine SeqOps.put 4 rfl rfl rfl (O.assign (v := (.slice (some ⟨b4, 0, none⟩) n n)) rfl rfl ?_)
  refine SeqOps.nil ?_
  refine hK7 _ _ ?_
  try clear hK7 K7
  refine W.ret ?_
  rw [madeBytes] at own4
  have n12 := ((New.ofChg hC1).trans hN2 (fun i hi => hi.elim)).step hC3 fun i hi => ⟨.inr hi, by subst hi; exact Hm.none rfl (by have := h1.lt; rw [Hadd_ne _ _ (by omega)])⟩
  rw [show Hm NH (Hadd NH b2 _) = Hadd NH b2 _ from by funext k; unfold Hm; cases Hadd NH b2 _ k <;> rfl] at n12
  obtain ⟨N4, hle4, n14, hsame4, rb4⟩ := (own4.heap (H' := Hadd NH b2 _) fun j hj => by have := own4.out j hj; unfold Hm at this; cases hh : Hadd NH b2 _ j <;> simp_all).join (n12.new hE4) n12.st.chg.size
  have hbp4 : N4 bp = none := by have hlt := h1.lt; have hs := hEw2.size; have hs3 := hC3.size; rw [hsame4 bp (fun e => by have := (own4.base e).1; omega), Hadd_ne _ _ (by omega)]
  refine retQ_one rfl rfl ⟨N4, _, rfl, n14, hbp4, ?_, List.replicate n 0, ?_, by simp, fun e => absurd e hbn⟩
  · rw [decide_eq_false hbn, Bool.and_false]
    obtain ⟨lv, ev, hblk, hrb, hev⟩ := (h3.ext hE4).blk
    refine h.next n14 hbp4 ⟨lv, ev, hblk, hrb, hev.imp id fun ⟨e1, e3⟩ => ⟨e1, e3.mono ?_⟩⟩
    rw [← e2]; intro k o ho; unfold Hm at ho ⊢; cases hh : Hadd NH b2 (.cells (Value.cells (.agg (List.toArray _))) _ (0, 0)) k with
    | some o' => rw [hh] at ho; rw [hle4 k o' hh]; exact ho
    | none => rw [hh] at ho; cases h4 : N4 k with
      | some o' => have := n14.low h4; have := h.agrN.lt ho; omega
      | none => exact ho
  · exact RB.mono (by unfold RB; rw [List.length_replicate]; exact rb4) (Hm.right _ _)

end Go.Proofs.YtddpmpbngcbokaaGreatDoor

/- codec's readers of things. -/
import Derived.Test.YtddpmpbngcbokaaGreatDoorRsplit
namespace Go.Proofs.YtddpmpbngcbokaaGreatDoor
open Go Go.RowKit
set_option maxRecDepth 100000


def RetRd {α : Type} (a : Addr) (d : List UInt8 → Option α) (wf : Value → Prop) (Φ : Heap → Value → α → Prop) (w : World) (bs : List UInt8) : Ending → World → Prop :=
  fun e w' => ∃ N v ev, e = .returned (.tuple #[v, ev]) ∧ New w NoX N w' ∧ wf v ∧ ((∃ x, d bs = some x ∧ ev = .nilIface ∧ Φ N v x) ∨ (d bs = none ∧ ErrW a N ev))
theorem RetRd.good {α : Type} {a : Addr} {d : List UInt8 → Option α} {wf : Value → Prop} {Φ : Heap → Value → α → Prop} {w w' : World} {bs : List UInt8} {e : Ending} {x : α} (hx : d bs = some x) (h : RetRd a d wf Φ w bs e w') :
    ∃ N v, e = .returned (.tuple #[v, .nilIface]) ∧ New w NoX N w' ∧ wf v ∧ Φ N v x := by
  obtain ⟨N, v, ev, h1, h2, h3, h4⟩ := h
  rcases h4 with ⟨y, hy, rfl, hP⟩ | ⟨hn, _⟩
  · rw [hx] at hy; cases hy; exact ⟨N, v, h1, h2, h3, hP⟩
  · rw [hx] at hn; cases hn
theorem RetRd.bad {α : Type} {a : Addr} {d : List UInt8 → Option α} {wf : Value → Prop} {Φ : Heap → Value → α → Prop} {w w' : World} {bs : List UInt8} {e : Ending} (hx : d bs = none) (h : RetRd a d wf Φ w bs e w') :
    ∃ N v be, e = .returned (.tuple #[v, .iface 160 (.pointer (some ⟨be, 0, none⟩))]) ∧ New w NoX N w' ∧ wf v ∧ ErrW a N (.iface 160 (.pointer (some ⟨be, 0, none⟩))) := by
  obtain ⟨N, v, ev, h1, h2, h3, h4⟩ := h
  rcases h4 with ⟨y, hy, _⟩ | ⟨_, he⟩
  · rw [hx] at hy; cases hy
  · obtain ⟨be, rfl⟩ := he.form; exact ⟨N, v, be, h1, h2, h3, he⟩
def wfI (v : Value) : Prop := ∃ n : Int, v = .int .i64 n
def phI (_N : Heap) (v : Value) (x : Int) : Prop := v = .int .i64 x ∧ I64 x
def wfS (v : Value) : Prop := ∃ ao n cap, v = .slice ao n cap
def phS (N : Heap) (v : Value) (l : List Int) : Prop := RInts N v l
theorem mapO_snoc {α : Type} (d : List UInt8 → Option α) (b : List UInt8) : ∀ (l : List (List UInt8)), mapO d (l ++ [b]) = (mapO d l).bind fun ys => (d b).map fun y => ys ++ [y]
  | [] => by simp [mapO]; cases d b <;> rfl
  | c :: r => by
    simp only [List.cons_append, mapO, mapO_snoc d b r]
    cases d c with
    | none => rfl
    | some y => cases mapO d r with
      | none => rfl
      | some ys => cases d b <;> rfl
/-- One block is written to its end, all else but what is new stays. -/
def RStore (br : Nat) (o : Obj) (a b : World) : Prop := Chg (· = br) a b ∧ (a.heap[br]? = some o → b.heap[br]? = some o)
theorem RStore.refl (br : Nat) (o : Obj) (a : World) : RStore br o a a := ⟨Chg.refl _ _, id⟩
theorem RStore.trans {br : Nat} {o : Obj} {a b c : World} (h : RStore br o a b) (k : RStore br o b c) : RStore br o a c := ⟨h.1.trans k.1, k.2 ∘ h.2⟩
theorem PS.final {a : Addr} {HL N : Heap} {w : World} {bp : Nat} {rem : List (List UInt8)} {ok : Bool} (h : PS a HL N w bp rem ok) :
    ∃ lv ev, w.heap[bp]? = some (.cells #[lv, ev] 177 (0, 0)) ∧ (ev = .nilIface ∨ ∃ be, ev = .iface 160 (.pointer (some ⟨be, 0, none⟩))) ∧ ((ok = true ∧ ev = .nilIface) ∨ (ok = false ∧ ErrW a N ev)) := by
  obtain ⟨lv, ev, h1, _, h3⟩ := h.blk
  refine ⟨lv, ev, h1, ?_, h3⟩
  rcases h3 with ⟨_, rfl⟩ | ⟨_, he⟩
  · exact .inl rfl
  · exact .inr he.form

theorem mapO_length {α : Type} {d : List UInt8 → Option α} : ∀ {l : List (List UInt8)} {ys : List α}, mapO d l = some ys → ys.length = l.length
  | [], ys, h => by cases h; rfl
  | b :: r, ys, h => by
    unfold mapO at h
    cases hb : d b with
    | none => rw [hb] at h; cases h
    | some y =>
      cases hr : mapO d r with
      | none => rw [hb, hr] at h; cases h
      | some zs => rw [hb, hr] at h; cases h; simp [mapO_length hr]

def RStoreC (br : Nat) (o : Obj) (s E : Nat) (a b : World) : Prop := Chg (· = br) a b ∧ (a.heap[br]? = some o → b.heap[br]? = some o) ∧ ((∃ c, c.size = s ∧ a.heap[br]? = some (.cells c E (0, 0))) → ∃ c, c.size = s ∧ b.heap[br]? = some (.cells c E (0, 0)))
theorem RStoreC.refl (br : Nat) (o : Obj) (s E : Nat) (a : World) : RStoreC br o s E a a := ⟨Chg.refl _ _, id, id⟩
theorem RStoreC.trans {br s E : Nat} {o : Obj} {a b c : World} (h : RStoreC br o s E a b) (k : RStoreC br o s E b c) : RStoreC br o s E a c := ⟨h.1.trans k.1, k.2.1 ∘ h.2.1, k.2.2 ∘ h.2.2⟩
theorem u64_fact {b : List UInt8} {n : Nat} {y : Int} (h1 : n < 18446744073709551616) (h2 : b.length = 8 → n = dec8 b) (h3 : dU64 b = some y) : (n : Int) = y ∧ U64 y := by
  unfold dU64 at h3
  split at h3
  · rename_i h8; cases h3; rw [← h2 h8]; exact ⟨rfl, by unfold U64; omega⟩
  · cases h3

theorem read_i64_calls {a : Addr} {H : Heap} {w : World} {v : Value} {bs : List UInt8} (hA : Agr H w) (hG : hcell H ⟨1, 0, none⟩ = some (eS a)) (r : RB H v bs) (hlen : bs.length ≤ 1099511627776) :
    Calls Tryz.prog 108 #[v] w (RetRd a dI64 wfI phI w bs) := by
  obtain ⟨ao, cap, rfl⟩ := RS.form r
  refine calls_of_W (n := 17) Tryz.func108 rfl Tryz.ntmps108 (Nat.le_of_ble_eq_true rfl) ?_
  refine W.seq fun K1 hK1 => ?_
  refine W.region ?_
  refine SeqOps.put 2 rfl rfl rfl (O.assign (v := (.int .i64 (0))) rfl rfl ?_)
  refine SeqOps.put 3 rfl rfl rfl (O.assign (v := .nilIface) rfl rfl ?_)
  refine SeqOps.nil ?_
  refine hK1 _ _ ?_
  try clear hK1 K1
  refine W.seq fun K2 hK2 => ?_
  refine W.region ?_
  refine SeqOps.put 6 rfl rfl rfl (O.move (v := (.slice ao bs.length cap)) rfl rfl ?_)
  refine SeqOps.put 7 rfl rfl rfl (O.buildSlice (vs := [.slice ao bs.length cap]) rfl rfl rfl Tryz.underlying133 inf22 (by intro u hu; simp at hu; subst hu; rfl) (by decide) ?_)
  intro b1 w1 hb1 hb11 hE1 hk1
  refine SeqOps.put 8 rfl rfl rfl (O.build (vps := [(0, .slice (some ⟨b1, 0, none⟩) 1 1)]) (cells := [.slice (some ⟨b1, 0, none⟩) 1 1, .nilIface]) rfl rfl (by kernel_rfl) ?_)
  refine SeqOps.put 9 rfl rfl rfl (O.box (v := (.agg (List.toArray ([.slice (some ⟨b1, 0, none⟩) 1 1, .nilIface])))) rfl rfl ?_)
  intro bp w2 hbp hbp1 hE2 hkp
  have own1 : Own NH w1 w.heap.size 22 1 (.slice (some ⟨b1, 0, none⟩) 1 1) 1 [.slice ao bs.length cap] := Own.ofBlk hk1 hb1 rfl rfl (by decide) (one_of rfl)
  obtain ⟨N, _, n1, hsame, rs1⟩ := own1.join ((New.start w NoX).new hE1) (Nat.le_refl _)
  have n2 := n1.new hE2
  have hNp : N bp = none := n1.st.agr.none hbp
  have hHp : H bp = none := (Ext.agr hE1 hA).none hbp
  have hps : PS a (Hm H N) N w2 bp [bs] true := ⟨⟨_, _, hkp, ⟨[.slice ao bs.length cap], .cons (r.mono (Hm.left hA n1)) .nil, rs1.mono (Hm.right _ _)⟩, .inl ⟨rfl, rfl⟩⟩, Hm.agr (Ext.agr hE2 (Ext.agr hE1 hA)) n2.st.agr, n2.st.agr, Hm.none hHp hNp, hNp, (Hm.left hA n1).cell hG⟩
  refine SeqOps.put 4 rfl rfl rfl (O.assign (v := (.pointer (some ⟨bp, 0, none⟩))) rfl rfl ?_)
  refine SeqOps.nil ?_
  refine hK2 _ _ ?_
  try clear hK2 K2
  refine W.seq fun K3 hK3 => ?_
  refine W.region ?_
  refine SeqOps.put 10 rfl rfl rfl (O.move (v := (.pointer (some ⟨bp, 0, none⟩))) rfl rfl ?_)
  refine SeqOps.put 11 rfl rfl rfl (O.call (fid := 88) (cap := #[]) (args := [(.pointer (some ⟨bp, 0, none⟩))]) rfl rfl rfl Tryz.func88 rfl rfl ?_)
  refine Calls.mono (pint_calls hps) ?_
  rintro e w3 ⟨M, v3, rfl, n3, hM3, hp3, y, rfl, hrng, hy⟩
  refine ⟨_, rfl, ?_⟩
  refine SeqOps.put 5 rfl rfl rfl (O.assign (v := (.int .i64 (y))) rfl rfl ?_)
  refine SeqOps.nil ?_
  refine hK3 _ _ ?_
  try clear hK3 K3
  refine W.seq fun K4 hK4 => ?_
  obtain ⟨lv, ev, hkp, hevf, hev⟩ := hp3.final
  refine W.region_any (by kernel_rfl) (by kernel_rfl) [12, 13, 14, 15, 16, 2, 3] rfl (fun a b => Ext a b) (fun _ => Chg.refl _ _) (fun h k => Chg.trans h k) [
      (fun (u : Value) (_ : World) => u = Value.int .i64 y),
      (fun (u : Value) (_ : World) => u = Value.pointer (some ⟨bp, 0, none⟩)),
      (fun (u : Value) (_ : World) => u = Value.pointer (some ⟨bp, 0, none⟩)),
      (fun (u : Value) (_ : World) => u = Value.pointer (some ⟨bp, 1, none⟩)),
      (fun (u : Value) (_ : World) => u = ev),
      (fun (u : Value) (_ : World) => u = Value.int .i64 y),
      (fun (u : Value) (_ : World) => u = ev)
    ] ⟨fun _ _ _ _ h => h, fun _ _ _ _ h => h, fun _ _ _ _ h => h, fun _ _ _ _ h => h, fun _ _ _ _ h => h, fun _ _ _ _ h => h, fun _ _ _ _ h => h, trivial⟩ ⟨?_, ?_, ?_, ?_, ?_, ?_, ?_, trivial⟩ ?_
  · intro g w1 hR hf hd
    have h1 : g 5 = Value.int .i64 y := hf 5 (by decide)
    exact StepT.plain rfl (O.move (v := Value.int .i64 y) rfl h1 ⟨Chg.refl _ _, rfl⟩)
  · intro g w1 hR hf hd
    have h1 : g 4 = Value.pointer (some ⟨bp, 0, none⟩) := hf 4 (by decide)
    exact StepT.plain rfl (O.move (v := Value.pointer (some ⟨bp, 0, none⟩)) rfl h1 ⟨Chg.refl _ _, rfl⟩)
  · intro g w1 hR hf hd
    have h1 : (fun (u : Value) (_ : World) => u = Value.pointer (some ⟨bp, 0, none⟩)) (g 13) w1 := hd.1 rfl
    exact StepT.plain rfl (O.nilCheckPtr (a := ⟨bp, 0, none⟩) rfl h1 ⟨Chg.refl _ _, rfl⟩)
  · intro g w1 hR hf hd
    have h1 : (fun (u : Value) (_ : World) => u = Value.pointer (some ⟨bp, 0, none⟩)) (g 14) w1 := hd.1 rfl
    exact StepT.plain rfl (O.fieldAddr (a := ⟨bp, 0, none⟩) (v := Value.pointer (some ⟨bp, 1, none⟩)) rfl h1 Tryz.underlying177 rfl (by kernel_rfl) rfl ⟨Chg.refl _ _, rfl⟩)
  · intro g w1 hR hf hd
    have h1 : (fun (u : Value) (_ : World) => u = Value.pointer (some ⟨bp, 1, none⟩)) (g 15) w1 := hd.1 rfl
    have hb1 := Chg.blk hR (show w3.drew.heap[bp]? = _ from hkp) (fun h => h)
    exact StepT.plain rfl (O.loadBlk1 (b := bp) (off := 1) (v := ev) rfl h1 hb1 Tryz.underlying162 rfl rfl ⟨Chg.refl _ _, rfl⟩)
  · intro g w1 hR hf hd
    have h1 : (fun (u : Value) (_ : World) => u = Value.int .i64 y) (g 12) w1 := hd.1 rfl
    exact StepT.plain rfl (O.assign (v := Value.int .i64 y) rfl h1 ⟨Chg.refl _ _, rfl⟩)
  · intro g w1 hR hf hd
    have h1 : g 16 = ev := hd.1 rfl
    exact StepT.plain rfl (O.assign (v := ev) rfl h1 ⟨Chg.refl _ _, rfl⟩)
  intro g w9 hR hf hall
  have hf5 := hall.2.2.2.2.2.1
  have hf6 := hall.2.2.2.2.2.2.1
  refine hK4 _ _ ?_
  try clear hK4 K4
  refine W.ret ?_
  have hE9 : Ext w3 w9 := (Ext.drew w3).trans hR
  have n9 := (n2.trans n3 (fun i hi => ⟨.inl (by subst hi; have := hE1.size; omega), by subst hi; exact hNp⟩)).new hE9
  refine retQ_two rfl hf5 hf6 ⟨_, _, _, rfl, n9, ⟨_, rfl⟩, ?_⟩
  cases hd : dI64 bs with
  | some z =>
    rw [hd] at hev
    rcases hev with ⟨_, rfl⟩ | ⟨e, _⟩
    · exact .inl ⟨z, rfl, rfl, by rw [hy z hd], by rw [← hy z hd]; exact hrng⟩
    · cases e
  | none =>
    rw [hd] at hev
    rcases hev with ⟨e, _⟩ | ⟨_, he⟩
    · cases e
    · exact .inr ⟨rfl, he⟩

theorem all_i64_calls {a : Addr} {HL N : Heap} {w : World} {bp : Nat} {b : List UInt8} {rem : List (List UInt8)} {ok : Bool} (h : PS a HL N w bp (b :: rem) ok) (hlen : b.length ≤ 1099511627776) :
    Calls Tryz.prog 107 #[.pointer (some ⟨bp, 0, none⟩), .func (.func 108) #[] #[]] w (RetP a HL N w bp rem (ok && (dList dI64 b).isSome) (fun M v => (∃ ao n cap, v = .slice ao n cap) ∧ ∀ ys, dList dI64 b = some ys → RL 1 cInt M v ys)) := by
  have hlt0 := h.lt
  have h0L : ∀ {k}, w.heap.size ≤ k → HL k = none := fun hk => h.agrL.none hk
  have h0N : ∀ {k}, w.heap.size ≤ k → N k = none := fun hk => h.agrN.none hk
  cases hsp : split b with
  | none =>
    refine calls_of_W (n := 52) Tryz.func107 rfl Tryz.ntmps107 (Nat.le_of_ble_eq_true rfl) ?_
    refine W.seq fun K1 hK1 => ?_
    refine W.region ?_
    refine SeqOps.put 4 rfl rfl rfl (O.assign (v := (.slice none 0 0)) rfl rfl ?_)
    refine SeqOps.nil ?_
    refine hK1 _ _ ?_
    try clear hK1 K1
    refine W.seq fun K2 hK2 => ?_
    refine W.region ?_
    refine SeqOps.put 13 rfl rfl rfl (O.move (v := (.pointer (some ⟨bp, 0, none⟩))) rfl rfl ?_)
    refine SeqOps.put 14 rfl rfl rfl (O.call (fid := 125) (cap := #[]) (args := [(.pointer (some ⟨bp, 0, none⟩))]) rfl rfl rfl Tryz.func125 rfl rfl ?_)
    refine Calls.mono (next_calls h) ?_
    rintro e w1 ⟨v1, rfl, hr, h1, hC1⟩
    refine ⟨_, rfl, ?_⟩
    refine SeqOps.put 15 rfl rfl rfl (O.call (fid := 123) (cap := #[]) (args := [v1]) rfl rfl rfl Tryz.func123 rfl rfl ?_)
    refine Calls.mono (Split_calls h1.agrL hr hlen) ?_
    rintro e w2 ⟨M, v2, st, hres⟩
    obtain ⟨rfl, rfl⟩ : v2 = .slice none 0 0 ∧ e = .returned (.tuple #[v2, .bool false]) := by rcases hres with ⟨l, h1, _⟩ | ⟨_, h2, h3⟩ <;> first | exact ⟨h2, h3⟩ | (rw [hsp] at h1; cases h1; done)
    have n2 := (New.ofChg hC1).trans st (fun i hi => hi.elim)
    rw [Hm.nilL] at n2
    have hM : M bp = none := by rw [st.st.low bp h1.lt]
    replace h1 := h1.new st
    refine ⟨_, rfl, ?_⟩
    refine SeqOps.put 12 rfl rfl rfl (O.move (v := (.tuple #[(.slice none 0 0), (.bool (false))])) rfl rfl ?_)
    refine SeqOps.put 16 rfl rfl rfl (O.extract (v := (.slice none 0 0)) rfl rfl rfl ?_)
    refine SeqOps.put 17 rfl rfl rfl (O.extract (v := (.bool (false))) rfl rfl rfl ?_)
    refine SeqOps.put 5 rfl rfl rfl (O.assign (v := (.slice none 0 0)) rfl rfl ?_)
    refine SeqOps.put 6 rfl rfl rfl (O.assign (v := (.bool (false))) rfl rfl ?_)
    refine SeqOps.nil ?_
    refine hK2 _ _ ?_
    try clear hK2 K2
    refine W.seq fun K3 hK3 => ?_
    refine W.seq fun K4 hK4 => ?_
    refine W.region ?_
    refine SeqOps.put 18 rfl rfl rfl (O.move (v := (.bool (false))) rfl rfl ?_)
    refine SeqOps.put 19 rfl rfl rfl (O.not (b := false) rfl rfl ?_)
    refine SeqOps.nil ?_
    refine hK4 _ _ ?_
    try clear hK4 K4
    refine W.cond_true rfl ?_
    refine W.region ?_
    refine SeqOps.put 20 rfl rfl rfl (O.move (v := (.pointer (some ⟨bp, 0, none⟩))) rfl rfl ?_)
    refine SeqOps.put 21 rfl rfl rfl (O.loadOne (a := ⟨1, 0, none⟩) (v := eS a) rfl rfl Tryz.underlying162 rfl (h1.agrL.cell h1.glob) ?_)
    refine SeqOps.put 22 rfl rfl rfl (O.build (vps := [(0, (strOf [97, 32, 108, 105, 115, 116])), (1, (eS a))]) (cells := [(strOf [97, 32, 108, 105, 115, 116]), (eS a)]) rfl rfl (by kernel_rfl) ?_)
    refine SeqOps.put 23 rfl rfl rfl (O.box (v := (.agg (List.toArray ([(strOf [97, 32, 108, 105, 115, 116]), (eS a)])))) rfl rfl ?_)
    intro b3 w3 hb3 hb3l hEw3 hkb3
    obtain ⟨h3, hN3, e3⟩ := h1.wrong hEw3 hb3 hkb3
    refine SeqOps.put 24 rfl rfl rfl (O.makeIface (v := (.pointer (some ⟨b3, 0, none⟩))) rfl rfl Tryz.underlying160 rfl ?_)
    refine SeqOps.put 25 rfl rfl rfl (O.call (fid := 126) (cap := #[]) (args := [(.pointer (some ⟨bp, 0, none⟩)), (.iface 160 (.pointer (some ⟨b3, 0, none⟩)))]) rfl rfl rfl Tryz.func126 rfl rfl ?_)
    refine Calls.mono (bad_calls h3 (.base (Hadd_same _ _ _))) ?_
    rintro e w4 ⟨rfl, h4, hC4⟩
    refine ⟨_, rfl, ?_⟩
    refine SeqOps.nil ?_
    refine hK3 _ _ ?_
    try clear hK3 K3
    refine W.seq fun K5 hK5 => ?_
    refine W.region ?_
    refine SeqOps.put 7 rfl rfl rfl (O.assign (v := (.slice none 0 0)) rfl rfl ?_)
    refine SeqOps.nil ?_
    refine hK5 _ _ ?_
    try clear hK5 K5
    refine W.seq fun K6 hK6 => ?_
    refine W.seq fun K7 hK7 => ?_
    refine W.region ?_
    refine SeqOps.put 26 rfl rfl rfl (O.move (v := (.slice none 0 0)) rfl rfl ?_)
    refine SeqOps.put 27 rfl rfl rfl (O.lenSlice (ad := none) (n := 0) (c := 0) rfl rfl Tryz.underlying133 ?_)
    refine SeqOps.put 28 rfl rfl rfl (O.move (v := (.int .i64 (0))) rfl rfl ?_)
    refine SeqOps.nil ?_
    refine hK7 _ _ ?_
    try clear hK7 K7
    refine W.block ?_
    refine W.loop [7, 26, 27, 28] (fun vals wk => vals = [.slice none 0 0, .slice none 0 0, .int .i64 0, .int .i64 0] ∧ w4 = wk) (fun _ _ => 0) ⟨rfl, rfl⟩ ?_
    rintro g _ wk ⟨rfl, rfl⟩
    refine W.seq fun K8 hK8 => ?_
    refine W.region ?_
    refine SeqOps.put 29 rfl rfl rfl (O.cmp (a := 0) (b := 0) (r := false) rfl rfl rfl (rfl) ?_)
    refine SeqOps.nil ?_
    refine hK8 _ _ ?_
    try clear hK8 K8
    refine W.seq fun K9 hK9 => ?_
    refine W.cond_false rfl ?_
    refine W.exit ?_
    refine hK6 _ _ ?_
    try clear hK6 K6
    refine W.seq fun K10 hK10 => ?_
    refine W.region ?_
    refine SeqOps.put 51 rfl rfl rfl (O.move (v := (.slice none 0 0)) rfl rfl ?_)
    refine SeqOps.put 4 rfl rfl rfl (O.assign (v := (.slice none 0 0)) rfl rfl ?_)
    refine SeqOps.nil ?_
    refine hK10 _ _ ?_
    try clear hK10 K10
    refine W.ret ?_
    have hlt1 := h1.lt
    have n4 := (n2.trans hN3 (fun i hi => hi.elim)).step hC4 (fun i hi => ⟨.inr hi, by subst hi; exact Hm.none hM (by rw [Hadd_ne _ _ (by omega)])⟩)
    refine retQ_one rfl rfl ⟨_, _, rfl, n4, Hm.none hM (by rw [Hadd_ne _ _ (by omega)]), ?_, ⟨_, _, _, rfl⟩, fun ys hy => ?_⟩
    · have e : (ok && (dList dI64 b).isSome) = false := by unfold dList; rw [hsp]; simp
      rw [e, ← Hm.assoc, e3]; exact h4
    · unfold dList at hy; rw [hsp] at hy; cases hy
  | some l =>
    have hll : 8 * l.length ≤ b.length := by have h1 := joinTail_ge l; have h2 := join_length l; rw [split_join hsp] at h2; omega
    have hpl := split_parts_le hsp
    refine calls_of_W (n := 52) Tryz.func107 rfl Tryz.ntmps107 (Nat.le_of_ble_eq_true rfl) ?_
    refine W.seq fun K11 hK11 => ?_
    refine W.region ?_
    refine SeqOps.put 4 rfl rfl rfl (O.assign (v := (.slice none 0 0)) rfl rfl ?_)
    refine SeqOps.nil ?_
    refine hK11 _ _ ?_
    try clear hK11 K11
    refine W.seq fun K12 hK12 => ?_
    refine W.region ?_
    refine SeqOps.put 13 rfl rfl rfl (O.move (v := (.pointer (some ⟨bp, 0, none⟩))) rfl rfl ?_)
    refine SeqOps.put 14 rfl rfl rfl (O.call (fid := 125) (cap := #[]) (args := [(.pointer (some ⟨bp, 0, none⟩))]) rfl rfl rfl Tryz.func125 rfl rfl ?_)
    refine Calls.mono (next_calls h) ?_
    rintro e w1 ⟨v1, rfl, hr, h1, hC1⟩
    refine ⟨_, rfl, ?_⟩
    refine SeqOps.put 15 rfl rfl rfl (O.call (fid := 123) (cap := #[]) (args := [v1]) rfl rfl rfl Tryz.func123 rfl rfl ?_)
    refine Calls.mono (Split_calls h1.agrL hr hlen) ?_
    rintro e w2 ⟨M, v2, st, hres⟩
    obtain ⟨rfl, hl⟩ : e = .returned (.tuple #[v2, .bool true]) ∧ RBB M v2 l := by rcases hres with ⟨l', h1, h2, h3⟩ | ⟨h1, _⟩ <;> first | (rw [hsp] at h1; cases h1; exact ⟨h2, h3⟩) | (rw [hsp] at h1; cases h1; done)
    obtain ⟨ao, cap, rfl⟩ : ∃ ao cap, v2 = .slice ao l.length cap := by obtain ⟨vs, _, rs⟩ := hl; exact rs.form
    have n2 := (New.ofChg hC1).trans st (fun i hi => hi.elim)
    rw [Hm.nilL] at n2
    have hM : M bp = none := by rw [st.st.low bp h1.lt]
    replace h1 := h1.new st
    refine ⟨_, rfl, ?_⟩
    refine SeqOps.put 12 rfl rfl rfl (O.move (v := (.tuple #[(.slice ao l.length cap), (.bool (true))])) rfl rfl ?_)
    refine SeqOps.put 16 rfl rfl rfl (O.extract (v := (.slice ao l.length cap)) rfl rfl rfl ?_)
    refine SeqOps.put 17 rfl rfl rfl (O.extract (v := (.bool (true))) rfl rfl rfl ?_)
    refine SeqOps.put 5 rfl rfl rfl (O.assign (v := (.slice ao l.length cap)) rfl rfl ?_)
    refine SeqOps.put 6 rfl rfl rfl (O.assign (v := (.bool (true))) rfl rfl ?_)
    refine SeqOps.nil ?_
    refine hK12 _ _ ?_
    try clear hK12 K12
    refine W.seq fun K13 hK13 => ?_
    refine W.seq fun K14 hK14 => ?_
    refine W.region ?_
    refine SeqOps.put 18 rfl rfl rfl (O.move (v := (.bool (true))) rfl rfl ?_)
    refine SeqOps.put 19 rfl rfl rfl (O.not (b := true) rfl rfl ?_)
    refine SeqOps.nil ?_
    refine hK14 _ _ ?_
    try clear hK14 K14
    refine W.cond_false rfl ?_
    refine W.skip ?_
    refine hK13 _ _ ?_
    try clear hK13 K13
    refine W.seq fun K15 hK15 => ?_
    refine W.region ?_
    refine SeqOps.put 7 rfl rfl rfl (O.assign (v := (.slice none 0 0)) rfl rfl ?_)
    refine SeqOps.nil ?_
    refine hK15 _ _ ?_
    try clear hK15 K15
    refine W.seq fun K16 hK16 => ?_
    refine W.seq fun K17 hK17 => ?_
    refine W.region ?_
    refine SeqOps.put 26 rfl rfl rfl (O.move (v := (.slice ao l.length cap)) rfl rfl ?_)
    refine SeqOps.put 27 rfl rfl rfl (O.lenSlice (ad := ao) (n := l.length) (c := cap) rfl rfl Tryz.underlying133 ?_)
    refine SeqOps.put 28 rfl rfl rfl (O.move (v := (.int .i64 (0))) rfl rfl ?_)
    refine SeqOps.nil ?_
    refine hK17 _ _ ?_
    try clear hK17 K17
    refine W.block ?_
    refine W.loop [0, 1, 7, 26, 27, 28] (fun vals wk => ∃ M okk out css, ∃ k : Nat, vals = [.pointer (some ⟨bp, 0, none⟩), .func (.func 108) #[] #[], out, .slice ao l.length cap, .int .i64 (l.length : Int), .int .i64 (k : Int)] ∧ k ≤ l.length ∧ New w (· = bp) M wk ∧ M bp = none ∧ PS a HL (Hm N M) wk bp rem okk ∧ RBB M (.slice ao l.length cap) l ∧ Own M wk w.heap.size 3 1 out k (List.flatten css) ∧ (∀ cs ∈ css, cs.length = 1) ∧ okk = (ok && (mapO dI64 (l.take k)).isSome) ∧ (∀ ys, mapO dI64 (l.take k) = some ys → All2 (cInt M) css ys)) (fun vals _ => l.length - (intOf (vals.getD 5 undef)).toNat) ⟨M, ok, _, [], 0, rfl, Nat.zero_le _, n2, hM, h1, hl, Own.nil _ _ _ _ _, by simp, by simp [mapO], fun ys hy => by simp [mapO] at hy; subst hy; exact .nil⟩ ?_
    clear hres n2 hM h1 hl st hC1 hr M
    rintro g _ wk ⟨M, okk, out, css, k, rfl, hk, nk, hM, hp, hl, own, hcs, hokk, hall⟩
    rcases Nat.lt_or_ge k l.length with hlt | hge2
    · have htk : l.take (k + 1) = l.take k ++ [l[k]] := List.take_succ_eq_append_getElem hlt
      have hpk := hpl l[k] (by simp)
      have hl' := hl
      obtain ⟨vs, h2, rs⟩ := hl'
      obtain ⟨hvl, hel⟩ := h2.get hlt
      obtain ⟨ad, rfl, hcel⟩ := rs.elem (i := k) (u := vs[k]) (by simp)
      obtain ⟨ao2, cap2, hv2⟩ := RS.form hel
      rw [hv2] at hcel hel
      have hLM : Agr (Hm HL M) wk := Hm.agr hp.agrL nk.st.agr
      have hGM : hcell (Hm HL M) ⟨1, 0, none⟩ = some (eS a) := (Hm.left h.agrL nk).cell h.glob
      cases hd : dI64 l[k] with
      | some y =>
        refine W.seq fun K18 hK18 => ?_
        refine W.region ?_
        refine SeqOps.put 29 rfl rfl rfl (O.cmp (a := (k : Int)) (b := (l.length : Int)) (r := true) rfl rfl rfl (by simp [cmpI]; omega) ?_)
        refine SeqOps.nil ?_
        refine hK18 _ _ ?_
        try clear hK18 K18
        refine W.seq fun K19 hK19 => ?_
        refine W.cond_true rfl ?_
        refine W.skip ?_
        refine hK19 _ _ ?_
        try clear hK19 K19
        refine W.seq fun K20 hK20 => ?_
        refine W.block ?_
        refine W.seq fun K21 hK21 => ?_
        refine W.region ?_
        refine SeqOps.put 30 rfl rfl rfl (O.indexAddr (a := ad) (len := l.length) (cap := cap) (i := (k : Int)) (sz := 1) (v := .pointer (some (ad.add k))) rfl rfl rfl Tryz.underlying133 sz22 (by omega) (by omega) (by simp) ?_)
        refine SeqOps.put 31 rfl rfl rfl (O.loadOne (a := ad.add k) (v := .slice ao2 l[k].length cap2) rfl rfl Tryz.underlying22 rfl (nk.st.agr.cell hcel) ?_)
        refine SeqOps.put 9 rfl rfl rfl (O.assign (v := (.slice ao2 l[k].length cap2)) rfl rfl ?_)
        refine SeqOps.nil ?_
        refine hK21 _ _ ?_
        try clear hK21 K21
        refine W.seq fun K22 hK22 => ?_
        refine W.region ?_
        refine SeqOps.put 33 rfl rfl rfl (O.move (v := (.func (.func 108) #[] #[])) rfl rfl ?_)
        refine SeqOps.put 34 rfl rfl rfl (O.move (v := (.slice ao2 l[k].length cap2)) rfl rfl ?_)
        refine SeqOps.put 35 rfl rfl rfl (O.call (fid := 108) (cap := #[]) (args := [(.slice ao2 l[k].length cap2)]) rfl rfl rfl Tryz.func108 rfl rfl ?_)
        refine Calls.mono (read_i64_calls (a := a) hLM hGM (hel.mono (Hm.right _ _)) (by omega)) ?_
        rintro e w5 hret
        obtain ⟨N5, v5, rfl, n5, hwf, hph⟩ := RetRd.good hd hret
        have n6 := nk.trans n5 (fun i hi => hi.elim)
        have hp6 := hp.new n5
        rw [Hm.assoc] at hp6
        have hM6 : Hm M N5 bp = none := Hm.none hM (by rw [n5.st.low bp hp.lt])
        have own6 : Own (Hm M N5) w5 w.heap.size 3 1 out k (List.flatten css) := (own.ext n5.st.chg).heap fun j hj => Hm.none (own.out j hj) (by rw [n5.st.low j (own.base hj).2])
        have hle6 : Hle M (Hm M N5) := nk.le1 n5
        obtain ⟨rfl, hrng⟩ := hph
        have hcat : catV [.int .i64 y] = [.int .i64 y] := rfl
        refine ⟨_, rfl, ?_⟩
        refine SeqOps.put 32 rfl rfl rfl (O.move (v := (.tuple #[(.int .i64 (y)), .nilIface])) rfl rfl ?_)
        refine SeqOps.put 36 rfl rfl rfl (O.extract (v := (.int .i64 (y))) rfl rfl rfl ?_)
        refine SeqOps.put 37 rfl rfl rfl (O.extract (v := .nilIface) rfl rfl rfl ?_)
        refine SeqOps.put 10 rfl rfl rfl (O.assign (v := (.int .i64 (y))) rfl rfl ?_)
        refine SeqOps.put 11 rfl rfl rfl (O.assign (v := .nilIface) rfl rfl ?_)
        refine SeqOps.nil ?_
        refine hK22 _ _ ?_
        try clear hK22 K22
        refine W.seq fun K23 hK23 => ?_
        refine W.seq fun K24 hK24 => ?_
        refine W.region ?_
        refine SeqOps.put 38 rfl rfl rfl (O.move (v := .nilIface) rfl rfl ?_)
        refine SeqOps.put 39 rfl rfl rfl (O.ifaceNil (v := .nilIface) (r := false) rfl rfl (.inl rfl) Tryz.underlying162 (.inr ⟨rfl, rfl⟩) ?_)
        refine SeqOps.nil ?_
        refine hK24 _ _ ?_
        try clear hK24 K24
        refine W.cond_false rfl ?_
        refine W.skip ?_
        refine hK23 _ _ ?_
        try clear hK23 K23
        refine W.region ?_
        refine SeqOps.put 46 rfl rfl rfl (O.move (v := out) rfl rfl ?_)
        refine SeqOps.put 47 rfl rfl rfl (O.move (v := (.int .i64 (y))) rfl rfl ?_)
        refine SeqOps.put 48 rfl rfl rfl (O.buildSlice (vs := [(.int .i64 (y))]) rfl rfl rfl Tryz.underlying40 inf3 (by intro u hu; simp at hu; subst hu; rfl) (by decide) ?_)
        intro b9 w9 hb9 hb91 hE9 hk9
        have hcat : catV [(.int .i64 (y))] = [.int .i64 y] := by simp [catV, Value.cells]
        rw [hcat] at hk9
        have own9 := own6.ext hE9
        have n9 := n6.new hE9
        refine SeqOps.put 49 rfl rfl rfl (O.append (B := w.heap.size) (v := out) (vx := .slice (some ⟨b9, 0, none⟩) 1 1) (m := 1) (xs := List.flatten css) (news := [.int .i64 y]) rfl rfl rfl Tryz.underlying40 inf3 rfl own9 (Own.ofBlk (H := fun _ => none) (B := 0) (s := 1) (xs := [.int .i64 y]) hk9 (Nat.zero_le _) rfl rfl (by decide) (one_of rfl)).rsw rfl (by omega) (by omega) n9.st.chg.size n9.st.agr ?_)
        intro o10 w10 own10 hC10
        refine SeqOps.put 7 rfl rfl rfl (O.assign (v := o10) rfl rfl ?_)
        refine SeqOps.nil ?_
        refine hK20 _ _ ?_
        try clear hK20 K20
        refine W.region ?_
        refine SeqOps.put 50 rfl rfl rfl (O.arith (a := (k : Int)) (b := 1) (r := (k : Int) + 1) (c := (k : Int) + 1) rfl rfl rfl rfl (by exact wrap_i64 (by omega) (by omega)) ?_)
        refine SeqOps.put 28 rfl rfl rfl (O.move (v := (.int .i64 ((k : Int) + 1))) rfl rfl ?_)
        refine SeqOps.nil ?_
        have n10 := n9.step hC10 (fun i hi => ⟨.inl (own9.base hi).1, own9.out i hi⟩)
        have hp10 := (hp6.ext hE9).chg hC10 (fun i hi => ⟨by have := (own9.base hi).1; omega, h0L (own9.base hi).1, Hm.none (h0N (own9.base hi).1) (own9.out i hi)⟩)
        refine ⟨⟨_, _, o10, css ++ [[.int .i64 y]], k + 1, rfl, by omega, n10, hM6, hp10, hl.mono hle6, by simpa using own10, ?_, ?_, fun ys hy => ?_⟩, by show l.length - ((k + 1 : Nat) : Int).toNat < l.length - ((k : Nat) : Int).toNat; omega⟩
        · intro cs hcs'; rcases List.mem_append.1 hcs' with h' | h'
          · exact hcs cs h'
          · simp at h'; subst h'; rfl
        · rw [hokk, htk, mapO_snoc, hd]; cases mapO dI64 (l.take k) <;> rfl
        · rw [htk, mapO_snoc, hd] at hy
          cases hm : mapO dI64 (l.take k) with
          | none => rw [hm] at hy; cases hy
          | some zs =>
            rw [hm] at hy; simp at hy; subst hy
            exact ((hall zs hm).imp fun _ _ hc => hc).snoc ⟨rfl, hrng⟩
      | none =>
        refine W.seq fun K25 hK25 => ?_
        refine W.region ?_
        refine SeqOps.put 29 rfl rfl rfl (O.cmp (a := (k : Int)) (b := (l.length : Int)) (r := true) rfl rfl rfl (by simp [cmpI]; omega) ?_)
        refine SeqOps.nil ?_
        refine hK25 _ _ ?_
        try clear hK25 K25
        refine W.seq fun K26 hK26 => ?_
        refine W.cond_true rfl ?_
        refine W.skip ?_
        refine hK26 _ _ ?_
        try clear hK26 K26
        refine W.seq fun K27 hK27 => ?_
        refine W.block ?_
        refine W.seq fun K28 hK28 => ?_
        refine W.region ?_
        refine SeqOps.put 30 rfl rfl rfl (O.indexAddr (a := ad) (len := l.length) (cap := cap) (i := (k : Int)) (sz := 1) (v := .pointer (some (ad.add k))) rfl rfl rfl Tryz.underlying133 sz22 (by omega) (by omega) (by simp) ?_)
        refine SeqOps.put 31 rfl rfl rfl (O.loadOne (a := ad.add k) (v := .slice ao2 l[k].length cap2) rfl rfl Tryz.underlying22 rfl (nk.st.agr.cell hcel) ?_)
        refine SeqOps.put 9 rfl rfl rfl (O.assign (v := (.slice ao2 l[k].length cap2)) rfl rfl ?_)
        refine SeqOps.nil ?_
        refine hK28 _ _ ?_
        try clear hK28 K28
        refine W.seq fun K29 hK29 => ?_
        refine W.region ?_
        refine SeqOps.put 33 rfl rfl rfl (O.move (v := (.func (.func 108) #[] #[])) rfl rfl ?_)
        refine SeqOps.put 34 rfl rfl rfl (O.move (v := (.slice ao2 l[k].length cap2)) rfl rfl ?_)
        refine SeqOps.put 35 rfl rfl rfl (O.call (fid := 108) (cap := #[]) (args := [(.slice ao2 l[k].length cap2)]) rfl rfl rfl Tryz.func108 rfl rfl ?_)
        refine Calls.mono (read_i64_calls (a := a) hLM hGM (hel.mono (Hm.right _ _)) (by omega)) ?_
        rintro e w5 hret
        obtain ⟨N5, v5, be, rfl, n5, hwf, her⟩ := RetRd.bad hd hret
        have n6 := nk.trans n5 (fun i hi => hi.elim)
        have hp6 := hp.new n5
        rw [Hm.assoc] at hp6
        have hM6 : Hm M N5 bp = none := Hm.none hM (by rw [n5.st.low bp hp.lt])
        have own6 : Own (Hm M N5) w5 w.heap.size 3 1 out k (List.flatten css) := (own.ext n5.st.chg).heap fun j hj => Hm.none (own.out j hj) (by rw [n5.st.low j (own.base hj).2])
        have hle6 : Hle M (Hm M N5) := nk.le1 n5
        obtain ⟨y, rfl⟩ := hwf
        refine ⟨_, rfl, ?_⟩
        refine SeqOps.put 32 rfl rfl rfl (O.move (v := (.tuple #[(.int .i64 (y)), (.iface 160 (.pointer (some ⟨be, 0, none⟩)))])) rfl rfl ?_)
        refine SeqOps.put 36 rfl rfl rfl (O.extract (v := (.int .i64 (y))) rfl rfl rfl ?_)
        refine SeqOps.put 37 rfl rfl rfl (O.extract (v := (.iface 160 (.pointer (some ⟨be, 0, none⟩)))) rfl rfl rfl ?_)
        refine SeqOps.put 10 rfl rfl rfl (O.assign (v := (.int .i64 (y))) rfl rfl ?_)
        refine SeqOps.put 11 rfl rfl rfl (O.assign (v := (.iface 160 (.pointer (some ⟨be, 0, none⟩)))) rfl rfl ?_)
        refine SeqOps.nil ?_
        refine hK29 _ _ ?_
        try clear hK29 K29
        refine W.seq fun K30 hK30 => ?_
        refine W.seq fun K31 hK31 => ?_
        refine W.region ?_
        refine SeqOps.put 38 rfl rfl rfl (O.move (v := (.iface 160 (.pointer (some ⟨be, 0, none⟩)))) rfl rfl ?_)
        refine SeqOps.put 39 rfl rfl rfl (O.ifaceNil (v := (.iface 160 (.pointer (some ⟨be, 0, none⟩)))) (r := true) rfl rfl (.inr ⟨_, _, rfl⟩) Tryz.underlying162 (.inr ⟨rfl, rfl⟩) ?_)
        refine SeqOps.nil ?_
        refine hK31 _ _ ?_
        try clear hK31 K31
        refine W.cond_true rfl ?_
        refine W.region ?_
        refine SeqOps.put 40 rfl rfl rfl (O.move (v := (.pointer (some ⟨bp, 0, none⟩))) rfl rfl ?_)
        refine SeqOps.put 41 rfl rfl rfl (O.move (v := (.iface 160 (.pointer (some ⟨be, 0, none⟩)))) rfl rfl ?_)
        refine SeqOps.put 42 rfl rfl rfl (O.build (vps := [(0, (strOf [105, 110, 32, 97, 32, 108, 105, 115, 116])), (1, (.iface 160 (.pointer (some ⟨be, 0, none⟩))))]) (cells := [(strOf [105, 110, 32, 97, 32, 108, 105, 115, 116]), (.iface 160 (.pointer (some ⟨be, 0, none⟩)))]) rfl rfl (by kernel_rfl) ?_)
        refine SeqOps.put 43 rfl rfl rfl (O.box (v := (.agg (List.toArray ([(strOf [105, 110, 32, 97, 32, 108, 105, 115, 116]), (.iface 160 (.pointer (some ⟨be, 0, none⟩)))])))) rfl rfl ?_)
        intro b7 w7 hb7 hb7l hEw7 hkb7
        obtain ⟨h7, hN7, e7⟩ := hp6.wrong hEw7 hb7 hkb7
        refine SeqOps.put 44 rfl rfl rfl (O.makeIface (v := (.pointer (some ⟨b7, 0, none⟩))) rfl rfl Tryz.underlying160 rfl ?_)
        refine SeqOps.put 45 rfl rfl rfl (O.call (fid := 126) (cap := #[]) (args := [(.pointer (some ⟨bp, 0, none⟩)), (.iface 160 (.pointer (some ⟨b7, 0, none⟩)))]) rfl rfl rfl Tryz.func126 rfl rfl ?_)
        refine Calls.mono (bad_calls h7 (.wrap (Hadd_same _ _ _) (her.mono (Hle.trans (Hm.right M N5) (Hle.trans (Hm.right N _) (Hle.add _ (hp6.agrN.none hb7))))))) ?_
        rintro e w8 ⟨rfl, h8, hC8⟩
        have hlt6 := hp6.lt
        have hM7 : Hm (Hm M N5) (Hadd NH b7 (Obj.cells ((.agg (List.toArray ([(strOf [105, 110, 32, 97, 32, 108, 105, 115, 116]), (.iface 160 (.pointer (some ⟨be, 0, none⟩)))]))) : Value).cells 164 (0, 0))) bp = none := Hm.none hM6 (by rw [Hadd_ne _ _ (by omega)])
        have n8 := (n6.trans hN7 (fun i hi => hi.elim)).step hC8 (fun i hi => ⟨.inr hi, by subst hi; exact hM7⟩)
        rw [← e7, Hm.assoc] at h8
        have own8 : Own (Hm (Hm M N5) (Hadd NH b7 (Obj.cells ((.agg (List.toArray ([(strOf [105, 110, 32, 97, 32, 108, 105, 115, 116]), (.iface 160 (.pointer (some ⟨be, 0, none⟩)))]))) : Value).cells 164 (0, 0)))) w8 w.heap.size 3 1 out k (List.flatten css) := ((own6.ext hEw7).chg hC8 fun j hj e => by subst e; have := (own6.base hj).1; omega).heap fun j hj => Hm.none (own6.out j hj) (by have := (own6.base hj).2; rw [Hadd_ne _ _ (by omega)])
        have hle8 : Hle M (Hm (Hm M N5) (Hadd NH b7 (Obj.cells ((.agg (List.toArray ([(strOf [105, 110, 32, 97, 32, 108, 105, 115, 116]), (.iface 160 (.pointer (some ⟨be, 0, none⟩)))]))) : Value).cells 164 (0, 0)))) := hle6.trans (n6.le1 hN7)
        refine ⟨_, rfl, ?_⟩
        refine SeqOps.nil ?_
        refine hK30 _ _ ?_
        try clear hK30 K30
        refine W.region ?_
        refine SeqOps.put 46 rfl rfl rfl (O.move (v := out) rfl rfl ?_)
        refine SeqOps.put 47 rfl rfl rfl (O.move (v := (.int .i64 (y))) rfl rfl ?_)
        refine SeqOps.put 48 rfl rfl rfl (O.buildSlice (vs := [(.int .i64 (y))]) rfl rfl rfl Tryz.underlying40 inf3 (by intro u hu; simp at hu; subst hu; rfl) (by decide) ?_)
        intro b9 w9 hb9 hb91 hE9 hk9
        have hcat : catV [(.int .i64 (y))] = [.int .i64 y] := by simp [catV, Value.cells]
        rw [hcat] at hk9
        have own9 := own8.ext hE9
        have n9 := n8.new hE9
        refine SeqOps.put 49 rfl rfl rfl (O.append (B := w.heap.size) (v := out) (vx := .slice (some ⟨b9, 0, none⟩) 1 1) (m := 1) (xs := List.flatten css) (news := [.int .i64 y]) rfl rfl rfl Tryz.underlying40 inf3 rfl own9 (Own.ofBlk (H := fun _ => none) (B := 0) (s := 1) (xs := [.int .i64 y]) hk9 (Nat.zero_le _) rfl rfl (by decide) (one_of rfl)).rsw rfl (by omega) (by omega) n9.st.chg.size n9.st.agr ?_)
        intro o10 w10 own10 hC10
        refine SeqOps.put 7 rfl rfl rfl (O.assign (v := o10) rfl rfl ?_)
        refine SeqOps.nil ?_
        refine hK27 _ _ ?_
        try clear hK27 K27
        refine W.region ?_
        refine SeqOps.put 50 rfl rfl rfl (O.arith (a := (k : Int)) (b := 1) (r := (k : Int) + 1) (c := (k : Int) + 1) rfl rfl rfl rfl (by exact wrap_i64 (by omega) (by omega)) ?_)
        refine SeqOps.put 28 rfl rfl rfl (O.move (v := (.int .i64 ((k : Int) + 1))) rfl rfl ?_)
        refine SeqOps.nil ?_
        have n10 := n9.step hC10 (fun i hi => ⟨.inl (own9.base hi).1, own9.out i hi⟩)
        have hp10 := (h8.ext hE9).chg hC10 (fun i hi => ⟨by have := (own9.base hi).1; omega, h0L (own9.base hi).1, Hm.none (h0N (own9.base hi).1) (own9.out i hi)⟩)
        refine ⟨⟨_, _, o10, css ++ [[.int .i64 y]], k + 1, rfl, by omega, n10, hM7, hp10, hl.mono hle8, by simpa using own10, ?_, ?_, fun ys hy => ?_⟩, by show l.length - ((k + 1 : Nat) : Int).toNat < l.length - ((k : Nat) : Int).toNat; omega⟩
        · intro cs hcs'; rcases List.mem_append.1 hcs' with h' | h'
          · exact hcs cs h'
          · simp at h'; subst h'; rfl
        · rw [htk, mapO_snoc, hd]; cases mapO dI64 (l.take k) <;> simp
        · rw [htk, mapO_snoc, hd] at hy; cases mapO dI64 (l.take k) <;> simp at hy
    have hkl : k = l.length := by omega
    refine W.seq fun K32 hK32 => ?_
    refine W.region ?_
    refine SeqOps.put 29 rfl rfl rfl (O.cmp (a := (k : Int)) (b := (l.length : Int)) (r := false) rfl rfl rfl (by simp [cmpI]; omega) ?_)
    refine SeqOps.nil ?_
    refine hK32 _ _ ?_
    try clear hK32 K32
    refine W.seq fun K33 hK33 => ?_
    refine W.cond_false rfl ?_
    refine W.exit ?_
    refine hK16 _ _ ?_
    try clear hK16 K16
    refine W.seq fun K34 hK34 => ?_
    refine W.region ?_
    refine SeqOps.put 51 rfl rfl rfl (O.move (v := out) rfl rfl ?_)
    refine SeqOps.put 4 rfl rfl rfl (O.assign (v := out) rfl rfl ?_)
    refine SeqOps.nil ?_
    refine hK34 _ _ ?_
    try clear hK34 K34
    refine W.ret ?_
    subst hkl
    rw [List.take_length] at hokk hall
    obtain ⟨M2, hle2, n2, hsame, rs2⟩ := own.join nk (Nat.le_refl _)
    have hM2 : M2 bp = none := by rw [hsame bp fun e => by have := (own.base e).1; omega]; exact hM
    have hdl : dList dI64 b = mapO dI64 l := by unfold dList; rw [hsp]; rfl
    obtain ⟨aof, capf, hof⟩ := rs2.form
    refine retQ_one rfl rfl ⟨M2, out, rfl, n2, hM2, ?_, ⟨_, _, _, hof⟩, fun ys hy => ?_⟩
    · rw [hdl, ← hokk]
      obtain ⟨lv, ev, hblk, hrb, hev⟩ := hp.blk
      refine h.next n2 hM2 ⟨lv, ev, hblk, hrb, hev.imp id fun ⟨e1, e2⟩ => ⟨e1, e2.mono ?_⟩⟩
      intro j o ho; unfold Hm at ho ⊢
      cases hj : M j with
      | some o' => rw [hj] at ho; rw [hle2 j o' hj]; exact ho
      | none =>
        rw [hj] at ho
        have hno := h.agrN.lt ho
        rw [show M2 j = none by rw [n2.st.low j hno]]; exact ho
    · rw [hdl] at hy
      have h2 := hall ys hy
      refine ⟨css, h2.imp fun _ _ hc => hc, hcs, ?_⟩
      have hlen2 := mapO_length hy
      rw [hlen2]; exact rs2

theorem read_ints_calls {a : Addr} {H : Heap} {w : World} {v : Value} {bs : List UInt8} (hA : Agr H w) (hG : hcell H ⟨1, 0, none⟩ = some (eS a)) (r : RB H v bs) (hlen : bs.length ≤ 1099511627776) :
    Calls Tryz.prog 110 #[v] w (RetRd a dInts wfS phS w bs) := by
  obtain ⟨ao, cap, rfl⟩ := RS.form r
  refine calls_of_W (n := 17) Tryz.func110 rfl Tryz.ntmps110 (Nat.le_of_ble_eq_true rfl) ?_
  refine W.seq fun K1 hK1 => ?_
  refine W.region ?_
  refine SeqOps.put 2 rfl rfl rfl (O.assign (v := (.slice none 0 0)) rfl rfl ?_)
  refine SeqOps.put 3 rfl rfl rfl (O.assign (v := .nilIface) rfl rfl ?_)
  refine SeqOps.nil ?_
  refine hK1 _ _ ?_
  try clear hK1 K1
  refine W.seq fun K2 hK2 => ?_
  refine W.region ?_
  refine SeqOps.put 6 rfl rfl rfl (O.move (v := (.slice ao bs.length cap)) rfl rfl ?_)
  refine SeqOps.put 7 rfl rfl rfl (O.buildSlice (vs := [.slice ao bs.length cap]) rfl rfl rfl Tryz.underlying133 inf22 (by intro u hu; simp at hu; subst hu; rfl) (by decide) ?_)
  intro b1 w1 hb1 hb11 hE1 hk1
  refine SeqOps.put 8 rfl rfl rfl (O.build (vps := [(0, .slice (some ⟨b1, 0, none⟩) 1 1)]) (cells := [.slice (some ⟨b1, 0, none⟩) 1 1, .nilIface]) rfl rfl (by kernel_rfl) ?_)
  refine SeqOps.put 9 rfl rfl rfl (O.box (v := (.agg (List.toArray ([.slice (some ⟨b1, 0, none⟩) 1 1, .nilIface])))) rfl rfl ?_)
  intro bp w2 hbp hbp1 hE2 hkp
  have own1 : Own NH w1 w.heap.size 22 1 (.slice (some ⟨b1, 0, none⟩) 1 1) 1 [.slice ao bs.length cap] := Own.ofBlk hk1 hb1 rfl rfl (by decide) (one_of rfl)
  obtain ⟨N, _, n1, hsame, rs1⟩ := own1.join ((New.start w NoX).new hE1) (Nat.le_refl _)
  have n2 := n1.new hE2
  have hNp : N bp = none := n1.st.agr.none hbp
  have hHp : H bp = none := (Ext.agr hE1 hA).none hbp
  have hps : PS a (Hm H N) N w2 bp [bs] true := ⟨⟨_, _, hkp, ⟨[.slice ao bs.length cap], .cons (r.mono (Hm.left hA n1)) .nil, rs1.mono (Hm.right _ _)⟩, .inl ⟨rfl, rfl⟩⟩, Hm.agr (Ext.agr hE2 (Ext.agr hE1 hA)) n2.st.agr, n2.st.agr, Hm.none hHp hNp, hNp, (Hm.left hA n1).cell hG⟩
  refine SeqOps.put 4 rfl rfl rfl (O.assign (v := (.pointer (some ⟨bp, 0, none⟩))) rfl rfl ?_)
  refine SeqOps.nil ?_
  refine hK2 _ _ ?_
  try clear hK2 K2
  refine W.seq fun K3 hK3 => ?_
  refine W.region ?_
  refine SeqOps.put 10 rfl rfl rfl (O.move (v := (.pointer (some ⟨bp, 0, none⟩))) rfl rfl ?_)
  refine SeqOps.put 11 rfl rfl rfl (O.call (fid := 107) (cap := #[]) (args := [(.pointer (some ⟨bp, 0, none⟩)), (.func (.func 108) #[] #[])]) rfl rfl rfl Tryz.func107 rfl rfl ?_)
  refine Calls.mono (all_i64_calls hps hlen) ?_
  rintro e w3 ⟨M, v3, rfl, n3, hM3, hp3, ⟨ao3, nn3, cap3, rfl⟩, hy⟩
  refine ⟨_, rfl, ?_⟩
  refine SeqOps.put 5 rfl rfl rfl (O.assign (v := (.slice ao3 nn3 cap3)) rfl rfl ?_)
  refine SeqOps.nil ?_
  refine hK3 _ _ ?_
  try clear hK3 K3
  refine W.seq fun K4 hK4 => ?_
  obtain ⟨lv, ev, hkp, hevf, hev⟩ := hp3.final
  refine W.region_any (by kernel_rfl) (by kernel_rfl) [12, 13, 14, 15, 16, 2, 3] rfl (fun a b => Ext a b) (fun _ => Chg.refl _ _) (fun h k => Chg.trans h k) [
      (fun (u : Value) (_ : World) => u = Value.slice ao3 nn3 cap3),
      (fun (u : Value) (_ : World) => u = Value.pointer (some ⟨bp, 0, none⟩)),
      (fun (u : Value) (_ : World) => u = Value.pointer (some ⟨bp, 0, none⟩)),
      (fun (u : Value) (_ : World) => u = Value.pointer (some ⟨bp, 1, none⟩)),
      (fun (u : Value) (_ : World) => u = ev),
      (fun (u : Value) (_ : World) => u = Value.slice ao3 nn3 cap3),
      (fun (u : Value) (_ : World) => u = ev)
    ] ⟨fun _ _ _ _ h => h, fun _ _ _ _ h => h, fun _ _ _ _ h => h, fun _ _ _ _ h => h, fun _ _ _ _ h => h, fun _ _ _ _ h => h, fun _ _ _ _ h => h, trivial⟩ ⟨?_, ?_, ?_, ?_, ?_, ?_, ?_, trivial⟩ ?_
  · intro g w1 hR hf hd
    have h1 : g 5 = Value.slice ao3 nn3 cap3 := hf 5 (by decide)
    exact StepT.plain rfl (O.move (v := Value.slice ao3 nn3 cap3) rfl h1 ⟨Chg.refl _ _, rfl⟩)
  · intro g w1 hR hf hd
    have h1 : g 4 = Value.pointer (some ⟨bp, 0, none⟩) := hf 4 (by decide)
    exact StepT.plain rfl (O.move (v := Value.pointer (some ⟨bp, 0, none⟩)) rfl h1 ⟨Chg.refl _ _, rfl⟩)
  · intro g w1 hR hf hd
    have h1 : (fun (u : Value) (_ : World) => u = Value.pointer (some ⟨bp, 0, none⟩)) (g 13) w1 := hd.1 rfl
    exact StepT.plain rfl (O.nilCheckPtr (a := ⟨bp, 0, none⟩) rfl h1 ⟨Chg.refl _ _, rfl⟩)
  · intro g w1 hR hf hd
    have h1 : (fun (u : Value) (_ : World) => u = Value.pointer (some ⟨bp, 0, none⟩)) (g 14) w1 := hd.1 rfl
    exact StepT.plain rfl (O.fieldAddr (a := ⟨bp, 0, none⟩) (v := Value.pointer (some ⟨bp, 1, none⟩)) rfl h1 Tryz.underlying177 rfl (by kernel_rfl) rfl ⟨Chg.refl _ _, rfl⟩)
  · intro g w1 hR hf hd
    have h1 : (fun (u : Value) (_ : World) => u = Value.pointer (some ⟨bp, 1, none⟩)) (g 15) w1 := hd.1 rfl
    have hb1 := Chg.blk hR (show w3.drew.heap[bp]? = _ from hkp) (fun h => h)
    exact StepT.plain rfl (O.loadBlk1 (b := bp) (off := 1) (v := ev) rfl h1 hb1 Tryz.underlying162 rfl rfl ⟨Chg.refl _ _, rfl⟩)
  · intro g w1 hR hf hd
    have h1 : (fun (u : Value) (_ : World) => u = Value.slice ao3 nn3 cap3) (g 12) w1 := hd.1 rfl
    exact StepT.plain rfl (O.assign (v := Value.slice ao3 nn3 cap3) rfl h1 ⟨Chg.refl _ _, rfl⟩)
  · intro g w1 hR hf hd
    have h1 : g 16 = ev := hd.1 rfl
    exact StepT.plain rfl (O.assign (v := ev) rfl h1 ⟨Chg.refl _ _, rfl⟩)
  intro g w9 hR hf hall
  have hf5 := hall.2.2.2.2.2.1
  have hf6 := hall.2.2.2.2.2.2.1
  refine hK4 _ _ ?_
  try clear hK4 K4
  refine W.ret ?_
  have hE9 : Ext w3 w9 := (Ext.drew w3).trans hR
  have n9 := (n2.trans n3 (fun i hi => ⟨.inl (by subst hi; have := hE1.size; omega), by subst hi; exact hNp⟩)).new hE9
  refine retQ_two rfl hf5 hf6 ⟨_, _, _, rfl, n9, ⟨_, _, _, rfl⟩, ?_⟩
  cases hd : dList dI64 bs with
  | some z =>
    rw [hd] at hev
    rcases hev with ⟨_, rfl⟩ | ⟨e, _⟩
    · exact .inl ⟨z, hd, rfl, RInts.mono (hy z hd) (Hm.right _ _)⟩
    · cases e
  | none =>
    rw [hd] at hev
    rcases hev with ⟨e, _⟩ | ⟨_, he⟩
    · cases e
    · exact .inr ⟨hd, he⟩

theorem all_ints_calls {a : Addr} {HL N : Heap} {w : World} {bp : Nat} {b : List UInt8} {rem : List (List UInt8)} {ok : Bool} (h : PS a HL N w bp (b :: rem) ok) (hlen : b.length ≤ 1099511627776) :
    Calls Tryz.prog 109 #[.pointer (some ⟨bp, 0, none⟩), .func (.func 110) #[] #[]] w (RetP a HL N w bp rem (ok && (dList dInts b).isSome) (fun M v => (∃ ao n cap, v = .slice ao n cap) ∧ ∀ ys, dList dInts b = some ys → RL 1 cInts M v ys)) := by
  have hlt0 := h.lt
  have h0L : ∀ {k}, w.heap.size ≤ k → HL k = none := fun hk => h.agrL.none hk
  have h0N : ∀ {k}, w.heap.size ≤ k → N k = none := fun hk => h.agrN.none hk
  cases hsp : split b with
  | none =>
    refine calls_of_W (n := 52) Tryz.func109 rfl Tryz.ntmps109 (Nat.le_of_ble_eq_true rfl) ?_
    refine W.seq fun K1 hK1 => ?_
    refine W.region ?_
    refine SeqOps.put 4 rfl rfl rfl (O.assign (v := (.slice none 0 0)) rfl rfl ?_)
    refine SeqOps.nil ?_
    refine hK1 _ _ ?_
    try clear hK1 K1
    refine W.seq fun K2 hK2 => ?_
    refine W.region ?_
    refine SeqOps.put 13 rfl rfl rfl (O.move (v := (.pointer (some ⟨bp, 0, none⟩))) rfl rfl ?_)
    refine SeqOps.put 14 rfl rfl rfl (O.call (fid := 125) (cap := #[]) (args := [(.pointer (some ⟨bp, 0, none⟩))]) rfl rfl rfl Tryz.func125 rfl rfl ?_)
    refine Calls.mono (next_calls h) ?_
    rintro e w1 ⟨v1, rfl, hr, h1, hC1⟩
    refine ⟨_, rfl, ?_⟩
    refine SeqOps.put 15 rfl rfl rfl (O.call (fid := 123) (cap := #[]) (args := [v1]) rfl rfl rfl Tryz.func123 rfl rfl ?_)
    refine Calls.mono (Split_calls h1.agrL hr hlen) ?_
    rintro e w2 ⟨M, v2, st, hres⟩
    obtain ⟨rfl, rfl⟩ : v2 = .slice none 0 0 ∧ e = .returned (.tuple #[v2, .bool false]) := by rcases hres with ⟨l, h1, _⟩ | ⟨_, h2, h3⟩ <;> first | exact ⟨h2, h3⟩ | (rw [hsp] at h1; cases h1; done)
    have n2 := (New.ofChg hC1).trans st (fun i hi => hi.elim)
    rw [Hm.nilL] at n2
    have hM : M bp = none := by rw [st.st.low bp h1.lt]
    replace h1 := h1.new st
    refine ⟨_, rfl, ?_⟩
    refine SeqOps.put 12 rfl rfl rfl (O.move (v := (.tuple #[(.slice none 0 0), (.bool (false))])) rfl rfl ?_)
    refine SeqOps.put 16 rfl rfl rfl (O.extract (v := (.slice none 0 0)) rfl rfl rfl ?_)
    refine SeqOps.put 17 rfl rfl rfl (O.extract (v := (.bool (false))) rfl rfl rfl ?_)
    refine SeqOps.put 5 rfl rfl rfl (O.assign (v := (.slice none 0 0)) rfl rfl ?_)
    refine SeqOps.put 6 rfl rfl rfl (O.assign (v := (.bool (false))) rfl rfl ?_)
    refine SeqOps.nil ?_
    refine hK2 _ _ ?_
    try clear hK2 K2
    refine W.seq fun K3 hK3 => ?_
    refine W.seq fun K4 hK4 => ?_
    refine W.region ?_
    refine SeqOps.put 18 rfl rfl rfl (O.move (v := (.bool (false))) rfl rfl ?_)
    refine SeqOps.put 19 rfl rfl rfl (O.not (b := false) rfl rfl ?_)
    refine SeqOps.nil ?_
    refine hK4 _ _ ?_
    try clear hK4 K4
    refine W.cond_true rfl ?_
    refine W.region ?_
    refine SeqOps.put 20 rfl rfl rfl (O.move (v := (.pointer (some ⟨bp, 0, none⟩))) rfl rfl ?_)
    refine SeqOps.put 21 rfl rfl rfl (O.loadOne (a := ⟨1, 0, none⟩) (v := eS a) rfl rfl Tryz.underlying162 rfl (h1.agrL.cell h1.glob) ?_)
    refine SeqOps.put 22 rfl rfl rfl (O.build (vps := [(0, (strOf [97, 32, 108, 105, 115, 116])), (1, (eS a))]) (cells := [(strOf [97, 32, 108, 105, 115, 116]), (eS a)]) rfl rfl (by kernel_rfl) ?_)
    refine SeqOps.put 23 rfl rfl rfl (O.box (v := (.agg (List.toArray ([(strOf [97, 32, 108, 105, 115, 116]), (eS a)])))) rfl rfl ?_)
    intro b3 w3 hb3 hb3l hEw3 hkb3
    obtain ⟨h3, hN3, e3⟩ := h1.wrong hEw3 hb3 hkb3
    refine SeqOps.put 24 rfl rfl rfl (O.makeIface (v := (.pointer (some ⟨b3, 0, none⟩))) rfl rfl Tryz.underlying160 rfl ?_)
    refine SeqOps.put 25 rfl rfl rfl (O.call (fid := 126) (cap := #[]) (args := [(.pointer (some ⟨bp, 0, none⟩)), (.iface 160 (.pointer (some ⟨b3, 0, none⟩)))]) rfl rfl rfl Tryz.func126 rfl rfl ?_)
    refine Calls.mono (bad_calls h3 (.base (Hadd_same _ _ _))) ?_
    rintro e w4 ⟨rfl, h4, hC4⟩
    refine ⟨_, rfl, ?_⟩
    refine SeqOps.nil ?_
    refine hK3 _ _ ?_
    try clear hK3 K3
    refine W.seq fun K5 hK5 => ?_
    refine W.region ?_
    refine SeqOps.put 7 rfl rfl rfl (O.assign (v := (.slice none 0 0)) rfl rfl ?_)
    refine SeqOps.nil ?_
    refine hK5 _ _ ?_
    try clear hK5 K5
    refine W.seq fun K6 hK6 => ?_
    refine W.seq fun K7 hK7 => ?_
    refine W.region ?_
    refine SeqOps.put 26 rfl rfl rfl (O.move (v := (.slice none 0 0)) rfl rfl ?_)
    refine SeqOps.put 27 rfl rfl rfl (O.lenSlice (ad := none) (n := 0) (c := 0) rfl rfl Tryz.underlying133 ?_)
    refine SeqOps.put 28 rfl rfl rfl (O.move (v := (.int .i64 (0))) rfl rfl ?_)
    refine SeqOps.nil ?_
    refine hK7 _ _ ?_
    try clear hK7 K7
    refine W.block ?_
    refine W.loop [7, 26, 27, 28] (fun vals wk => vals = [.slice none 0 0, .slice none 0 0, .int .i64 0, .int .i64 0] ∧ w4 = wk) (fun _ _ => 0) ⟨rfl, rfl⟩ ?_
    rintro g _ wk ⟨rfl, rfl⟩
    refine W.seq fun K8 hK8 => ?_
    refine W.region ?_
    refine SeqOps.put 29 rfl rfl rfl (O.cmp (a := 0) (b := 0) (r := false) rfl rfl rfl (rfl) ?_)
    refine SeqOps.nil ?_
    refine hK8 _ _ ?_
    try clear hK8 K8
    refine W.seq fun K9 hK9 => ?_
    refine W.cond_false rfl ?_
    refine W.exit ?_
    refine hK6 _ _ ?_
    try clear hK6 K6
    refine W.seq fun K10 hK10 => ?_
    refine W.region ?_
    refine SeqOps.put 51 rfl rfl rfl (O.move (v := (.slice none 0 0)) rfl rfl ?_)
    refine SeqOps.put 4 rfl rfl rfl (O.assign (v := (.slice none 0 0)) rfl rfl ?_)
    refine SeqOps.nil ?_
    refine hK10 _ _ ?_
    try clear hK10 K10
    refine W.ret ?_
    have hlt1 := h1.lt
    have n4 := (n2.trans hN3 (fun i hi => hi.elim)).step hC4 (fun i hi => ⟨.inr hi, by subst hi; exact Hm.none hM (by rw [Hadd_ne _ _ (by omega)])⟩)
    refine retQ_one rfl rfl ⟨_, _, rfl, n4, Hm.none hM (by rw [Hadd_ne _ _ (by omega)]), ?_, ⟨_, _, _, rfl⟩, fun ys hy => ?_⟩
    · have e : (ok && (dList dInts b).isSome) = false := by unfold dList; rw [hsp]; simp
      rw [e, ← Hm.assoc, e3]; exact h4
    · unfold dList at hy; rw [hsp] at hy; cases hy
  | some l =>
    have hll : 8 * l.length ≤ b.length := by have h1 := joinTail_ge l; have h2 := join_length l; rw [split_join hsp] at h2; omega
    have hpl := split_parts_le hsp
    refine calls_of_W (n := 52) Tryz.func109 rfl Tryz.ntmps109 (Nat.le_of_ble_eq_true rfl) ?_
    refine W.seq fun K11 hK11 => ?_
    refine W.region ?_
    refine SeqOps.put 4 rfl rfl rfl (O.assign (v := (.slice none 0 0)) rfl rfl ?_)
    refine SeqOps.nil ?_
    refine hK11 _ _ ?_
    try clear hK11 K11
    refine W.seq fun K12 hK12 => ?_
    refine W.region ?_
    refine SeqOps.put 13 rfl rfl rfl (O.move (v := (.pointer (some ⟨bp, 0, none⟩))) rfl rfl ?_)
    refine SeqOps.put 14 rfl rfl rfl (O.call (fid := 125) (cap := #[]) (args := [(.pointer (some ⟨bp, 0, none⟩))]) rfl rfl rfl Tryz.func125 rfl rfl ?_)
    refine Calls.mono (next_calls h) ?_
    rintro e w1 ⟨v1, rfl, hr, h1, hC1⟩
    refine ⟨_, rfl, ?_⟩
    refine SeqOps.put 15 rfl rfl rfl (O.call (fid := 123) (cap := #[]) (args := [v1]) rfl rfl rfl Tryz.func123 rfl rfl ?_)
    refine Calls.mono (Split_calls h1.agrL hr hlen) ?_
    rintro e w2 ⟨M, v2, st, hres⟩
    obtain ⟨rfl, hl⟩ : e = .returned (.tuple #[v2, .bool true]) ∧ RBB M v2 l := by rcases hres with ⟨l', h1, h2, h3⟩ | ⟨h1, _⟩ <;> first | (rw [hsp] at h1; cases h1; exact ⟨h2, h3⟩) | (rw [hsp] at h1; cases h1; done)
    obtain ⟨ao, cap, rfl⟩ : ∃ ao cap, v2 = .slice ao l.length cap := by obtain ⟨vs, _, rs⟩ := hl; exact rs.form
    have n2 := (New.ofChg hC1).trans st (fun i hi => hi.elim)
    rw [Hm.nilL] at n2
    have hM : M bp = none := by rw [st.st.low bp h1.lt]
    replace h1 := h1.new st
    refine ⟨_, rfl, ?_⟩
    refine SeqOps.put 12 rfl rfl rfl (O.move (v := (.tuple #[(.slice ao l.length cap), (.bool (true))])) rfl rfl ?_)
    refine SeqOps.put 16 rfl rfl rfl (O.extract (v := (.slice ao l.length cap)) rfl rfl rfl ?_)
    refine SeqOps.put 17 rfl rfl rfl (O.extract (v := (.bool (true))) rfl rfl rfl ?_)
    refine SeqOps.put 5 rfl rfl rfl (O.assign (v := (.slice ao l.length cap)) rfl rfl ?_)
    refine SeqOps.put 6 rfl rfl rfl (O.assign (v := (.bool (true))) rfl rfl ?_)
    refine SeqOps.nil ?_
    refine hK12 _ _ ?_
    try clear hK12 K12
    refine W.seq fun K13 hK13 => ?_
    refine W.seq fun K14 hK14 => ?_
    refine W.region ?_
    refine SeqOps.put 18 rfl rfl rfl (O.move (v := (.bool (true))) rfl rfl ?_)
    refine SeqOps.put 19 rfl rfl rfl (O.not (b := true) rfl rfl ?_)
    refine SeqOps.nil ?_
    refine hK14 _ _ ?_
    try clear hK14 K14
    refine W.cond_false rfl ?_
    refine W.skip ?_
    refine hK13 _ _ ?_
    try clear hK13 K13
    refine W.seq fun K15 hK15 => ?_
    refine W.region ?_
    refine SeqOps.put 7 rfl rfl rfl (O.assign (v := (.slice none 0 0)) rfl rfl ?_)
    refine SeqOps.nil ?_
    refine hK15 _ _ ?_
    try clear hK15 K15
    refine W.seq fun K16 hK16 => ?_
    refine W.seq fun K17 hK17 => ?_
    refine W.region ?_
    refine SeqOps.put 26 rfl rfl rfl (O.move (v := (.slice ao l.length cap)) rfl rfl ?_)
    refine SeqOps.put 27 rfl rfl rfl (O.lenSlice (ad := ao) (n := l.length) (c := cap) rfl rfl Tryz.underlying133 ?_)
    refine SeqOps.put 28 rfl rfl rfl (O.move (v := (.int .i64 (0))) rfl rfl ?_)
    refine SeqOps.nil ?_
    refine hK17 _ _ ?_
    try clear hK17 K17
    refine W.block ?_
    refine W.loop [0, 1, 7, 26, 27, 28] (fun vals wk => ∃ M okk out css, ∃ k : Nat, vals = [.pointer (some ⟨bp, 0, none⟩), .func (.func 110) #[] #[], out, .slice ao l.length cap, .int .i64 (l.length : Int), .int .i64 (k : Int)] ∧ k ≤ l.length ∧ New w (· = bp) M wk ∧ M bp = none ∧ PS a HL (Hm N M) wk bp rem okk ∧ RBB M (.slice ao l.length cap) l ∧ Own M wk w.heap.size 40 1 out k (List.flatten css) ∧ (∀ cs ∈ css, cs.length = 1) ∧ okk = (ok && (mapO dInts (l.take k)).isSome) ∧ (∀ ys, mapO dInts (l.take k) = some ys → All2 (cInts M) css ys)) (fun vals _ => l.length - (intOf (vals.getD 5 undef)).toNat) ⟨M, ok, _, [], 0, rfl, Nat.zero_le _, n2, hM, h1, hl, Own.nil _ _ _ _ _, by simp, by simp [mapO], fun ys hy => by simp [mapO] at hy; subst hy; exact .nil⟩ ?_
    clear hres n2 hM h1 hl st hC1 hr M
    rintro g _ wk ⟨M, okk, out, css, k, rfl, hk, nk, hM, hp, hl, own, hcs, hokk, hall⟩
    rcases Nat.lt_or_ge k l.length with hlt | hge2
    · have htk : l.take (k + 1) = l.take k ++ [l[k]] := List.take_succ_eq_append_getElem hlt
      have hpk := hpl l[k] (by simp)
      have hl' := hl
      obtain ⟨vs, h2, rs⟩ := hl'
      obtain ⟨hvl, hel⟩ := h2.get hlt
      obtain ⟨ad, rfl, hcel⟩ := rs.elem (i := k) (u := vs[k]) (by simp)
      obtain ⟨ao2, cap2, hv2⟩ := RS.form hel
      rw [hv2] at hcel hel
      have hLM : Agr (Hm HL M) wk := Hm.agr hp.agrL nk.st.agr
      have hGM : hcell (Hm HL M) ⟨1, 0, none⟩ = some (eS a) := (Hm.left h.agrL nk).cell h.glob
      cases hd : dInts l[k] with
      | some y =>
        refine W.seq fun K18 hK18 => ?_
        refine W.region ?_
        refine SeqOps.put 29 rfl rfl rfl (O.cmp (a := (k : Int)) (b := (l.length : Int)) (r := true) rfl rfl rfl (by simp [cmpI]; omega) ?_)
        refine SeqOps.nil ?_
        refine hK18 _ _ ?_
        try clear hK18 K18
        refine W.seq fun K19 hK19 => ?_
        refine W.cond_true rfl ?_
        refine W.skip ?_
        refine hK19 _ _ ?_
        try clear hK19 K19
        refine W.seq fun K20 hK20 => ?_
        refine W.block ?_
        refine W.seq fun K21 hK21 => ?_
        refine W.region ?_
        refine SeqOps.put 30 rfl rfl rfl (O.indexAddr (a := ad) (len := l.length) (cap := cap) (i := (k : Int)) (sz := 1) (v := .pointer (some (ad.add k))) rfl rfl rfl Tryz.underlying133 sz22 (by omega) (by omega) (by simp) ?_)
        refine SeqOps.put 31 rfl rfl rfl (O.loadOne (a := ad.add k) (v := .slice ao2 l[k].length cap2) rfl rfl Tryz.underlying22 rfl (nk.st.agr.cell hcel) ?_)
        refine SeqOps.put 9 rfl rfl rfl (O.assign (v := (.slice ao2 l[k].length cap2)) rfl rfl ?_)
        refine SeqOps.nil ?_
        refine hK21 _ _ ?_
        try clear hK21 K21
        refine W.seq fun K22 hK22 => ?_
        refine W.region ?_
        refine SeqOps.put 33 rfl rfl rfl (O.move (v := (.func (.func 110) #[] #[])) rfl rfl ?_)
        refine SeqOps.put 34 rfl rfl rfl (O.move (v := (.slice ao2 l[k].length cap2)) rfl rfl ?_)
        refine SeqOps.put 35 rfl rfl rfl (O.call (fid := 110) (cap := #[]) (args := [(.slice ao2 l[k].length cap2)]) rfl rfl rfl Tryz.func110 rfl rfl ?_)
        refine Calls.mono (read_ints_calls (a := a) hLM hGM (hel.mono (Hm.right _ _)) (by omega)) ?_
        rintro e w5 hret
        obtain ⟨N5, v5, rfl, n5, hwf, hph⟩ := RetRd.good hd hret
        have n6 := nk.trans n5 (fun i hi => hi.elim)
        have hp6 := hp.new n5
        rw [Hm.assoc] at hp6
        have hM6 : Hm M N5 bp = none := Hm.none hM (by rw [n5.st.low bp hp.lt])
        have own6 : Own (Hm M N5) w5 w.heap.size 40 1 out k (List.flatten css) := (own.ext n5.st.chg).heap fun j hj => Hm.none (own.out j hj) (by rw [n5.st.low j (own.base hj).2])
        have hle6 : Hle M (Hm M N5) := nk.le1 n5
        obtain ⟨aoq, nq, capq, rfl⟩ := hwf
        refine ⟨_, rfl, ?_⟩
        refine SeqOps.put 32 rfl rfl rfl (O.move (v := (.tuple #[(.slice aoq nq capq), .nilIface])) rfl rfl ?_)
        refine SeqOps.put 36 rfl rfl rfl (O.extract (v := (.slice aoq nq capq)) rfl rfl rfl ?_)
        refine SeqOps.put 37 rfl rfl rfl (O.extract (v := .nilIface) rfl rfl rfl ?_)
        refine SeqOps.put 10 rfl rfl rfl (O.assign (v := (.slice aoq nq capq)) rfl rfl ?_)
        refine SeqOps.put 11 rfl rfl rfl (O.assign (v := .nilIface) rfl rfl ?_)
        refine SeqOps.nil ?_
        refine hK22 _ _ ?_
        try clear hK22 K22
        refine W.seq fun K23 hK23 => ?_
        refine W.seq fun K24 hK24 => ?_
        refine W.region ?_
        refine SeqOps.put 38 rfl rfl rfl (O.move (v := .nilIface) rfl rfl ?_)
        refine SeqOps.put 39 rfl rfl rfl (O.ifaceNil (v := .nilIface) (r := false) rfl rfl (.inl rfl) Tryz.underlying162 (.inr ⟨rfl, rfl⟩) ?_)
        refine SeqOps.nil ?_
        refine hK24 _ _ ?_
        try clear hK24 K24
        refine W.cond_false rfl ?_
        refine W.skip ?_
        refine hK23 _ _ ?_
        try clear hK23 K23
        refine W.region ?_
        refine SeqOps.put 46 rfl rfl rfl (O.move (v := out) rfl rfl ?_)
        refine SeqOps.put 47 rfl rfl rfl (O.move (v := (.slice aoq nq capq)) rfl rfl ?_)
        refine SeqOps.put 48 rfl rfl rfl (O.buildSlice (vs := [(.slice aoq nq capq)]) rfl rfl rfl Tryz.underlying53 inf40 (by intro u hu; simp at hu; subst hu; rfl) (by decide) ?_)
        intro b9 w9 hb9 hb91 hE9 hk9
        have hcat : catV [(.slice aoq nq capq)] = [.slice aoq nq capq] := by simp [catV, Value.cells]
        rw [hcat] at hk9
        have own9 := own6.ext hE9
        have n9 := n6.new hE9
        refine SeqOps.put 49 rfl rfl rfl (O.append (B := w.heap.size) (v := out) (vx := .slice (some ⟨b9, 0, none⟩) 1 1) (m := 1) (xs := List.flatten css) (news := [.slice aoq nq capq]) rfl rfl rfl Tryz.underlying53 inf40 rfl own9 (Own.ofBlk (H := fun _ => none) (B := 0) (s := 1) (xs := [.slice aoq nq capq]) hk9 (Nat.zero_le _) rfl rfl (by decide) (one_of rfl)).rsw rfl (by omega) (by omega) n9.st.chg.size n9.st.agr ?_)
        intro o10 w10 own10 hC10
        refine SeqOps.put 7 rfl rfl rfl (O.assign (v := o10) rfl rfl ?_)
        refine SeqOps.nil ?_
        refine hK20 _ _ ?_
        try clear hK20 K20
        refine W.region ?_
        refine SeqOps.put 50 rfl rfl rfl (O.arith (a := (k : Int)) (b := 1) (r := (k : Int) + 1) (c := (k : Int) + 1) rfl rfl rfl rfl (by exact wrap_i64 (by omega) (by omega)) ?_)
        refine SeqOps.put 28 rfl rfl rfl (O.move (v := (.int .i64 ((k : Int) + 1))) rfl rfl ?_)
        refine SeqOps.nil ?_
        have n10 := n9.step hC10 (fun i hi => ⟨.inl (own9.base hi).1, own9.out i hi⟩)
        have hp10 := (hp6.ext hE9).chg hC10 (fun i hi => ⟨by have := (own9.base hi).1; omega, h0L (own9.base hi).1, Hm.none (h0N (own9.base hi).1) (own9.out i hi)⟩)
        refine ⟨⟨_, _, o10, css ++ [[.slice aoq nq capq]], k + 1, rfl, by omega, n10, hM6, hp10, hl.mono hle6, by simpa using own10, ?_, ?_, fun ys hy => ?_⟩, by show l.length - ((k + 1 : Nat) : Int).toNat < l.length - ((k : Nat) : Int).toNat; omega⟩
        · intro cs hcs'; rcases List.mem_append.1 hcs' with h' | h'
          · exact hcs cs h'
          · simp at h'; subst h'; rfl
        · rw [hokk, htk, mapO_snoc, hd]; cases mapO dInts (l.take k) <;> rfl
        · rw [htk, mapO_snoc, hd] at hy
          cases hm : mapO dInts (l.take k) with
          | none => rw [hm] at hy; cases hy
          | some zs =>
            rw [hm] at hy; simp at hy; subst hy
            exact ((hall zs hm).imp fun _ _ hc => (by obtain ⟨v, e, r⟩ := hc; exact ⟨v, e, r.mono (by first | exact hle6 | exact hle8)⟩)).snoc ⟨_, rfl, RInts.mono hph (Hm.right M N5)⟩
      | none =>
        refine W.seq fun K25 hK25 => ?_
        refine W.region ?_
        refine SeqOps.put 29 rfl rfl rfl (O.cmp (a := (k : Int)) (b := (l.length : Int)) (r := true) rfl rfl rfl (by simp [cmpI]; omega) ?_)
        refine SeqOps.nil ?_
        refine hK25 _ _ ?_
        try clear hK25 K25
        refine W.seq fun K26 hK26 => ?_
        refine W.cond_true rfl ?_
        refine W.skip ?_
        refine hK26 _ _ ?_
        try clear hK26 K26
        refine W.seq fun K27 hK27 => ?_
        refine W.block ?_
        refine W.seq fun K28 hK28 => ?_
        refine W.region ?_
        refine SeqOps.put 30 rfl rfl rfl (O.indexAddr (a := ad) (len := l.length) (cap := cap) (i := (k : Int)) (sz := 1) (v := .pointer (some (ad.add k))) rfl rfl rfl Tryz.underlying133 sz22 (by omega) (by omega) (by simp) ?_)
        refine SeqOps.put 31 rfl rfl rfl (O.loadOne (a := ad.add k) (v := .slice ao2 l[k].length cap2) rfl rfl Tryz.underlying22 rfl (nk.st.agr.cell hcel) ?_)
        refine SeqOps.put 9 rfl rfl rfl (O.assign (v := (.slice ao2 l[k].length cap2)) rfl rfl ?_)
        refine SeqOps.nil ?_
        refine hK28 _ _ ?_
        try clear hK28 K28
        refine W.seq fun K29 hK29 => ?_
        refine W.region ?_
        refine SeqOps.put 33 rfl rfl rfl (O.move (v := (.func (.func 110) #[] #[])) rfl rfl ?_)
        refine SeqOps.put 34 rfl rfl rfl (O.move (v := (.slice ao2 l[k].length cap2)) rfl rfl ?_)
        refine SeqOps.put 35 rfl rfl rfl (O.call (fid := 110) (cap := #[]) (args := [(.slice ao2 l[k].length cap2)]) rfl rfl rfl Tryz.func110 rfl rfl ?_)
        refine Calls.mono (read_ints_calls (a := a) hLM hGM (hel.mono (Hm.right _ _)) (by omega)) ?_
        rintro e w5 hret
        obtain ⟨N5, v5, be, rfl, n5, hwf, her⟩ := RetRd.bad hd hret
        have n6 := nk.trans n5 (fun i hi => hi.elim)
        have hp6 := hp.new n5
        rw [Hm.assoc] at hp6
        have hM6 : Hm M N5 bp = none := Hm.none hM (by rw [n5.st.low bp hp.lt])
        have own6 : Own (Hm M N5) w5 w.heap.size 40 1 out k (List.flatten css) := (own.ext n5.st.chg).heap fun j hj => Hm.none (own.out j hj) (by rw [n5.st.low j (own.base hj).2])
        have hle6 : Hle M (Hm M N5) := nk.le1 n5
        obtain ⟨aoq, nq, capq, rfl⟩ := hwf
        refine ⟨_, rfl, ?_⟩
        refine SeqOps.put 32 rfl rfl rfl (O.move (v := (.tuple #[(.slice aoq nq capq), (.iface 160 (.pointer (some ⟨be, 0, none⟩)))])) rfl rfl ?_)
        refine SeqOps.put 36 rfl rfl rfl (O.extract (v := (.slice aoq nq capq)) rfl rfl rfl ?_)
        refine SeqOps.put 37 rfl rfl rfl (O.extract (v := (.iface 160 (.pointer (some ⟨be, 0, none⟩)))) rfl rfl rfl ?_)
        refine SeqOps.put 10 rfl rfl rfl (O.assign (v := (.slice aoq nq capq)) rfl rfl ?_)
        refine SeqOps.put 11 rfl rfl rfl (O.assign (v := (.iface 160 (.pointer (some ⟨be, 0, none⟩)))) rfl rfl ?_)
        refine SeqOps.nil ?_
        refine hK29 _ _ ?_
        try clear hK29 K29
        refine W.seq fun K30 hK30 => ?_
        refine W.seq fun K31 hK31 => ?_
        refine W.region ?_
        refine SeqOps.put 38 rfl rfl rfl (O.move (v := (.iface 160 (.pointer (some ⟨be, 0, none⟩)))) rfl rfl ?_)
        refine SeqOps.put 39 rfl rfl rfl (O.ifaceNil (v := (.iface 160 (.pointer (some ⟨be, 0, none⟩)))) (r := true) rfl rfl (.inr ⟨_, _, rfl⟩) Tryz.underlying162 (.inr ⟨rfl, rfl⟩) ?_)
        refine SeqOps.nil ?_
        refine hK31 _ _ ?_
        try clear hK31 K31
        refine W.cond_true rfl ?_
        refine W.region ?_
        refine SeqOps.put 40 rfl rfl rfl (O.move (v := (.pointer (some ⟨bp, 0, none⟩))) rfl rfl ?_)
        refine SeqOps.put 41 rfl rfl rfl (O.move (v := (.iface 160 (.pointer (some ⟨be, 0, none⟩)))) rfl rfl ?_)
        refine SeqOps.put 42 rfl rfl rfl (O.build (vps := [(0, (strOf [105, 110, 32, 97, 32, 108, 105, 115, 116])), (1, (.iface 160 (.pointer (some ⟨be, 0, none⟩))))]) (cells := [(strOf [105, 110, 32, 97, 32, 108, 105, 115, 116]), (.iface 160 (.pointer (some ⟨be, 0, none⟩)))]) rfl rfl (by kernel_rfl) ?_)
        refine SeqOps.put 43 rfl rfl rfl (O.box (v := (.agg (List.toArray ([(strOf [105, 110, 32, 97, 32, 108, 105, 115, 116]), (.iface 160 (.pointer (some ⟨be, 0, none⟩)))])))) rfl rfl ?_)
        intro b7 w7 hb7 hb7l hEw7 hkb7
        obtain ⟨h7, hN7, e7⟩ := hp6.wrong hEw7 hb7 hkb7
        refine SeqOps.put 44 rfl rfl rfl (O.makeIface (v := (.pointer (some ⟨b7, 0, none⟩))) rfl rfl Tryz.underlying160 rfl ?_)
        refine SeqOps.put 45 rfl rfl rfl (O.call (fid := 126) (cap := #[]) (args := [(.pointer (some ⟨bp, 0, none⟩)), (.iface 160 (.pointer (some ⟨b7, 0, none⟩)))]) rfl rfl rfl Tryz.func126 rfl rfl ?_)
        refine Calls.mono (bad_calls h7 (.wrap (Hadd_same _ _ _) (her.mono (Hle.trans (Hm.right M N5) (Hle.trans (Hm.right N _) (Hle.add _ (hp6.agrN.none hb7))))))) ?_
        rintro e w8 ⟨rfl, h8, hC8⟩
        have hlt6 := hp6.lt
        have hM7 : Hm (Hm M N5) (Hadd NH b7 (Obj.cells ((.agg (List.toArray ([(strOf [105, 110, 32, 97, 32, 108, 105, 115, 116]), (.iface 160 (.pointer (some ⟨be, 0, none⟩)))]))) : Value).cells 164 (0, 0))) bp = none := Hm.none hM6 (by rw [Hadd_ne _ _ (by omega)])
        have n8 := (n6.trans hN7 (fun i hi => hi.elim)).step hC8 (fun i hi => ⟨.inr hi, by subst hi; exact hM7⟩)
        rw [← e7, Hm.assoc] at h8
        have own8 : Own (Hm (Hm M N5) (Hadd NH b7 (Obj.cells ((.agg (List.toArray ([(strOf [105, 110, 32, 97, 32, 108, 105, 115, 116]), (.iface 160 (.pointer (some ⟨be, 0, none⟩)))]))) : Value).cells 164 (0, 0)))) w8 w.heap.size 40 1 out k (List.flatten css) := ((own6.ext hEw7).chg hC8 fun j hj e => by subst e; have := (own6.base hj).1; omega).heap fun j hj => Hm.none (own6.out j hj) (by have := (own6.base hj).2; rw [Hadd_ne _ _ (by omega)])
        have hle8 : Hle M (Hm (Hm M N5) (Hadd NH b7 (Obj.cells ((.agg (List.toArray ([(strOf [105, 110, 32, 97, 32, 108, 105, 115, 116]), (.iface 160 (.pointer (some ⟨be, 0, none⟩)))]))) : Value).cells 164 (0, 0)))) := hle6.trans (n6.le1 hN7)
        refine ⟨_, rfl, ?_⟩
        refine SeqOps.nil ?_
        refine hK30 _ _ ?_
        try clear hK30 K30
        refine W.region ?_
        refine SeqOps.put 46 rfl rfl rfl (O.move (v := out) rfl rfl ?_)
        refine SeqOps.put 47 rfl rfl rfl (O.move (v := (.slice aoq nq capq)) rfl rfl ?_)
        refine SeqOps.put 48 rfl rfl rfl (O.buildSlice (vs := [(.slice aoq nq capq)]) rfl rfl rfl Tryz.underlying53 inf40 (by intro u hu; simp at hu; subst hu; rfl) (by decide) ?_)
        intro b9 w9 hb9 hb91 hE9 hk9
        have hcat : catV [(.slice aoq nq capq)] = [.slice aoq nq capq] := by simp [catV, Value.cells]
        rw [hcat] at hk9
        have own9 := own8.ext hE9
        have n9 := n8.new hE9
        refine SeqOps.put 49 rfl rfl rfl (O.append (B := w.heap.size) (v := out) (vx := .slice (some ⟨b9, 0, none⟩) 1 1) (m := 1) (xs := List.flatten css) (news := [.slice aoq nq capq]) rfl rfl rfl Tryz.underlying53 inf40 rfl own9 (Own.ofBlk (H := fun _ => none) (B := 0) (s := 1) (xs := [.slice aoq nq capq]) hk9 (Nat.zero_le _) rfl rfl (by decide) (one_of rfl)).rsw rfl (by omega) (by omega) n9.st.chg.size n9.st.agr ?_)
        intro o10 w10 own10 hC10
        refine SeqOps.put 7 rfl rfl rfl (O.assign (v := o10) rfl rfl ?_)
        refine SeqOps.nil ?_
        refine hK27 _ _ ?_
        try clear hK27 K27
        refine W.region ?_
        refine SeqOps.put 50 rfl rfl rfl (O.arith (a := (k : Int)) (b := 1) (r := (k : Int) + 1) (c := (k : Int) + 1) rfl rfl rfl rfl (by exact wrap_i64 (by omega) (by omega)) ?_)
        refine SeqOps.put 28 rfl rfl rfl (O.move (v := (.int .i64 ((k : Int) + 1))) rfl rfl ?_)
        refine SeqOps.nil ?_
        have n10 := n9.step hC10 (fun i hi => ⟨.inl (own9.base hi).1, own9.out i hi⟩)
        have hp10 := (h8.ext hE9).chg hC10 (fun i hi => ⟨by have := (own9.base hi).1; omega, h0L (own9.base hi).1, Hm.none (h0N (own9.base hi).1) (own9.out i hi)⟩)
        refine ⟨⟨_, _, o10, css ++ [[.slice aoq nq capq]], k + 1, rfl, by omega, n10, hM7, hp10, hl.mono hle8, by simpa using own10, ?_, ?_, fun ys hy => ?_⟩, by show l.length - ((k + 1 : Nat) : Int).toNat < l.length - ((k : Nat) : Int).toNat; omega⟩
        · intro cs hcs'; rcases List.mem_append.1 hcs' with h' | h'
          · exact hcs cs h'
          · simp at h'; subst h'; rfl
        · rw [htk, mapO_snoc, hd]; cases mapO dInts (l.take k) <;> simp
        · rw [htk, mapO_snoc, hd] at hy; cases mapO dInts (l.take k) <;> simp at hy
    have hkl : k = l.length := by omega
    refine W.seq fun K32 hK32 => ?_
    refine W.region ?_
    refine SeqOps.put 29 rfl rfl rfl (O.cmp (a := (k : Int)) (b := (l.length : Int)) (r := false) rfl rfl rfl (by simp [cmpI]; omega) ?_)
    refine SeqOps.nil ?_
    refine hK32 _ _ ?_
    try clear hK32 K32
    refine W.seq fun K33 hK33 => ?_
    refine W.cond_false rfl ?_
    refine W.exit ?_
    refine hK16 _ _ ?_
    try clear hK16 K16
    refine W.seq fun K34 hK34 => ?_
    refine W.region ?_
    refine SeqOps.put 51 rfl rfl rfl (O.move (v := out) rfl rfl ?_)
    refine SeqOps.put 4 rfl rfl rfl (O.assign (v := out) rfl rfl ?_)
    refine SeqOps.nil ?_
    refine hK34 _ _ ?_
    try clear hK34 K34
    refine W.ret ?_
    subst hkl
    rw [List.take_length] at hokk hall
    obtain ⟨M2, hle2, n2, hsame, rs2⟩ := own.join nk (Nat.le_refl _)
    have hM2 : M2 bp = none := by rw [hsame bp fun e => by have := (own.base e).1; omega]; exact hM
    have hdl : dList dInts b = mapO dInts l := by unfold dList; rw [hsp]; rfl
    obtain ⟨aof, capf, hof⟩ := rs2.form
    refine retQ_one rfl rfl ⟨M2, out, rfl, n2, hM2, ?_, ⟨_, _, _, hof⟩, fun ys hy => ?_⟩
    · rw [hdl, ← hokk]
      obtain ⟨lv, ev, hblk, hrb, hev⟩ := hp.blk
      refine h.next n2 hM2 ⟨lv, ev, hblk, hrb, hev.imp id fun ⟨e1, e2⟩ => ⟨e1, e2.mono ?_⟩⟩
      intro j o ho; unfold Hm at ho ⊢
      cases hj : M j with
      | some o' => rw [hj] at ho; rw [hle2 j o' hj]; exact ho
      | none =>
        rw [hj] at ho
        have hno := h.agrN.lt ho
        rw [show M2 j = none by rw [n2.st.low j hno]]; exact ho
    · rw [hdl] at hy
      have h2 := hall ys hy
      refine ⟨css, h2.imp fun _ _ hc => (by obtain ⟨v, e, r⟩ := hc; exact ⟨v, e, r.mono hle2⟩), hcs, ?_⟩
      have hlen2 := mapO_length hy
      rw [hlen2]; exact rs2

def wfSig (v : Value) : Prop := ∃ q : VSig, v = .agg (List.toArray q.cells) ∧ q.ok
def phSig (N : Heap) (v : Value) (y : DSig) : Prop := ∃ q : VSig, v = .agg (List.toArray q.cells) ∧ RSig N q y
set_option maxHeartbeats 1000000 in
theorem read_Sig_calls {a : Addr} {H : Heap} {w : World} {v : Value} {bs : List UInt8} (hA : Agr H w) (hG : hcell H ⟨1, 0, none⟩ = some (eS a)) (r : RB H v bs) (hlen : bs.length ≤ 1099511627776) :
    Calls Tryz.prog 114 #[v] w (RetRd a dSig wfSig phSig w bs) := by
  refine calls_of_W (n := 18) Tryz.func114 rfl Tryz.ntmps114 (Nat.le_of_ble_eq_true rfl) ?_
  refine W.seq fun K1 hK1 => ?_
  refine W.region ?_
  refine SeqOps.put 2 rfl rfl rfl (O.alloc rfl zr89 ?_)
  intro br w0 hbr hbr1 hE0 hk0
  refine SeqOps.put 3 rfl rfl rfl (O.assign (v := .nilIface) rfl rfl ?_)
  refine SeqOps.nil ?_
  refine hK1 _ _ ?_
  try clear hK1 K1
  refine W.seq fun K2 hK2 => ?_
  refine W.region ?_
  refine SeqOps.put 6 rfl rfl rfl (O.move (v := v) rfl rfl ?_)
  refine SeqOps.put 7 rfl rfl rfl (O.call (fid := 87) (cap := #[]) (args := [v, (.int .i64 (2)), (strOf [97, 32, 115, 105, 103, 110, 97, 116, 117, 114, 101])]) rfl rfl rfl Tryz.func87 rfl rfl ?_)
  refine Calls.mono (split_calls (a := a) (n := 2) (Ext.agr hE0 hA) hG r hlen (by omega)) ?_
  rintro e w1 ⟨N0, bp, rem, okS, rfl, n0, hbp, hps, hrl, hok1, hok2, hrle⟩
  obtain ⟨b0, b1, rfl⟩ : ∃ b0 b1, rem = [b0, b1] := by match rem, hrl with | [b0, b1], _ => exact ⟨b0, b1, rfl⟩
  have hbrp : br ≠ bp := by omega
  have hkr := Ext.blk n0.st.chg hk0
  have nn0 := ((New.start w NoX).new hE0).trans n0 (fun i hi => hi.elim)
  rw [Hm.nilL] at nn0
  have hr0 : N0 br = none := by rw [n0.st.low br hbr1]
  refine ⟨_, rfl, ?_⟩
  refine SeqOps.put 4 rfl rfl rfl (O.assign (v := (.pointer (some ⟨bp, 0, none⟩))) rfl rfl ?_)
  refine SeqOps.nil ?_
  refine hK2 _ _ ?_
  try clear hK2 K2
  refine W.seq fun K3 hK3 => ?_
  refine W.region ?_
  refine SeqOps.put 8 rfl rfl rfl (O.move (v := (.pointer (some ⟨bp, 0, none⟩))) rfl rfl ?_)
  refine SeqOps.put 9 rfl rfl rfl (O.call (fid := 89) (cap := #[]) (args := [(.pointer (some ⟨bp, 0, none⟩))]) rfl rfl rfl Tryz.func89 rfl rfl ?_)
  refine Calls.mono (pn_calls hps) ?_
  rintro e wm1 ⟨M1, v0_, rfl, nm1, hM1, hp1, ⟨f0, rfl, hrng0, hy0⟩⟩
  have nn1 := nn0.trans nm1 (fun i hi => ⟨.inl (by subst hi; have := hE0.size; omega), by subst hi; exact hps.outN⟩)
  have hkr1 := nm1.st.chg.blk hkr hbrp
  have hr1 : Hm N0 M1 br = none := Hm.none hr0 (by rw [nm1.st.low br (blk_lt hkr)])
  have hle1 : Hle N0 (Hm N0 M1) := nn0.le1 nm1
  refine ⟨_, rfl, ?_⟩
  refine SeqOps.put 10 rfl rfl rfl (O.move (v := (.pointer (some ⟨bp, 0, none⟩))) rfl rfl ?_)
  refine SeqOps.put 11 rfl rfl rfl (O.call (fid := 90) (cap := #[]) (args := [(.pointer (some ⟨bp, 0, none⟩))]) rfl rfl rfl Tryz.func90 rfl rfl ?_)
  refine Calls.mono (pdigest_calls hp1) ?_
  rintro e wm2 ⟨M2, v1_, rfl, nm2, hM2, hp2, ⟨f1, rfl, hy1⟩⟩
  have nn2 := nn1.trans nm2 (fun i hi => ⟨.inl (by subst hi; have := hE0.size; omega), by subst hi; exact hp1.outN⟩)
  have hkr2 := nm2.st.chg.blk hkr1 hbrp
  have hr2 : Hm (Hm N0 M1) M2 br = none := Hm.none hr1 (by rw [nm2.st.low br (blk_lt hkr1)])
  have hle2 : Hle (Hm N0 M1) (Hm (Hm N0 M1) M2) := nn1.le1 nm2
  refine ⟨_, rfl, ?_⟩
  obtain ⟨q, hq⟩ : ∃ q : VSig, q = ⟨f0, f1⟩ := ⟨_, rfl⟩
  refine SeqOps.put 12 rfl rfl rfl (O.build (vps := [(0, (.int .i64 (f0))), (1, (.agg (List.toArray (digC f1))))]) (cells := (VSig.cells ⟨f0, f1⟩)) rfl rfl (by kernel_rfl) ?_)
  rw [← hq]
  have hqok : q.ok := by rw [hq]; exact trivial
  refine SeqOps.put 5 rfl rfl rfl (O.alloc rfl zr89 ?_)
  intro bq wa hbq hbq1 hEa hkq0
  refine SeqOps.eff rfl rfl (O.store (b := bq) (off := 0) (v := .agg (List.toArray q.cells)) (n := 33) (c' := q.cells.toArray) rfl rfl rfl hkq0 sz89 rfl (by decide) (VSig.one hqok) rfl ?_)
  intro wq hCq hkq
  have hEq : Ext wm2 wq := hEa.trans_new hCq fun i hi => .inl (by omega)
  have hpq := hp2.ext hEq
  have hkrq := Ext.blk hEq hkr2
  have hqr : bq ≠ br := by have := blk_lt hkr2; omega
  have hpr : bp ≠ br := Ne.symm hbrp
  obtain ⟨lv, ev, hkp, hevf, hev⟩ := hpq.final
  skip
  refine SeqOps.nil ?_
  refine hK3 _ _ ?_
  try clear hK3 K3
  refine W.seq fun K4 hK4 => ?_
  obtain ⟨obj, hobj⟩ : ∃ o, o = Obj.cells q.cells.toArray 89 (0, 0) := ⟨_, rfl⟩
  refine W.region_any (by kernel_rfl) (by kernel_rfl) [13, 14, 15, 16, 17, 3] rfl (fun a b => RStoreC br (.cells q.cells.toArray 89 (0, 0)) 33 89 a b) (fun _ => RStoreC.refl _ _ _ _ _) (fun h k => RStoreC.trans h k) [
      (fun (u : Value) (_ : World) => u = .agg (List.toArray q.cells)),
      (fun (u : Value) (_ : World) => u = Value.pointer (some ⟨bp, 0, none⟩)),
      (fun (u : Value) (_ : World) => u = Value.pointer (some ⟨bp, 0, none⟩)),
      (fun (u : Value) (_ : World) => u = Value.pointer (some ⟨bp, 1, none⟩)),
      (fun (u : Value) (_ : World) => u = ev),
      (fun (_ : Value) (w : World) => w.heap[br]? = some (.cells q.cells.toArray 89 (0, 0))),
      (fun (u : Value) (_ : World) => u = ev)
    ] ⟨fun _ _ _ _ h => h, fun _ _ _ _ h => h, fun _ _ _ _ h => h, fun _ _ _ _ h => h, fun _ _ _ _ h => h, fun _ _ _ hE h => hE.2.1 h, fun _ _ _ _ h => h, trivial⟩ ⟨?_, ?_, ?_, ?_, ?_, ?_, ?_, trivial⟩ ?_
  · intro g w1 hR hf hd
    have h1 : g 5 = .pointer (some ⟨bq, 0, none⟩) := hf 5 (by decide)
    have hb1 := Chg.blk hR.1 (show wq.drew.heap[bq]? = _ from hkq) hqr
    exact StepT.plain rfl (O.loadBlk (b := bq) (off := 0) (cs := q.cells) rfl h1 hb1 Tryz.underlying89 rfl sz89 rfl ⟨RStoreC.refl _ _ _ _ _, rfl⟩)
  · intro g w1 hR hf hd
    have h1 : g 4 = Value.pointer (some ⟨bp, 0, none⟩) := hf 4 (by decide)
    exact StepT.plain rfl (O.move (v := Value.pointer (some ⟨bp, 0, none⟩)) rfl h1 ⟨RStoreC.refl _ _ _ _ _, rfl⟩)
  · intro g w1 hR hf hd
    have h1 : (fun (u : Value) (_ : World) => u = Value.pointer (some ⟨bp, 0, none⟩)) (g 14) w1 := hd.1 rfl
    exact StepT.plain rfl (O.nilCheckPtr (a := ⟨bp, 0, none⟩) rfl h1 ⟨RStoreC.refl _ _ _ _ _, rfl⟩)
  · intro g w1 hR hf hd
    have h1 : (fun (u : Value) (_ : World) => u = Value.pointer (some ⟨bp, 0, none⟩)) (g 15) w1 := hd.1 rfl
    exact StepT.plain rfl (O.fieldAddr (a := ⟨bp, 0, none⟩) (v := Value.pointer (some ⟨bp, 1, none⟩)) rfl h1 Tryz.underlying177 rfl (by kernel_rfl) rfl ⟨RStoreC.refl _ _ _ _ _, rfl⟩)
  · intro g w1 hR hf hd
    have h1 : (fun (u : Value) (_ : World) => u = Value.pointer (some ⟨bp, 1, none⟩)) (g 16) w1 := hd.1 rfl
    have hb1 := Chg.blk hR.1 (show wq.drew.heap[bp]? = _ from hkp) hpr
    exact StepT.plain rfl (O.loadBlk1 (b := bp) (off := 1) (v := ev) rfl h1 hb1 Tryz.underlying162 rfl rfl ⟨RStoreC.refl _ _ _ _ _, rfl⟩)
  · intro g w1 hR hf hd
    have h1 : g 2 = .pointer (some ⟨br, 0, none⟩) := hf 2 (by decide)
    have h2 : g 13 = .agg (List.toArray q.cells) := hd.1 rfl
    obtain ⟨cr, hcr, hk⟩ := hR.2.2 ⟨_, rfl, show wq.drew.heap[br]? = _ from hkrq⟩
    refine StepT.plain rfl (O.store (b := br) (off := 0) (v := .agg (List.toArray q.cells)) (n := 33) (c' := q.cells.toArray) rfl h1 h2 hk sz89 rfl (by rw [Nat.zero_add, hcr]; exact Nat.le_refl _) (VSig.one hqok) (by simp [Value.cells, VSig.length, hcr]) ?_)
    intro w2 hC hk2
    exact ⟨⟨hC, fun _ => hk2, fun _ => ⟨_, VSig.length q, hk2⟩⟩, hk2⟩
  · intro g w1 hR hf hd
    have h1 : g 17 = ev := hd.1 rfl
    exact StepT.plain rfl (O.assign (v := ev) rfl h1 ⟨RStoreC.refl _ _ _ _ _, rfl⟩)
  intro g w9 hR hf hall
  have hf5 := hall.2.2.2.2.2.1
  have hf6 := hall.2.2.2.2.2.2.1
  refine hK4 _ _ ?_
  try clear hK4 K4
  refine W.ret ?_
  have n9 := ((nn2.new hEq).new (Ext.drew wq)).step hR.1 (fun i hi => ⟨.inl (by omega), by subst hi; exact hr2⟩)
  refine retQ_cell2 (b := br) (cs := q.cells) rfl (hf 2 (by decide)) hf6 hf5 Tryz.underlying89 rfl sz89 ⟨_, _, _, rfl, n9, ⟨q, rfl, hqok⟩, ?_⟩
  rcases hev with ⟨hok, rfl⟩ | ⟨hok, he⟩
  · simp only [Bool.and_eq_true] at hok
    obtain ⟨⟨hok0, hs0⟩, hs1⟩ := hok
    obtain ⟨y0, hd0⟩ := Option.isSome_iff_exists.1 hs0
    obtain ⟨y1, hd1⟩ := Option.isSome_iff_exists.1 hs1
    refine .inl ⟨⟨y0, y1⟩, ?_, rfl, q, rfl, ?_⟩
    · unfold dSig; rw [hok1 hok0]; exact dSigL_some hd0 hd1
    · rw [hq]; exact ⟨⟨hy0 _ hd0, by rw [← hy0 _ hd0]; exact hrng0⟩, hy1 _ hd1⟩
  · refine .inr ⟨?_, he⟩
    cases hokS : okS with
    | false =>
      unfold dSig
      cases hs : split bs with
      | none => rfl
      | some l => exact dSigL_len (hok2 hokS l hs)
    | true =>
      unfold dSig
      rw [hok1 hokS]
      have hiss := dSigL_isSome b0 b1
      rw [hokS] at hok; simp only [Bool.true_and] at hok hiss
      rw [hok] at hiss
      simpa using hiss

theorem all_Sig_calls {a : Addr} {HL N : Heap} {w : World} {bp : Nat} {b : List UInt8} {rem : List (List UInt8)} {ok : Bool} (h : PS a HL N w bp (b :: rem) ok) (hlen : b.length ≤ 1099511627776) :
    Calls Tryz.prog 113 #[.pointer (some ⟨bp, 0, none⟩), .func (.func 114) #[] #[]] w (RetP a HL N w bp rem (ok && (dList dSig b).isSome) (fun M v => (∃ ao n cap, v = .slice ao n cap) ∧ ∀ ys, dList dSig b = some ys → RL 33 cSig M v ys)) := by
  have hlt0 := h.lt
  have h0L : ∀ {k}, w.heap.size ≤ k → HL k = none := fun hk => h.agrL.none hk
  have h0N : ∀ {k}, w.heap.size ≤ k → N k = none := fun hk => h.agrN.none hk
  cases hsp : split b with
  | none =>
    refine calls_of_W (n := 52) Tryz.func113 rfl Tryz.ntmps113 (Nat.le_of_ble_eq_true rfl) ?_
    refine W.seq fun K1 hK1 => ?_
    refine W.region ?_
    refine SeqOps.put 4 rfl rfl rfl (O.assign (v := (.slice none 0 0)) rfl rfl ?_)
    refine SeqOps.nil ?_
    refine hK1 _ _ ?_
    try clear hK1 K1
    refine W.seq fun K2 hK2 => ?_
    refine W.region ?_
    refine SeqOps.put 13 rfl rfl rfl (O.move (v := (.pointer (some ⟨bp, 0, none⟩))) rfl rfl ?_)
    refine SeqOps.put 14 rfl rfl rfl (O.call (fid := 125) (cap := #[]) (args := [(.pointer (some ⟨bp, 0, none⟩))]) rfl rfl rfl Tryz.func125 rfl rfl ?_)
    refine Calls.mono (next_calls h) ?_
    rintro e w1 ⟨v1, rfl, hr, h1, hC1⟩
    refine ⟨_, rfl, ?_⟩
    refine SeqOps.put 15 rfl rfl rfl (O.call (fid := 123) (cap := #[]) (args := [v1]) rfl rfl rfl Tryz.func123 rfl rfl ?_)
    refine Calls.mono (Split_calls h1.agrL hr hlen) ?_
    rintro e w2 ⟨M, v2, st, hres⟩
    obtain ⟨rfl, rfl⟩ : v2 = .slice none 0 0 ∧ e = .returned (.tuple #[v2, .bool false]) := by rcases hres with ⟨l, h1, _⟩ | ⟨_, h2, h3⟩ <;> first | exact ⟨h2, h3⟩ | (rw [hsp] at h1; cases h1; done)
    have n2 := (New.ofChg hC1).trans st (fun i hi => hi.elim)
    rw [Hm.nilL] at n2
    have hM : M bp = none := by rw [st.st.low bp h1.lt]
    replace h1 := h1.new st
    refine ⟨_, rfl, ?_⟩
    refine SeqOps.put 12 rfl rfl rfl (O.move (v := (.tuple #[(.slice none 0 0), (.bool (false))])) rfl rfl ?_)
    refine SeqOps.put 16 rfl rfl rfl (O.extract (v := (.slice none 0 0)) rfl rfl rfl ?_)
    refine SeqOps.put 17 rfl rfl rfl (O.extract (v := (.bool (false))) rfl rfl rfl ?_)
    refine SeqOps.put 5 rfl rfl rfl (O.assign (v := (.slice none 0 0)) rfl rfl ?_)
    refine SeqOps.put 6 rfl rfl rfl (O.assign (v := (.bool (false))) rfl rfl ?_)
    refine SeqOps.nil ?_
    refine hK2 _ _ ?_
    try clear hK2 K2
    refine W.seq fun K3 hK3 => ?_
    refine W.seq fun K4 hK4 => ?_
    refine W.region ?_
    refine SeqOps.put 18 rfl rfl rfl (O.move (v := (.bool (false))) rfl rfl ?_)
    refine SeqOps.put 19 rfl rfl rfl (O.not (b := false) rfl rfl ?_)
    refine SeqOps.nil ?_
    refine hK4 _ _ ?_
    try clear hK4 K4
    refine W.cond_true rfl ?_
    refine W.region ?_
    refine SeqOps.put 20 rfl rfl rfl (O.move (v := (.pointer (some ⟨bp, 0, none⟩))) rfl rfl ?_)
    refine SeqOps.put 21 rfl rfl rfl (O.loadOne (a := ⟨1, 0, none⟩) (v := eS a) rfl rfl Tryz.underlying162 rfl (h1.agrL.cell h1.glob) ?_)
    refine SeqOps.put 22 rfl rfl rfl (O.build (vps := [(0, (strOf [97, 32, 108, 105, 115, 116])), (1, (eS a))]) (cells := [(strOf [97, 32, 108, 105, 115, 116]), (eS a)]) rfl rfl (by kernel_rfl) ?_)
    refine SeqOps.put 23 rfl rfl rfl (O.box (v := (.agg (List.toArray ([(strOf [97, 32, 108, 105, 115, 116]), (eS a)])))) rfl rfl ?_)
    intro b3 w3 hb3 hb3l hEw3 hkb3
    obtain ⟨h3, hN3, e3⟩ := h1.wrong hEw3 hb3 hkb3
    refine SeqOps.put 24 rfl rfl rfl (O.makeIface (v := (.pointer (some ⟨b3, 0, none⟩))) rfl rfl Tryz.underlying160 rfl ?_)
    refine SeqOps.put 25 rfl rfl rfl (O.call (fid := 126) (cap := #[]) (args := [(.pointer (some ⟨bp, 0, none⟩)), (.iface 160 (.pointer (some ⟨b3, 0, none⟩)))]) rfl rfl rfl Tryz.func126 rfl rfl ?_)
    refine Calls.mono (bad_calls h3 (.base (Hadd_same _ _ _))) ?_
    rintro e w4 ⟨rfl, h4, hC4⟩
    refine ⟨_, rfl, ?_⟩
    refine SeqOps.nil ?_
    refine hK3 _ _ ?_
    try clear hK3 K3
    refine W.seq fun K5 hK5 => ?_
    refine W.region ?_
    refine SeqOps.put 7 rfl rfl rfl (O.assign (v := (.slice none 0 0)) rfl rfl ?_)
    refine SeqOps.nil ?_
    refine hK5 _ _ ?_
    try clear hK5 K5
    refine W.seq fun K6 hK6 => ?_
    refine W.seq fun K7 hK7 => ?_
    refine W.region ?_
    refine SeqOps.put 26 rfl rfl rfl (O.move (v := (.slice none 0 0)) rfl rfl ?_)
    refine SeqOps.put 27 rfl rfl rfl (O.lenSlice (ad := none) (n := 0) (c := 0) rfl rfl Tryz.underlying133 ?_)
    refine SeqOps.put 28 rfl rfl rfl (O.move (v := (.int .i64 (0))) rfl rfl ?_)
    refine SeqOps.nil ?_
    refine hK7 _ _ ?_
    try clear hK7 K7
    refine W.block ?_
    refine W.loop [7, 26, 27, 28] (fun vals wk => vals = [.slice none 0 0, .slice none 0 0, .int .i64 0, .int .i64 0] ∧ w4 = wk) (fun _ _ => 0) ⟨rfl, rfl⟩ ?_
    rintro g _ wk ⟨rfl, rfl⟩
    refine W.seq fun K8 hK8 => ?_
    refine W.region ?_
    refine SeqOps.put 29 rfl rfl rfl (O.cmp (a := 0) (b := 0) (r := false) rfl rfl rfl (rfl) ?_)
    refine SeqOps.nil ?_
    refine hK8 _ _ ?_
    try clear hK8 K8
    refine W.seq fun K9 hK9 => ?_
    refine W.cond_false rfl ?_
    refine W.exit ?_
    refine hK6 _ _ ?_
    try clear hK6 K6
    refine W.seq fun K10 hK10 => ?_
    refine W.region ?_
    refine SeqOps.put 51 rfl rfl rfl (O.move (v := (.slice none 0 0)) rfl rfl ?_)
    refine SeqOps.put 4 rfl rfl rfl (O.assign (v := (.slice none 0 0)) rfl rfl ?_)
    refine SeqOps.nil ?_
    refine hK10 _ _ ?_
    try clear hK10 K10
    refine W.ret ?_
    have hlt1 := h1.lt
    have n4 := (n2.trans hN3 (fun i hi => hi.elim)).step hC4 (fun i hi => ⟨.inr hi, by subst hi; exact Hm.none hM (by rw [Hadd_ne _ _ (by omega)])⟩)
    refine retQ_one rfl rfl ⟨_, _, rfl, n4, Hm.none hM (by rw [Hadd_ne _ _ (by omega)]), ?_, ⟨_, _, _, rfl⟩, fun ys hy => ?_⟩
    · have e : (ok && (dList dSig b).isSome) = false := by unfold dList; rw [hsp]; simp
      rw [e, ← Hm.assoc, e3]; exact h4
    · unfold dList at hy; rw [hsp] at hy; cases hy
  | some l =>
    have hll : 8 * l.length ≤ b.length := by have h1 := joinTail_ge l; have h2 := join_length l; rw [split_join hsp] at h2; omega
    have hpl := split_parts_le hsp
    refine calls_of_W (n := 52) Tryz.func113 rfl Tryz.ntmps113 (Nat.le_of_ble_eq_true rfl) ?_
    refine W.seq fun K11 hK11 => ?_
    refine W.region ?_
    refine SeqOps.put 4 rfl rfl rfl (O.assign (v := (.slice none 0 0)) rfl rfl ?_)
    refine SeqOps.nil ?_
    refine hK11 _ _ ?_
    try clear hK11 K11
    refine W.seq fun K12 hK12 => ?_
    refine W.region ?_
    refine SeqOps.put 13 rfl rfl rfl (O.move (v := (.pointer (some ⟨bp, 0, none⟩))) rfl rfl ?_)
    refine SeqOps.put 14 rfl rfl rfl (O.call (fid := 125) (cap := #[]) (args := [(.pointer (some ⟨bp, 0, none⟩))]) rfl rfl rfl Tryz.func125 rfl rfl ?_)
    refine Calls.mono (next_calls h) ?_
    rintro e w1 ⟨v1, rfl, hr, h1, hC1⟩
    refine ⟨_, rfl, ?_⟩
    refine SeqOps.put 15 rfl rfl rfl (O.call (fid := 123) (cap := #[]) (args := [v1]) rfl rfl rfl Tryz.func123 rfl rfl ?_)
    refine Calls.mono (Split_calls h1.agrL hr hlen) ?_
    rintro e w2 ⟨M, v2, st, hres⟩
    obtain ⟨rfl, hl⟩ : e = .returned (.tuple #[v2, .bool true]) ∧ RBB M v2 l := by rcases hres with ⟨l', h1, h2, h3⟩ | ⟨h1, _⟩ <;> first | (rw [hsp] at h1; cases h1; exact ⟨h2, h3⟩) | (rw [hsp] at h1; cases h1; done)
    obtain ⟨ao, cap, rfl⟩ : ∃ ao cap, v2 = .slice ao l.length cap := by obtain ⟨vs, _, rs⟩ := hl; exact rs.form
    have n2 := (New.ofChg hC1).trans st (fun i hi => hi.elim)
    rw [Hm.nilL] at n2
    have hM : M bp = none := by rw [st.st.low bp h1.lt]
    replace h1 := h1.new st
    refine ⟨_, rfl, ?_⟩
    refine SeqOps.put 12 rfl rfl rfl (O.move (v := (.tuple #[(.slice ao l.length cap), (.bool (true))])) rfl rfl ?_)
    refine SeqOps.put 16 rfl rfl rfl (O.extract (v := (.slice ao l.length cap)) rfl rfl rfl ?_)
    refine SeqOps.put 17 rfl rfl rfl (O.extract (v := (.bool (true))) rfl rfl rfl ?_)
    refine SeqOps.put 5 rfl rfl rfl (O.assign (v := (.slice ao l.length cap)) rfl rfl ?_)
    refine SeqOps.put 6 rfl rfl rfl (O.assign (v := (.bool (true))) rfl rfl ?_)
    refine SeqOps.nil ?_
    refine hK12 _ _ ?_
    try clear hK12 K12
    refine W.seq fun K13 hK13 => ?_
    refine W.seq fun K14 hK14 => ?_
    refine W.region ?_
    refine SeqOps.put 18 rfl rfl rfl (O.move (v := (.bool (true))) rfl rfl ?_)
    refine SeqOps.put 19 rfl rfl rfl (O.not (b := true) rfl rfl ?_)
    refine SeqOps.nil ?_
    refine hK14 _ _ ?_
    try clear hK14 K14
    refine W.cond_false rfl ?_
    refine W.skip ?_
    refine hK13 _ _ ?_
    try clear hK13 K13
    refine W.seq fun K15 hK15 => ?_
    refine W.region ?_
    refine SeqOps.put 7 rfl rfl rfl (O.assign (v := (.slice none 0 0)) rfl rfl ?_)
    refine SeqOps.nil ?_
    refine hK15 _ _ ?_
    try clear hK15 K15
    refine W.seq fun K16 hK16 => ?_
    refine W.seq fun K17 hK17 => ?_
    refine W.region ?_
    refine SeqOps.put 26 rfl rfl rfl (O.move (v := (.slice ao l.length cap)) rfl rfl ?_)
    refine SeqOps.put 27 rfl rfl rfl (O.lenSlice (ad := ao) (n := l.length) (c := cap) rfl rfl Tryz.underlying133 ?_)
    refine SeqOps.put 28 rfl rfl rfl (O.move (v := (.int .i64 (0))) rfl rfl ?_)
    refine SeqOps.nil ?_
    refine hK17 _ _ ?_
    try clear hK17 K17
    refine W.block ?_
    refine W.loop [0, 1, 7, 26, 27, 28] (fun vals wk => ∃ M okk out css, ∃ k : Nat, vals = [.pointer (some ⟨bp, 0, none⟩), .func (.func 114) #[] #[], out, .slice ao l.length cap, .int .i64 (l.length : Int), .int .i64 (k : Int)] ∧ k ≤ l.length ∧ New w (· = bp) M wk ∧ M bp = none ∧ PS a HL (Hm N M) wk bp rem okk ∧ RBB M (.slice ao l.length cap) l ∧ Own M wk w.heap.size 89 33 out k (List.flatten css) ∧ (∀ cs ∈ css, cs.length = 33) ∧ okk = (ok && (mapO dSig (l.take k)).isSome) ∧ (∀ ys, mapO dSig (l.take k) = some ys → All2 (cSig M) css ys)) (fun vals _ => l.length - (intOf (vals.getD 5 undef)).toNat) ⟨M, ok, _, [], 0, rfl, Nat.zero_le _, n2, hM, h1, hl, Own.nil _ _ _ _ _, by simp, by simp [mapO], fun ys hy => by simp [mapO] at hy; subst hy; exact .nil⟩ ?_
    clear hres n2 hM h1 hl st hC1 hr M
    rintro g _ wk ⟨M, okk, out, css, k, rfl, hk, nk, hM, hp, hl, own, hcs, hokk, hall⟩
    rcases Nat.lt_or_ge k l.length with hlt | hge2
    · have htk : l.take (k + 1) = l.take k ++ [l[k]] := List.take_succ_eq_append_getElem hlt
      have hpk := hpl l[k] (by simp)
      have hl' := hl
      obtain ⟨vs, h2, rs⟩ := hl'
      obtain ⟨hvl, hel⟩ := h2.get hlt
      obtain ⟨ad, rfl, hcel⟩ := rs.elem (i := k) (u := vs[k]) (by simp)
      obtain ⟨ao2, cap2, hv2⟩ := RS.form hel
      rw [hv2] at hcel hel
      have hLM : Agr (Hm HL M) wk := Hm.agr hp.agrL nk.st.agr
      have hGM : hcell (Hm HL M) ⟨1, 0, none⟩ = some (eS a) := (Hm.left h.agrL nk).cell h.glob
      cases hd : dSig l[k] with
      | some y =>
        refine W.seq fun K18 hK18 => ?_
        refine W.region ?_
        refine SeqOps.put 29 rfl rfl rfl (O.cmp (a := (k : Int)) (b := (l.length : Int)) (r := true) rfl rfl rfl (by simp [cmpI]; omega) ?_)
        refine SeqOps.nil ?_
        refine hK18 _ _ ?_
        try clear hK18 K18
        refine W.seq fun K19 hK19 => ?_
        refine W.cond_true rfl ?_
        refine W.skip ?_
        refine hK19 _ _ ?_
        try clear hK19 K19
        refine W.seq fun K20 hK20 => ?_
        refine W.block ?_
        refine W.seq fun K21 hK21 => ?_
        refine W.region ?_
        refine SeqOps.put 30 rfl rfl rfl (O.indexAddr (a := ad) (len := l.length) (cap := cap) (i := (k : Int)) (sz := 1) (v := .pointer (some (ad.add k))) rfl rfl rfl Tryz.underlying133 sz22 (by omega) (by omega) (by simp) ?_)
        refine SeqOps.put 31 rfl rfl rfl (O.loadOne (a := ad.add k) (v := .slice ao2 l[k].length cap2) rfl rfl Tryz.underlying22 rfl (nk.st.agr.cell hcel) ?_)
        refine SeqOps.put 9 rfl rfl rfl (O.assign (v := (.slice ao2 l[k].length cap2)) rfl rfl ?_)
        refine SeqOps.nil ?_
        refine hK21 _ _ ?_
        try clear hK21 K21
        refine W.seq fun K22 hK22 => ?_
        refine W.region ?_
        refine SeqOps.put 33 rfl rfl rfl (O.move (v := (.func (.func 114) #[] #[])) rfl rfl ?_)
        refine SeqOps.put 34 rfl rfl rfl (O.move (v := (.slice ao2 l[k].length cap2)) rfl rfl ?_)
        refine SeqOps.put 35 rfl rfl rfl (O.call (fid := 114) (cap := #[]) (args := [(.slice ao2 l[k].length cap2)]) rfl rfl rfl Tryz.func114 rfl rfl ?_)
        refine Calls.mono (read_Sig_calls (a := a) hLM hGM (hel.mono (Hm.right _ _)) (by omega)) ?_
        rintro e w5 hret
        obtain ⟨N5, v5, rfl, n5, hwf, hph⟩ := RetRd.good hd hret
        have n6 := nk.trans n5 (fun i hi => hi.elim)
        have hp6 := hp.new n5
        rw [Hm.assoc] at hp6
        have hM6 : Hm M N5 bp = none := Hm.none hM (by rw [n5.st.low bp hp.lt])
        have own6 : Own (Hm M N5) w5 w.heap.size 89 33 out k (List.flatten css) := (own.ext n5.st.chg).heap fun j hj => Hm.none (own.out j hj) (by rw [n5.st.low j (own.base hj).2])
        have hle6 : Hle M (Hm M N5) := nk.le1 n5
        obtain ⟨q, rfl, hq⟩ := hph
        refine ⟨_, rfl, ?_⟩
        refine SeqOps.put 32 rfl rfl rfl (O.move (v := (.tuple #[(.agg (List.toArray (q.cells))), .nilIface])) rfl rfl ?_)
        refine SeqOps.put 36 rfl rfl rfl (O.extract (v := (.agg (List.toArray (q.cells)))) rfl rfl rfl ?_)
        refine SeqOps.put 37 rfl rfl rfl (O.extract (v := .nilIface) rfl rfl rfl ?_)
        refine SeqOps.put 10 rfl rfl rfl (O.alloc rfl zr89 ?_)
        intro bq wa hbq hbq1 hEa hkq0
        refine SeqOps.eff rfl rfl (O.store (b := bq) (off := 0) (v := .agg (List.toArray q.cells)) (n := 33) (c' := q.cells.toArray) rfl rfl rfl hkq0 sz89 rfl (by decide) (VSig.one hq.ok) rfl ?_)
        intro wb hCb hkq
        have hEb : Ext w5 wb := hEa.trans_new hCb fun i hi => .inl (by omega)
        have hp6' := hp6
        replace n6 := n6.new hEb; replace hp6 := hp6.ext hEb; replace own6 := own6.ext hEb
        refine SeqOps.put 11 rfl rfl rfl (O.assign (v := .nilIface) rfl rfl ?_)
        refine SeqOps.nil ?_
        refine hK22 _ _ ?_
        try clear hK22 K22
        refine W.seq fun K23 hK23 => ?_
        refine W.seq fun K24 hK24 => ?_
        refine W.region ?_
        refine SeqOps.put 38 rfl rfl rfl (O.move (v := .nilIface) rfl rfl ?_)
        refine SeqOps.put 39 rfl rfl rfl (O.ifaceNil (v := .nilIface) (r := false) rfl rfl (.inl rfl) Tryz.underlying162 (.inr ⟨rfl, rfl⟩) ?_)
        refine SeqOps.nil ?_
        refine hK24 _ _ ?_
        try clear hK24 K24
        refine W.cond_false rfl ?_
        refine W.skip ?_
        refine hK23 _ _ ?_
        try clear hK23 K23
        refine W.region ?_
        refine SeqOps.put 46 rfl rfl rfl (O.move (v := out) rfl rfl ?_)
        refine SeqOps.put 47 rfl rfl rfl (O.loadBlk (b := bq) (off := 0) (cs := q.cells) rfl rfl hkq Tryz.underlying89 rfl sz89 rfl ?_)
        refine SeqOps.put 48 rfl rfl rfl (O.buildSlice (vs := [(.agg (List.toArray (q.cells)))]) rfl rfl rfl Tryz.underlying41 inf89 (by intro u hu; simp at hu; subst hu; rfl) (by decide) ?_)
        intro b9 w9 hb9 hb91 hE9 hk9
        have hcat : catV [(.agg (List.toArray (q.cells)))] = q.cells := by simp [catV, Value.cells]
        rw [hcat] at hk9
        have own9 := own6.ext hE9
        have n9 := n6.new hE9
        refine SeqOps.put 49 rfl rfl rfl (O.append (B := w.heap.size) (v := out) (vx := .slice (some ⟨b9, 0, none⟩) 1 1) (m := 1) (xs := List.flatten css) (news := q.cells) rfl rfl rfl Tryz.underlying41 inf89 rfl own9 (Own.ofBlk (H := fun _ => none) (B := 0) (s := 33) (xs := q.cells) hk9 (Nat.zero_le _) rfl rfl (by decide) (VSig.one hq.ok)).rsw rfl (by omega) (by omega) n9.st.chg.size n9.st.agr ?_)
        intro o10 w10 own10 hC10
        refine SeqOps.put 7 rfl rfl rfl (O.assign (v := o10) rfl rfl ?_)
        refine SeqOps.nil ?_
        refine hK20 _ _ ?_
        try clear hK20 K20
        refine W.region ?_
        refine SeqOps.put 50 rfl rfl rfl (O.arith (a := (k : Int)) (b := 1) (r := (k : Int) + 1) (c := (k : Int) + 1) rfl rfl rfl rfl (by exact wrap_i64 (by omega) (by omega)) ?_)
        refine SeqOps.put 28 rfl rfl rfl (O.move (v := (.int .i64 ((k : Int) + 1))) rfl rfl ?_)
        refine SeqOps.nil ?_
        have n10 := n9.step hC10 (fun i hi => ⟨.inl (own9.base hi).1, own9.out i hi⟩)
        have hp10 := (hp6.ext hE9).chg hC10 (fun i hi => ⟨by have := (own9.base hi).1; omega, h0L (own9.base hi).1, Hm.none (h0N (own9.base hi).1) (own9.out i hi)⟩)
        refine ⟨⟨_, _, o10, css ++ [q.cells], k + 1, rfl, by omega, n10, hM6, hp10, hl.mono hle6, by simpa using own10, ?_, ?_, fun ys hy => ?_⟩, by show l.length - ((k + 1 : Nat) : Int).toNat < l.length - ((k : Nat) : Int).toNat; omega⟩
        · intro cs hcs'; rcases List.mem_append.1 hcs' with h' | h'
          · exact hcs cs h'
          · simp at h'; subst h'; rfl
        · rw [hokk, htk, mapO_snoc, hd]; cases mapO dSig (l.take k) <;> rfl
        · rw [htk, mapO_snoc, hd] at hy
          cases hm : mapO dSig (l.take k) with
          | none => rw [hm] at hy; cases hy
          | some zs =>
            rw [hm] at hy; simp at hy; subst hy
            exact ((hall zs hm).imp fun _ _ hc => cSig.mono (by first | exact hle6 | exact hle8) hc).snoc ⟨q, rfl, hq.mono (Hm.right M N5)⟩
      | none =>
        refine W.seq fun K25 hK25 => ?_
        refine W.region ?_
        refine SeqOps.put 29 rfl rfl rfl (O.cmp (a := (k : Int)) (b := (l.length : Int)) (r := true) rfl rfl rfl (by simp [cmpI]; omega) ?_)
        refine SeqOps.nil ?_
        refine hK25 _ _ ?_
        try clear hK25 K25
        refine W.seq fun K26 hK26 => ?_
        refine W.cond_true rfl ?_
        refine W.skip ?_
        refine hK26 _ _ ?_
        try clear hK26 K26
        refine W.seq fun K27 hK27 => ?_
        refine W.block ?_
        refine W.seq fun K28 hK28 => ?_
        refine W.region ?_
        refine SeqOps.put 30 rfl rfl rfl (O.indexAddr (a := ad) (len := l.length) (cap := cap) (i := (k : Int)) (sz := 1) (v := .pointer (some (ad.add k))) rfl rfl rfl Tryz.underlying133 sz22 (by omega) (by omega) (by simp) ?_)
        refine SeqOps.put 31 rfl rfl rfl (O.loadOne (a := ad.add k) (v := .slice ao2 l[k].length cap2) rfl rfl Tryz.underlying22 rfl (nk.st.agr.cell hcel) ?_)
        refine SeqOps.put 9 rfl rfl rfl (O.assign (v := (.slice ao2 l[k].length cap2)) rfl rfl ?_)
        refine SeqOps.nil ?_
        refine hK28 _ _ ?_
        try clear hK28 K28
        refine W.seq fun K29 hK29 => ?_
        refine W.region ?_
        refine SeqOps.put 33 rfl rfl rfl (O.move (v := (.func (.func 114) #[] #[])) rfl rfl ?_)
        refine SeqOps.put 34 rfl rfl rfl (O.move (v := (.slice ao2 l[k].length cap2)) rfl rfl ?_)
        refine SeqOps.put 35 rfl rfl rfl (O.call (fid := 114) (cap := #[]) (args := [(.slice ao2 l[k].length cap2)]) rfl rfl rfl Tryz.func114 rfl rfl ?_)
        refine Calls.mono (read_Sig_calls (a := a) hLM hGM (hel.mono (Hm.right _ _)) (by omega)) ?_
        rintro e w5 hret
        obtain ⟨N5, v5, be, rfl, n5, hwf, her⟩ := RetRd.bad hd hret
        have n6 := nk.trans n5 (fun i hi => hi.elim)
        have hp6 := hp.new n5
        rw [Hm.assoc] at hp6
        have hM6 : Hm M N5 bp = none := Hm.none hM (by rw [n5.st.low bp hp.lt])
        have own6 : Own (Hm M N5) w5 w.heap.size 89 33 out k (List.flatten css) := (own.ext n5.st.chg).heap fun j hj => Hm.none (own.out j hj) (by rw [n5.st.low j (own.base hj).2])
        have hle6 : Hle M (Hm M N5) := nk.le1 n5
        obtain ⟨q, rfl, hqok⟩ := hwf
        refine ⟨_, rfl, ?_⟩
        refine SeqOps.put 32 rfl rfl rfl (O.move (v := (.tuple #[(.agg (List.toArray (q.cells))), (.iface 160 (.pointer (some ⟨be, 0, none⟩)))])) rfl rfl ?_)
        refine SeqOps.put 36 rfl rfl rfl (O.extract (v := (.agg (List.toArray (q.cells)))) rfl rfl rfl ?_)
        refine SeqOps.put 37 rfl rfl rfl (O.extract (v := (.iface 160 (.pointer (some ⟨be, 0, none⟩)))) rfl rfl rfl ?_)
        refine SeqOps.put 10 rfl rfl rfl (O.alloc rfl zr89 ?_)
        intro bq wa hbq hbq1 hEa hkq0
        refine SeqOps.eff rfl rfl (O.store (b := bq) (off := 0) (v := .agg (List.toArray q.cells)) (n := 33) (c' := q.cells.toArray) rfl rfl rfl hkq0 sz89 rfl (by decide) (VSig.one hqok) rfl ?_)
        intro wb hCb hkq
        have hEb : Ext w5 wb := hEa.trans_new hCb fun i hi => .inl (by omega)
        have hp6' := hp6
        replace n6 := n6.new hEb; replace hp6 := hp6.ext hEb; replace own6 := own6.ext hEb
        refine SeqOps.put 11 rfl rfl rfl (O.assign (v := (.iface 160 (.pointer (some ⟨be, 0, none⟩)))) rfl rfl ?_)
        refine SeqOps.nil ?_
        refine hK29 _ _ ?_
        try clear hK29 K29
        refine W.seq fun K30 hK30 => ?_
        refine W.seq fun K31 hK31 => ?_
        refine W.region ?_
        refine SeqOps.put 38 rfl rfl rfl (O.move (v := (.iface 160 (.pointer (some ⟨be, 0, none⟩)))) rfl rfl ?_)
        refine SeqOps.put 39 rfl rfl rfl (O.ifaceNil (v := (.iface 160 (.pointer (some ⟨be, 0, none⟩)))) (r := true) rfl rfl (.inr ⟨_, _, rfl⟩) Tryz.underlying162 (.inr ⟨rfl, rfl⟩) ?_)
        refine SeqOps.nil ?_
        refine hK31 _ _ ?_
        try clear hK31 K31
        refine W.cond_true rfl ?_
        refine W.region ?_
        refine SeqOps.put 40 rfl rfl rfl (O.move (v := (.pointer (some ⟨bp, 0, none⟩))) rfl rfl ?_)
        refine SeqOps.put 41 rfl rfl rfl (O.move (v := (.iface 160 (.pointer (some ⟨be, 0, none⟩)))) rfl rfl ?_)
        refine SeqOps.put 42 rfl rfl rfl (O.build (vps := [(0, (strOf [105, 110, 32, 97, 32, 108, 105, 115, 116])), (1, (.iface 160 (.pointer (some ⟨be, 0, none⟩))))]) (cells := [(strOf [105, 110, 32, 97, 32, 108, 105, 115, 116]), (.iface 160 (.pointer (some ⟨be, 0, none⟩)))]) rfl rfl (by kernel_rfl) ?_)
        refine SeqOps.put 43 rfl rfl rfl (O.box (v := (.agg (List.toArray ([(strOf [105, 110, 32, 97, 32, 108, 105, 115, 116]), (.iface 160 (.pointer (some ⟨be, 0, none⟩)))])))) rfl rfl ?_)
        intro b7 w7 hb7 hb7l hEw7 hkb7
        obtain ⟨h7, hN7, e7⟩ := hp6.wrong hEw7 hb7 hkb7
        refine SeqOps.put 44 rfl rfl rfl (O.makeIface (v := (.pointer (some ⟨b7, 0, none⟩))) rfl rfl Tryz.underlying160 rfl ?_)
        refine SeqOps.put 45 rfl rfl rfl (O.call (fid := 126) (cap := #[]) (args := [(.pointer (some ⟨bp, 0, none⟩)), (.iface 160 (.pointer (some ⟨b7, 0, none⟩)))]) rfl rfl rfl Tryz.func126 rfl rfl ?_)
        refine Calls.mono (bad_calls h7 (.wrap (Hadd_same _ _ _) (her.mono (Hle.trans (Hm.right M N5) (Hle.trans (Hm.right N _) (Hle.add _ (hp6.agrN.none hb7))))))) ?_
        rintro e w8 ⟨rfl, h8, hC8⟩
        have hlt6 := hp6.lt
        have hM7 : Hm (Hm M N5) (Hadd NH b7 (Obj.cells ((.agg (List.toArray ([(strOf [105, 110, 32, 97, 32, 108, 105, 115, 116]), (.iface 160 (.pointer (some ⟨be, 0, none⟩)))]))) : Value).cells 164 (0, 0))) bp = none := Hm.none hM6 (by rw [Hadd_ne _ _ (by omega)])
        have n8 := (n6.trans hN7 (fun i hi => hi.elim)).step hC8 (fun i hi => ⟨.inr hi, by subst hi; exact hM7⟩)
        rw [← e7, Hm.assoc] at h8
        have own8 : Own (Hm (Hm M N5) (Hadd NH b7 (Obj.cells ((.agg (List.toArray ([(strOf [105, 110, 32, 97, 32, 108, 105, 115, 116]), (.iface 160 (.pointer (some ⟨be, 0, none⟩)))]))) : Value).cells 164 (0, 0)))) w8 w.heap.size 89 33 out k (List.flatten css) := ((own6.ext hEw7).chg hC8 fun j hj e => by subst e; have := (own6.base hj).1; omega).heap fun j hj => Hm.none (own6.out j hj) (by have := (own6.base hj).2; rw [Hadd_ne _ _ (by omega)])
        have hkq8 := hC8.blk (Ext.blk hEw7 hkq) (by have := hp6'.lt; omega)
        have hle8 : Hle M (Hm (Hm M N5) (Hadd NH b7 (Obj.cells ((.agg (List.toArray ([(strOf [105, 110, 32, 97, 32, 108, 105, 115, 116]), (.iface 160 (.pointer (some ⟨be, 0, none⟩)))]))) : Value).cells 164 (0, 0)))) := hle6.trans (n6.le1 hN7)
        refine ⟨_, rfl, ?_⟩
        refine SeqOps.nil ?_
        refine hK30 _ _ ?_
        try clear hK30 K30
        refine W.region ?_
        refine SeqOps.put 46 rfl rfl rfl (O.move (v := out) rfl rfl ?_)
        refine SeqOps.put 47 rfl rfl rfl (O.loadBlk (b := bq) (off := 0) (cs := q.cells) rfl rfl hkq8 Tryz.underlying89 rfl sz89 rfl ?_)
        refine SeqOps.put 48 rfl rfl rfl (O.buildSlice (vs := [(.agg (List.toArray (q.cells)))]) rfl rfl rfl Tryz.underlying41 inf89 (by intro u hu; simp at hu; subst hu; rfl) (by decide) ?_)
        intro b9 w9 hb9 hb91 hE9 hk9
        have hcat : catV [(.agg (List.toArray (q.cells)))] = q.cells := by simp [catV, Value.cells]
        rw [hcat] at hk9
        have own9 := own8.ext hE9
        have n9 := n8.new hE9
        refine SeqOps.put 49 rfl rfl rfl (O.append (B := w.heap.size) (v := out) (vx := .slice (some ⟨b9, 0, none⟩) 1 1) (m := 1) (xs := List.flatten css) (news := q.cells) rfl rfl rfl Tryz.underlying41 inf89 rfl own9 (Own.ofBlk (H := fun _ => none) (B := 0) (s := 33) (xs := q.cells) hk9 (Nat.zero_le _) rfl rfl (by decide) (VSig.one hqok)).rsw rfl (by omega) (by omega) n9.st.chg.size n9.st.agr ?_)
        intro o10 w10 own10 hC10
        refine SeqOps.put 7 rfl rfl rfl (O.assign (v := o10) rfl rfl ?_)
        refine SeqOps.nil ?_
        refine hK27 _ _ ?_
        try clear hK27 K27
        refine W.region ?_
        refine SeqOps.put 50 rfl rfl rfl (O.arith (a := (k : Int)) (b := 1) (r := (k : Int) + 1) (c := (k : Int) + 1) rfl rfl rfl rfl (by exact wrap_i64 (by omega) (by omega)) ?_)
        refine SeqOps.put 28 rfl rfl rfl (O.move (v := (.int .i64 ((k : Int) + 1))) rfl rfl ?_)
        refine SeqOps.nil ?_
        have n10 := n9.step hC10 (fun i hi => ⟨.inl (own9.base hi).1, own9.out i hi⟩)
        have hp10 := (h8.ext hE9).chg hC10 (fun i hi => ⟨by have := (own9.base hi).1; omega, h0L (own9.base hi).1, Hm.none (h0N (own9.base hi).1) (own9.out i hi)⟩)
        refine ⟨⟨_, _, o10, css ++ [q.cells], k + 1, rfl, by omega, n10, hM7, hp10, hl.mono hle8, by simpa using own10, ?_, ?_, fun ys hy => ?_⟩, by show l.length - ((k + 1 : Nat) : Int).toNat < l.length - ((k : Nat) : Int).toNat; omega⟩
        · intro cs hcs'; rcases List.mem_append.1 hcs' with h' | h'
          · exact hcs cs h'
          · simp at h'; subst h'; rfl
        · rw [htk, mapO_snoc, hd]; cases mapO dSig (l.take k) <;> simp
        · rw [htk, mapO_snoc, hd] at hy; cases mapO dSig (l.take k) <;> simp at hy
    have hkl : k = l.length := by omega
    refine W.seq fun K32 hK32 => ?_
    refine W.region ?_
    refine SeqOps.put 29 rfl rfl rfl (O.cmp (a := (k : Int)) (b := (l.length : Int)) (r := false) rfl rfl rfl (by simp [cmpI]; omega) ?_)
    refine SeqOps.nil ?_
    refine hK32 _ _ ?_
    try clear hK32 K32
    refine W.seq fun K33 hK33 => ?_
    refine W.cond_false rfl ?_
    refine W.exit ?_
    refine hK16 _ _ ?_
    try clear hK16 K16
    refine W.seq fun K34 hK34 => ?_
    refine W.region ?_
    refine SeqOps.put 51 rfl rfl rfl (O.move (v := out) rfl rfl ?_)
    refine SeqOps.put 4 rfl rfl rfl (O.assign (v := out) rfl rfl ?_)
    refine SeqOps.nil ?_
    refine hK34 _ _ ?_
    try clear hK34 K34
    refine W.ret ?_
    subst hkl
    rw [List.take_length] at hokk hall
    obtain ⟨M2, hle2, n2, hsame, rs2⟩ := own.join nk (Nat.le_refl _)
    have hM2 : M2 bp = none := by rw [hsame bp fun e => by have := (own.base e).1; omega]; exact hM
    have hdl : dList dSig b = mapO dSig l := by unfold dList; rw [hsp]; rfl
    obtain ⟨aof, capf, hof⟩ := rs2.form
    refine retQ_one rfl rfl ⟨M2, out, rfl, n2, hM2, ?_, ⟨_, _, _, hof⟩, fun ys hy => ?_⟩
    · rw [hdl, ← hokk]
      obtain ⟨lv, ev, hblk, hrb, hev⟩ := hp.blk
      refine h.next n2 hM2 ⟨lv, ev, hblk, hrb, hev.imp id fun ⟨e1, e2⟩ => ⟨e1, e2.mono ?_⟩⟩
      intro j o ho; unfold Hm at ho ⊢
      cases hj : M j with
      | some o' => rw [hj] at ho; rw [hle2 j o' hj]; exact ho
      | none =>
        rw [hj] at ho
        have hno := h.agrN.lt ho
        rw [show M2 j = none by rw [n2.st.low j hno]]; exact ho
    · rw [hdl] at hy
      have h2 := hall ys hy
      refine ⟨css, h2.imp fun _ _ hc => cSig.mono hle2 hc, hcs, ?_⟩
      have hlen2 := mapO_length hy
      rw [hlen2]; exact rs2

theorem one_Sig_calls {a : Addr} {HL N : Heap} {w : World} {bp : Nat} {b : List UInt8} {rem : List (List UInt8)} {ok : Bool} (h : PS a HL N w bp (b :: rem) ok) (hlen : b.length ≤ 1099511627776) :
    Calls Tryz.prog 120 #[.pointer (some ⟨bp, 0, none⟩), .func (.func 114) #[] #[]] w (RetP a HL N w bp rem (ok && (dSig b).isSome) (fun M v => ∃ q : VSig, v = .agg (List.toArray q.cells) ∧ q.ok ∧ ∀ y, dSig b = some y → RSig M q y)) := by
  have hlt0 := h.lt
  have h0L : ∀ {k}, w.heap.size ≤ k → HL k = none := fun hk => h.agrL.none hk
  have h0N : ∀ {k}, w.heap.size ≤ k → N k = none := fun hk => h.agrN.none hk
  cases hd : dSig b with
  | some y =>
    refine calls_of_W (n := 23) Tryz.func120 rfl Tryz.ntmps120 (Nat.le_of_ble_eq_true rfl) ?_
    refine W.seq fun K1 hK1 => ?_
    refine W.region ?_
    refine SeqOps.put 4 rfl rfl rfl (O.alloc rfl zr89 ?_)
    intro br w0 hbr hbr1 hE0 hk0
    have h0 := h.ext hE0
    refine SeqOps.nil ?_
    refine hK1 _ _ ?_
    try clear hK1 K1
    refine W.seq fun K2 hK2 => ?_
    refine W.region ?_
    refine SeqOps.put 8 rfl rfl rfl (O.move (v := (.func (.func 114) #[] #[])) rfl rfl ?_)
    refine SeqOps.put 9 rfl rfl rfl (O.move (v := (.pointer (some ⟨bp, 0, none⟩))) rfl rfl ?_)
    refine SeqOps.put 10 rfl rfl rfl (O.call (fid := 125) (cap := #[]) (args := [(.pointer (some ⟨bp, 0, none⟩))]) rfl rfl rfl Tryz.func125 rfl rfl ?_)
    refine Calls.mono (next_calls h0) ?_
    rintro e w1 ⟨v1, rfl, hr, h1, hC1⟩
    have hne : br ≠ bp := by omega
    have hk1 := hC1.blk hk0 hne
    refine ⟨_, rfl, ?_⟩
    refine SeqOps.put 11 rfl rfl rfl (O.call (fid := 114) (cap := #[]) (args := [v1]) rfl rfl rfl Tryz.func114 rfl rfl ?_)
    refine Calls.mono (read_Sig_calls (a := a) h1.agrL h1.glob hr (by omega)) ?_
    rintro e w5 hret
    obtain ⟨N5, v5, rfl, n5, hwf, hph⟩ := RetRd.good hd hret
    obtain ⟨q, rfl, hq⟩ := hph
    have hqok := hq.ok
    have hp5 := h1.new n5
    have hM5 : N5 bp = none := by rw [n5.st.low bp h1.lt]
    have hk5 := Ext.blk n5.st.chg hk1
    have n5' := (((New.start w (· = bp)).new hE0).trans (New.ofChg hC1) (fun i hi => ⟨.inr hi, rfl⟩)).trans n5 (fun i hi => hi.elim)
    rw [Hm.nilL, Hm.nilL] at n5'
    refine ⟨_, rfl, ?_⟩
    refine SeqOps.put 7 rfl rfl rfl (O.move (v := (.tuple #[(.agg (List.toArray (q.cells))), .nilIface])) rfl rfl ?_)
    refine SeqOps.put 12 rfl rfl rfl (O.extract (v := (.agg (List.toArray (q.cells)))) rfl rfl rfl ?_)
    refine SeqOps.put 13 rfl rfl rfl (O.extract (v := .nilIface) rfl rfl rfl ?_)
    refine SeqOps.put 5 rfl rfl rfl (O.alloc rfl zr89 ?_)
    intro bq w6 hbq hbq1 hE6 hkq0
    refine SeqOps.eff rfl rfl (O.store (b := bq) (off := 0) (v := .agg (List.toArray q.cells)) (n := 33) (c' := q.cells.toArray) rfl rfl rfl hkq0 sz89 rfl (by decide) (VSig.one hqok) rfl ?_)
    intro w7 hC7 hkq
    have hE7 : Ext w5 w7 := hE6.trans_new hC7 fun i hi => .inl (by omega)
    have n7 := n5'.new hE7
    have hp7 := hp5.ext hE7
    have hk7 := Ext.blk hE7 hk5
    refine SeqOps.put 6 rfl rfl rfl (O.assign (v := .nilIface) rfl rfl ?_)
    refine SeqOps.nil ?_
    refine hK2 _ _ ?_
    try clear hK2 K2
    refine W.seq fun K3 hK3 => ?_
    refine W.seq fun K4 hK4 => ?_
    refine W.region ?_
    refine SeqOps.put 14 rfl rfl rfl (O.move (v := .nilIface) rfl rfl ?_)
    refine SeqOps.put 15 rfl rfl rfl (O.ifaceNil (v := .nilIface) (r := false) rfl rfl (.inl rfl) Tryz.underlying162 (.inr ⟨rfl, rfl⟩) ?_)
    refine SeqOps.nil ?_
    refine hK4 _ _ ?_
    try clear hK4 K4
    refine W.cond_false rfl ?_
    refine W.skip ?_
    refine hK3 _ _ ?_
    try clear hK3 K3
    refine W.seq fun K5 hK5 => ?_
    refine W.region ?_
    refine SeqOps.put 22 rfl rfl rfl (O.loadBlk (b := bq) (off := 0) (cs := q.cells) rfl rfl hkq Tryz.underlying89 rfl sz89 rfl ?_)
    refine SeqOps.eff rfl rfl (O.store (b := br) (off := 0) (v := .agg (List.toArray q.cells)) (n := 33) (c' := q.cells.toArray) rfl rfl rfl hk7 sz89 rfl (by decide) (VSig.one hqok) rfl ?_)
    intro wf hCf hkf
    refine SeqOps.nil ?_
    refine hK5 _ _ ?_
    try clear hK5 K5
    refine W.ret ?_
    have hrM := n7.st.agr
    have hMr : N5 br = none := by rw [n5.st.low br (Nat.lt_of_lt_of_le hbr1 hC1.size)]
    have nf := n7.step hCf (fun i hi => ⟨.inl (by omega), by subst hi; exact hMr⟩)
    have hpf := hp7.chg hCf (fun i hi => by subst hi; exact ⟨hne, h0L hbr, Hm.none (h0N hbr) hMr⟩)
    refine retQ_cell (b := br) (cs := q.cells) rfl rfl hkf Tryz.underlying89 rfl sz89 ⟨N5, _, rfl, nf, hM5, ?_, q, rfl, hqok, fun z hz => ?_⟩
    · try rw [hd]
      simpa using hpf
    · try rw [hd] at hz
      cases hz; exact hq
  | none =>
    refine calls_of_W (n := 23) Tryz.func120 rfl Tryz.ntmps120 (Nat.le_of_ble_eq_true rfl) ?_
    refine W.seq fun K6 hK6 => ?_
    refine W.region ?_
    refine SeqOps.put 4 rfl rfl rfl (O.alloc rfl zr89 ?_)
    intro br w0 hbr hbr1 hE0 hk0
    have h0 := h.ext hE0
    refine SeqOps.nil ?_
    refine hK6 _ _ ?_
    try clear hK6 K6
    refine W.seq fun K7 hK7 => ?_
    refine W.region ?_
    refine SeqOps.put 8 rfl rfl rfl (O.move (v := (.func (.func 114) #[] #[])) rfl rfl ?_)
    refine SeqOps.put 9 rfl rfl rfl (O.move (v := (.pointer (some ⟨bp, 0, none⟩))) rfl rfl ?_)
    refine SeqOps.put 10 rfl rfl rfl (O.call (fid := 125) (cap := #[]) (args := [(.pointer (some ⟨bp, 0, none⟩))]) rfl rfl rfl Tryz.func125 rfl rfl ?_)
    refine Calls.mono (next_calls h0) ?_
    rintro e w1 ⟨v1, rfl, hr, h1, hC1⟩
    have hne : br ≠ bp := by omega
    have hk1 := hC1.blk hk0 hne
    refine ⟨_, rfl, ?_⟩
    refine SeqOps.put 11 rfl rfl rfl (O.call (fid := 114) (cap := #[]) (args := [v1]) rfl rfl rfl Tryz.func114 rfl rfl ?_)
    refine Calls.mono (read_Sig_calls (a := a) h1.agrL h1.glob hr (by omega)) ?_
    rintro e w5 hret
    obtain ⟨N5, v5, be, rfl, n5, hwf, her⟩ := RetRd.bad hd hret
    obtain ⟨q, rfl, hqok⟩ := hwf
    have hp5 := h1.new n5
    have hM5 : N5 bp = none := by rw [n5.st.low bp h1.lt]
    have hk5 := Ext.blk n5.st.chg hk1
    have n5' := (((New.start w (· = bp)).new hE0).trans (New.ofChg hC1) (fun i hi => ⟨.inr hi, rfl⟩)).trans n5 (fun i hi => hi.elim)
    rw [Hm.nilL, Hm.nilL] at n5'
    refine ⟨_, rfl, ?_⟩
    refine SeqOps.put 7 rfl rfl rfl (O.move (v := (.tuple #[(.agg (List.toArray (q.cells))), (.iface 160 (.pointer (some ⟨be, 0, none⟩)))])) rfl rfl ?_)
    refine SeqOps.put 12 rfl rfl rfl (O.extract (v := (.agg (List.toArray (q.cells)))) rfl rfl rfl ?_)
    refine SeqOps.put 13 rfl rfl rfl (O.extract (v := (.iface 160 (.pointer (some ⟨be, 0, none⟩)))) rfl rfl rfl ?_)
    refine SeqOps.put 5 rfl rfl rfl (O.alloc rfl zr89 ?_)
    intro bq w6 hbq hbq1 hE6 hkq0
    refine SeqOps.eff rfl rfl (O.store (b := bq) (off := 0) (v := .agg (List.toArray q.cells)) (n := 33) (c' := q.cells.toArray) rfl rfl rfl hkq0 sz89 rfl (by decide) (VSig.one hqok) rfl ?_)
    intro w7 hC7 hkq
    have hE7 : Ext w5 w7 := hE6.trans_new hC7 fun i hi => .inl (by omega)
    have n7 := n5'.new hE7
    have hp7 := hp5.ext hE7
    have hk7 := Ext.blk hE7 hk5
    refine SeqOps.put 6 rfl rfl rfl (O.assign (v := (.iface 160 (.pointer (some ⟨be, 0, none⟩)))) rfl rfl ?_)
    refine SeqOps.nil ?_
    refine hK7 _ _ ?_
    try clear hK7 K7
    refine W.seq fun K8 hK8 => ?_
    refine W.seq fun K9 hK9 => ?_
    refine W.region ?_
    refine SeqOps.put 14 rfl rfl rfl (O.move (v := (.iface 160 (.pointer (some ⟨be, 0, none⟩)))) rfl rfl ?_)
    refine SeqOps.put 15 rfl rfl rfl (O.ifaceNil (v := (.iface 160 (.pointer (some ⟨be, 0, none⟩)))) (r := true) rfl rfl (.inr ⟨_, _, rfl⟩) Tryz.underlying162 (.inr ⟨rfl, rfl⟩) ?_)
    refine SeqOps.nil ?_
    refine hK9 _ _ ?_
    try clear hK9 K9
    refine W.cond_true rfl ?_
    refine W.region ?_
    refine SeqOps.put 16 rfl rfl rfl (O.move (v := (.pointer (some ⟨bp, 0, none⟩))) rfl rfl ?_)
    refine SeqOps.put 17 rfl rfl rfl (O.move (v := (.iface 160 (.pointer (some ⟨be, 0, none⟩)))) rfl rfl ?_)
    refine SeqOps.put 18 rfl rfl rfl (O.build (vps := [(0, (strOf [119, 105, 116, 104, 105, 110])), (1, (.iface 160 (.pointer (some ⟨be, 0, none⟩))))]) (cells := [(strOf [119, 105, 116, 104, 105, 110]), (.iface 160 (.pointer (some ⟨be, 0, none⟩)))]) rfl rfl (by kernel_rfl) ?_)
    refine SeqOps.put 19 rfl rfl rfl (O.box (v := (.agg (List.toArray ([(strOf [119, 105, 116, 104, 105, 110]), (.iface 160 (.pointer (some ⟨be, 0, none⟩)))])))) rfl rfl ?_)
    intro b7 w8 hb7 hb7l hEw8 hkb7
    obtain ⟨h8, hN8, e8⟩ := hp7.wrong hEw8 hb7 hkb7
    refine SeqOps.put 20 rfl rfl rfl (O.makeIface (v := (.pointer (some ⟨b7, 0, none⟩))) rfl rfl Tryz.underlying160 rfl ?_)
    refine SeqOps.put 21 rfl rfl rfl (O.call (fid := 126) (cap := #[]) (args := [(.pointer (some ⟨bp, 0, none⟩)), (.iface 160 (.pointer (some ⟨b7, 0, none⟩)))]) rfl rfl rfl Tryz.func126 rfl rfl ?_)
    refine Calls.mono (bad_calls h8 (.wrap (Hadd_same _ _ _) (her.mono (Hle.trans (Hm.right N N5) (Hle.add _ (hp7.agrN.none hb7)))))) ?_
    rintro e w9 ⟨rfl, h9, hC9⟩
    have hlt7 := hp7.lt
    have hM9 : Hm N5 (Hadd NH b7 (Obj.cells ((.agg (List.toArray ([(strOf [119, 105, 116, 104, 105, 110]), (.iface 160 (.pointer (some ⟨be, 0, none⟩)))]))) : Value).cells 164 (0, 0))) bp = none := Hm.none hM5 (by rw [Hadd_ne _ _ (by omega)])
    have n9 := (n7.trans hN8 (fun i hi => hi.elim)).step hC9 (fun i hi => ⟨.inr hi, by subst hi; exact hM9⟩)
    rw [← e8, Hm.assoc] at h9
    have hk9 := hC9.blk (Ext.blk hEw8 hk7) hne
    have hkq9 := hC9.blk (Ext.blk hEw8 hkq) (by have := hE0.size; have := hC1.size; have := n5.st.chg.size; omega)
    refine ⟨_, rfl, ?_⟩
    refine SeqOps.nil ?_
    refine hK8 _ _ ?_
    try clear hK8 K8
    refine W.seq fun K10 hK10 => ?_
    refine W.region ?_
    refine SeqOps.put 22 rfl rfl rfl (O.loadBlk (b := bq) (off := 0) (cs := q.cells) rfl rfl hkq9 Tryz.underlying89 rfl sz89 rfl ?_)
    refine SeqOps.eff rfl rfl (O.store (b := br) (off := 0) (v := .agg (List.toArray q.cells)) (n := 33) (c' := q.cells.toArray) rfl rfl rfl hk9 sz89 rfl (by decide) (VSig.one hqok) rfl ?_)
    intro wf hCf hkf
    refine SeqOps.nil ?_
    refine hK10 _ _ ?_
    try clear hK10 K10
    refine W.ret ?_
    have hrM := n9.st.agr
    have hMr : Hm N5 (Hadd NH b7 (Obj.cells ((.agg (List.toArray ([(strOf [119, 105, 116, 104, 105, 110]), (.iface 160 (.pointer (some ⟨be, 0, none⟩)))]))) : Value).cells 164 (0, 0))) br = none := Hm.none (by rw [n5.st.low br (Nat.lt_of_lt_of_le hbr1 hC1.size)]) (by have h1 := hC1.size; have h2 := n5.st.chg.size; have h3 := hE7.size; rw [Hadd_ne _ _ (by omega)])
    have nf := n9.step hCf (fun i hi => ⟨.inl (by omega), by subst hi; exact hMr⟩)
    have hpf := h9.chg hCf (fun i hi => by subst hi; exact ⟨hne, h0L hbr, Hm.none (h0N hbr) hMr⟩)
    refine retQ_cell (b := br) (cs := q.cells) rfl rfl hkf Tryz.underlying89 rfl sz89 ⟨_, _, rfl, nf, hM9, ?_, q, rfl, hqok, fun z hz => ?_⟩
    · try rw [hd]
      simpa using hpf
    · try rw [hd] at hz
      cases hz

def wfHeader (v : Value) : Prop := ∃ q : VHeader, v = .agg (List.toArray q.cells) ∧ q.ok
def phHeader (N : Heap) (v : Value) (y : DHeader) : Prop := ∃ q : VHeader, v = .agg (List.toArray q.cells) ∧ RHeader N q y
set_option maxHeartbeats 1000000 in
theorem read_Header_calls {a : Addr} {H : Heap} {w : World} {v : Value} {bs : List UInt8} (hA : Agr H w) (hG : hcell H ⟨1, 0, none⟩ = some (eS a)) (r : RB H v bs) (hlen : bs.length ≤ 1099511627776) :
    Calls Tryz.prog 64 #[v] w (RetRd a dHeader wfHeader phHeader w bs) := by
  refine calls_of_W (n := 30) Tryz.func64 rfl Tryz.ntmps64 (Nat.le_of_ble_eq_true rfl) ?_
  refine W.seq fun K1 hK1 => ?_
  refine W.region ?_
  refine SeqOps.put 2 rfl rfl rfl (O.alloc rfl zr59 ?_)
  intro br w0 hbr hbr1 hE0 hk0
  refine SeqOps.put 3 rfl rfl rfl (O.assign (v := .nilIface) rfl rfl ?_)
  refine SeqOps.nil ?_
  refine hK1 _ _ ?_
  try clear hK1 K1
  refine W.seq fun K2 hK2 => ?_
  refine W.region ?_
  refine SeqOps.put 6 rfl rfl rfl (O.move (v := v) rfl rfl ?_)
  refine SeqOps.put 7 rfl rfl rfl (O.call (fid := 87) (cap := #[]) (args := [v, (.int .i64 (8)), (strOf [97, 32, 104, 101, 97, 100, 101, 114])]) rfl rfl rfl Tryz.func87 rfl rfl ?_)
  refine Calls.mono (split_calls (a := a) (n := 8) (Ext.agr hE0 hA) hG r hlen (by omega)) ?_
  rintro e w1 ⟨N0, bp, rem, okS, rfl, n0, hbp, hps, hrl, hok1, hok2, hrle⟩
  obtain ⟨b0, b1, b2, b3, b4, b5, b6, b7, rfl⟩ : ∃ b0 b1 b2 b3 b4 b5 b6 b7, rem = [b0, b1, b2, b3, b4, b5, b6, b7] := by match rem, hrl with | [b0, b1, b2, b3, b4, b5, b6, b7], _ => exact ⟨b0, b1, b2, b3, b4, b5, b6, b7, rfl⟩
  have hbrp : br ≠ bp := by omega
  have hkr := Ext.blk n0.st.chg hk0
  have nn0 := ((New.start w NoX).new hE0).trans n0 (fun i hi => hi.elim)
  rw [Hm.nilL] at nn0
  have hr0 : N0 br = none := by rw [n0.st.low br hbr1]
  refine ⟨_, rfl, ?_⟩
  refine SeqOps.put 4 rfl rfl rfl (O.assign (v := (.pointer (some ⟨bp, 0, none⟩))) rfl rfl ?_)
  refine SeqOps.nil ?_
  refine hK2 _ _ ?_
  try clear hK2 K2
  refine W.seq fun K3 hK3 => ?_
  refine W.region ?_
  refine SeqOps.put 8 rfl rfl rfl (O.move (v := (.pointer (some ⟨bp, 0, none⟩))) rfl rfl ?_)
  refine SeqOps.put 9 rfl rfl rfl (O.call (fid := 88) (cap := #[]) (args := [(.pointer (some ⟨bp, 0, none⟩))]) rfl rfl rfl Tryz.func88 rfl rfl ?_)
  refine Calls.mono (pint_calls hps) ?_
  rintro e wm1 ⟨M1, v0_, rfl, nm1, hM1, hp1, ⟨f0, rfl, hrng0, hy0⟩⟩
  have nn1 := nn0.trans nm1 (fun i hi => ⟨.inl (by subst hi; have := hE0.size; omega), by subst hi; exact hps.outN⟩)
  have hkr1 := nm1.st.chg.blk hkr hbrp
  have hr1 : Hm N0 M1 br = none := Hm.none hr0 (by rw [nm1.st.low br (blk_lt hkr)])
  have hle1 : Hle N0 (Hm N0 M1) := nn0.le1 nm1
  refine ⟨_, rfl, ?_⟩
  refine SeqOps.put 10 rfl rfl rfl (O.move (v := (.pointer (some ⟨bp, 0, none⟩))) rfl rfl ?_)
  refine SeqOps.put 11 rfl rfl rfl (O.call (fid := 88) (cap := #[]) (args := [(.pointer (some ⟨bp, 0, none⟩))]) rfl rfl rfl Tryz.func88 rfl rfl ?_)
  refine Calls.mono (pint_calls hp1) ?_
  rintro e wm2 ⟨M2, v1_, rfl, nm2, hM2, hp2, ⟨f1, rfl, hrng1, hy1⟩⟩
  have nn2 := nn1.trans nm2 (fun i hi => ⟨.inl (by subst hi; have := hE0.size; omega), by subst hi; exact hp1.outN⟩)
  have hkr2 := nm2.st.chg.blk hkr1 hbrp
  have hr2 : Hm (Hm N0 M1) M2 br = none := Hm.none hr1 (by rw [nm2.st.low br (blk_lt hkr1)])
  have hle2 : Hle (Hm N0 M1) (Hm (Hm N0 M1) M2) := nn1.le1 nm2
  refine ⟨_, rfl, ?_⟩
  refine SeqOps.put 12 rfl rfl rfl (O.move (v := (.pointer (some ⟨bp, 0, none⟩))) rfl rfl ?_)
  refine SeqOps.put 13 rfl rfl rfl (O.call (fid := 89) (cap := #[]) (args := [(.pointer (some ⟨bp, 0, none⟩))]) rfl rfl rfl Tryz.func89 rfl rfl ?_)
  refine Calls.mono (pn_calls hp2) ?_
  rintro e wm3 ⟨M3, v2_, rfl, nm3, hM3, hp3, ⟨f2, rfl, hrng2, hy2⟩⟩
  have nn3 := nn2.trans nm3 (fun i hi => ⟨.inl (by subst hi; have := hE0.size; omega), by subst hi; exact hp2.outN⟩)
  have hkr3 := nm3.st.chg.blk hkr2 hbrp
  have hr3 : Hm (Hm (Hm N0 M1) M2) M3 br = none := Hm.none hr2 (by rw [nm3.st.low br (blk_lt hkr2)])
  have hle3 : Hle (Hm (Hm N0 M1) M2) (Hm (Hm (Hm N0 M1) M2) M3) := nn2.le1 nm3
  refine ⟨_, rfl, ?_⟩
  refine SeqOps.put 14 rfl rfl rfl (O.move (v := (.pointer (some ⟨bp, 0, none⟩))) rfl rfl ?_)
  refine SeqOps.put 15 rfl rfl rfl (O.call (fid := 89) (cap := #[]) (args := [(.pointer (some ⟨bp, 0, none⟩))]) rfl rfl rfl Tryz.func89 rfl rfl ?_)
  refine Calls.mono (pn_calls hp3) ?_
  rintro e wm4 ⟨M4, v3_, rfl, nm4, hM4, hp4, ⟨f3, rfl, hrng3, hy3⟩⟩
  have nn4 := nn3.trans nm4 (fun i hi => ⟨.inl (by subst hi; have := hE0.size; omega), by subst hi; exact hp3.outN⟩)
  have hkr4 := nm4.st.chg.blk hkr3 hbrp
  have hr4 : Hm (Hm (Hm (Hm N0 M1) M2) M3) M4 br = none := Hm.none hr3 (by rw [nm4.st.low br (blk_lt hkr3)])
  have hle4 : Hle (Hm (Hm (Hm N0 M1) M2) M3) (Hm (Hm (Hm (Hm N0 M1) M2) M3) M4) := nn3.le1 nm4
  refine ⟨_, rfl, ?_⟩
  refine SeqOps.put 16 rfl rfl rfl (O.move (v := (.pointer (some ⟨bp, 0, none⟩))) rfl rfl ?_)
  refine SeqOps.put 17 rfl rfl rfl (O.call (fid := 90) (cap := #[]) (args := [(.pointer (some ⟨bp, 0, none⟩))]) rfl rfl rfl Tryz.func90 rfl rfl ?_)
  refine Calls.mono (pdigest_calls hp4) ?_
  rintro e wm5 ⟨M5, v4_, rfl, nm5, hM5, hp5, ⟨f4, rfl, hy4⟩⟩
  have nn5 := nn4.trans nm5 (fun i hi => ⟨.inl (by subst hi; have := hE0.size; omega), by subst hi; exact hp4.outN⟩)
  have hkr5 := nm5.st.chg.blk hkr4 hbrp
  have hr5 : Hm (Hm (Hm (Hm (Hm N0 M1) M2) M3) M4) M5 br = none := Hm.none hr4 (by rw [nm5.st.low br (blk_lt hkr4)])
  have hle5 : Hle (Hm (Hm (Hm (Hm N0 M1) M2) M3) M4) (Hm (Hm (Hm (Hm (Hm N0 M1) M2) M3) M4) M5) := nn4.le1 nm5
  refine ⟨_, rfl, ?_⟩
  refine SeqOps.put 18 rfl rfl rfl (O.move (v := (.pointer (some ⟨bp, 0, none⟩))) rfl rfl ?_)
  refine SeqOps.put 19 rfl rfl rfl (O.call (fid := 90) (cap := #[]) (args := [(.pointer (some ⟨bp, 0, none⟩))]) rfl rfl rfl Tryz.func90 rfl rfl ?_)
  refine Calls.mono (pdigest_calls hp5) ?_
  rintro e wm6 ⟨M6, v5_, rfl, nm6, hM6, hp6, ⟨f5, rfl, hy5⟩⟩
  have nn6 := nn5.trans nm6 (fun i hi => ⟨.inl (by subst hi; have := hE0.size; omega), by subst hi; exact hp5.outN⟩)
  have hkr6 := nm6.st.chg.blk hkr5 hbrp
  have hr6 : Hm (Hm (Hm (Hm (Hm (Hm N0 M1) M2) M3) M4) M5) M6 br = none := Hm.none hr5 (by rw [nm6.st.low br (blk_lt hkr5)])
  have hle6 : Hle (Hm (Hm (Hm (Hm (Hm N0 M1) M2) M3) M4) M5) (Hm (Hm (Hm (Hm (Hm (Hm N0 M1) M2) M3) M4) M5) M6) := nn5.le1 nm6
  refine ⟨_, rfl, ?_⟩
  refine SeqOps.put 20 rfl rfl rfl (O.move (v := (.pointer (some ⟨bp, 0, none⟩))) rfl rfl ?_)
  refine SeqOps.put 21 rfl rfl rfl (O.call (fid := 90) (cap := #[]) (args := [(.pointer (some ⟨bp, 0, none⟩))]) rfl rfl rfl Tryz.func90 rfl rfl ?_)
  refine Calls.mono (pdigest_calls hp6) ?_
  rintro e wm7 ⟨M7, v6_, rfl, nm7, hM7, hp7, ⟨f6, rfl, hy6⟩⟩
  have nn7 := nn6.trans nm7 (fun i hi => ⟨.inl (by subst hi; have := hE0.size; omega), by subst hi; exact hp6.outN⟩)
  have hkr7 := nm7.st.chg.blk hkr6 hbrp
  have hr7 : Hm (Hm (Hm (Hm (Hm (Hm (Hm N0 M1) M2) M3) M4) M5) M6) M7 br = none := Hm.none hr6 (by rw [nm7.st.low br (blk_lt hkr6)])
  have hle7 : Hle (Hm (Hm (Hm (Hm (Hm (Hm N0 M1) M2) M3) M4) M5) M6) (Hm (Hm (Hm (Hm (Hm (Hm (Hm N0 M1) M2) M3) M4) M5) M6) M7) := nn6.le1 nm7
  refine ⟨_, rfl, ?_⟩
  refine SeqOps.put 22 rfl rfl rfl (O.move (v := (.pointer (some ⟨bp, 0, none⟩))) rfl rfl ?_)
  refine SeqOps.put 23 rfl rfl rfl (O.call (fid := 88) (cap := #[]) (args := [(.pointer (some ⟨bp, 0, none⟩))]) rfl rfl rfl Tryz.func88 rfl rfl ?_)
  refine Calls.mono (pint_calls hp7) ?_
  rintro e wm8 ⟨M8, v7_, rfl, nm8, hM8, hp8, ⟨f7, rfl, hrng7, hy7⟩⟩
  have nn8 := nn7.trans nm8 (fun i hi => ⟨.inl (by subst hi; have := hE0.size; omega), by subst hi; exact hp7.outN⟩)
  have hkr8 := nm8.st.chg.blk hkr7 hbrp
  have hr8 : Hm (Hm (Hm (Hm (Hm (Hm (Hm (Hm N0 M1) M2) M3) M4) M5) M6) M7) M8 br = none := Hm.none hr7 (by rw [nm8.st.low br (blk_lt hkr7)])
  have hle8 : Hle (Hm (Hm (Hm (Hm (Hm (Hm (Hm N0 M1) M2) M3) M4) M5) M6) M7) (Hm (Hm (Hm (Hm (Hm (Hm (Hm (Hm N0 M1) M2) M3) M4) M5) M6) M7) M8) := nn7.le1 nm8
  refine ⟨_, rfl, ?_⟩
  obtain ⟨q, hq⟩ : ∃ q : VHeader, q = ⟨f0, f1, f2, f3, f4, f5, f6, f7⟩ := ⟨_, rfl⟩
  refine SeqOps.put 24 rfl rfl rfl (O.build (vps := [(0, (.int .i64 (f0))), (1, (.int .i64 (f1))), (2, (.int .i64 (f2))), (3, (.int .i64 (f3))), (4, (.agg (List.toArray (digC f4)))), (5, (.agg (List.toArray (digC f5)))), (6, (.agg (List.toArray (digC f6)))), (7, (.int .i64 (f7)))]) (cells := (VHeader.cells ⟨f0, f1, f2, f3, f4, f5, f6, f7⟩)) rfl rfl (by kernel_rfl) ?_)
  rw [← hq]
  have hqok : q.ok := by rw [hq]; exact trivial
  refine SeqOps.put 5 rfl rfl rfl (O.alloc rfl zr59 ?_)
  intro bq wa hbq hbq1 hEa hkq0
  refine SeqOps.eff rfl rfl (O.store (b := bq) (off := 0) (v := .agg (List.toArray q.cells)) (n := 101) (c' := q.cells.toArray) rfl rfl rfl hkq0 sz59 rfl (by decide) (VHeader.one hqok) rfl ?_)
  intro wq hCq hkq
  have hEq : Ext wm8 wq := hEa.trans_new hCq fun i hi => .inl (by omega)
  have hpq := hp8.ext hEq
  have hkrq := Ext.blk hEq hkr8
  have hqr : bq ≠ br := by have := blk_lt hkr8; omega
  have hpr : bp ≠ br := Ne.symm hbrp
  obtain ⟨lv, ev, hkp, hevf, hev⟩ := hpq.final
  skip
  refine SeqOps.nil ?_
  refine hK3 _ _ ?_
  try clear hK3 K3
  refine W.seq fun K4 hK4 => ?_
  obtain ⟨obj, hobj⟩ : ∃ o, o = Obj.cells q.cells.toArray 59 (0, 0) := ⟨_, rfl⟩
  refine W.region_any (by kernel_rfl) (by kernel_rfl) [25, 26, 27, 28, 29, 3] rfl (fun a b => RStoreC br (.cells q.cells.toArray 59 (0, 0)) 101 59 a b) (fun _ => RStoreC.refl _ _ _ _ _) (fun h k => RStoreC.trans h k) [
      (fun (u : Value) (_ : World) => u = .agg (List.toArray q.cells)),
      (fun (u : Value) (_ : World) => u = Value.pointer (some ⟨bp, 0, none⟩)),
      (fun (u : Value) (_ : World) => u = Value.pointer (some ⟨bp, 0, none⟩)),
      (fun (u : Value) (_ : World) => u = Value.pointer (some ⟨bp, 1, none⟩)),
      (fun (u : Value) (_ : World) => u = ev),
      (fun (_ : Value) (w : World) => w.heap[br]? = some (.cells q.cells.toArray 59 (0, 0))),
      (fun (u : Value) (_ : World) => u = ev)
    ] ⟨fun _ _ _ _ h => h, fun _ _ _ _ h => h, fun _ _ _ _ h => h, fun _ _ _ _ h => h, fun _ _ _ _ h => h, fun _ _ _ hE h => hE.2.1 h, fun _ _ _ _ h => h, trivial⟩ ⟨?_, ?_, ?_, ?_, ?_, ?_, ?_, trivial⟩ ?_
  · intro g w1 hR hf hd
    have h1 : g 5 = .pointer (some ⟨bq, 0, none⟩) := hf 5 (by decide)
    have hb1 := Chg.blk hR.1 (show wq.drew.heap[bq]? = _ from hkq) hqr
    exact StepT.plain rfl (O.loadBlk (b := bq) (off := 0) (cs := q.cells) rfl h1 hb1 Tryz.underlying59 rfl sz59 rfl ⟨RStoreC.refl _ _ _ _ _, rfl⟩)
  · intro g w1 hR hf hd
    have h1 : g 4 = Value.pointer (some ⟨bp, 0, none⟩) := hf 4 (by decide)
    exact StepT.plain rfl (O.move (v := Value.pointer (some ⟨bp, 0, none⟩)) rfl h1 ⟨RStoreC.refl _ _ _ _ _, rfl⟩)
  · intro g w1 hR hf hd
    have h1 : (fun (u : Value) (_ : World) => u = Value.pointer (some ⟨bp, 0, none⟩)) (g 26) w1 := hd.1 rfl
    exact StepT.plain rfl (O.nilCheckPtr (a := ⟨bp, 0, none⟩) rfl h1 ⟨RStoreC.refl _ _ _ _ _, rfl⟩)
  · intro g w1 hR hf hd
    have h1 : (fun (u : Value) (_ : World) => u = Value.pointer (some ⟨bp, 0, none⟩)) (g 27) w1 := hd.1 rfl
    exact StepT.plain rfl (O.fieldAddr (a := ⟨bp, 0, none⟩) (v := Value.pointer (some ⟨bp, 1, none⟩)) rfl h1 Tryz.underlying177 rfl (by kernel_rfl) rfl ⟨RStoreC.refl _ _ _ _ _, rfl⟩)
  · intro g w1 hR hf hd
    have h1 : (fun (u : Value) (_ : World) => u = Value.pointer (some ⟨bp, 1, none⟩)) (g 28) w1 := hd.1 rfl
    have hb1 := Chg.blk hR.1 (show wq.drew.heap[bp]? = _ from hkp) hpr
    exact StepT.plain rfl (O.loadBlk1 (b := bp) (off := 1) (v := ev) rfl h1 hb1 Tryz.underlying162 rfl rfl ⟨RStoreC.refl _ _ _ _ _, rfl⟩)
  · intro g w1 hR hf hd
    have h1 : g 2 = .pointer (some ⟨br, 0, none⟩) := hf 2 (by decide)
    have h2 : g 25 = .agg (List.toArray q.cells) := hd.1 rfl
    obtain ⟨cr, hcr, hk⟩ := hR.2.2 ⟨_, rfl, show wq.drew.heap[br]? = _ from hkrq⟩
    refine StepT.plain rfl (O.store (b := br) (off := 0) (v := .agg (List.toArray q.cells)) (n := 101) (c' := q.cells.toArray) rfl h1 h2 hk sz59 rfl (by rw [Nat.zero_add, hcr]; exact Nat.le_refl _) (VHeader.one hqok) (by simp [Value.cells, VHeader.length, hcr]) ?_)
    intro w2 hC hk2
    exact ⟨⟨hC, fun _ => hk2, fun _ => ⟨_, VHeader.length q, hk2⟩⟩, hk2⟩
  · intro g w1 hR hf hd
    have h1 : g 29 = ev := hd.1 rfl
    exact StepT.plain rfl (O.assign (v := ev) rfl h1 ⟨RStoreC.refl _ _ _ _ _, rfl⟩)
  intro g w9 hR hf hall
  have hf5 := hall.2.2.2.2.2.1
  have hf6 := hall.2.2.2.2.2.2.1
  refine hK4 _ _ ?_
  try clear hK4 K4
  refine W.ret ?_
  have n9 := ((nn8.new hEq).new (Ext.drew wq)).step hR.1 (fun i hi => ⟨.inl (by omega), by subst hi; exact hr8⟩)
  refine retQ_cell2 (b := br) (cs := q.cells) rfl (hf 2 (by decide)) hf6 hf5 Tryz.underlying59 rfl sz59 ⟨_, _, _, rfl, n9, ⟨q, rfl, hqok⟩, ?_⟩
  rcases hev with ⟨hok, rfl⟩ | ⟨hok, he⟩
  · simp only [Bool.and_eq_true] at hok
    obtain ⟨⟨⟨⟨⟨⟨⟨⟨hok0, hs0⟩, hs1⟩, hs2⟩, hs3⟩, hs4⟩, hs5⟩, hs6⟩, hs7⟩ := hok
    obtain ⟨y0, hd0⟩ := Option.isSome_iff_exists.1 hs0
    obtain ⟨y1, hd1⟩ := Option.isSome_iff_exists.1 hs1
    obtain ⟨y2, hd2⟩ := Option.isSome_iff_exists.1 hs2
    obtain ⟨y3, hd3⟩ := Option.isSome_iff_exists.1 hs3
    obtain ⟨y4, hd4⟩ := Option.isSome_iff_exists.1 hs4
    obtain ⟨y5, hd5⟩ := Option.isSome_iff_exists.1 hs5
    obtain ⟨y6, hd6⟩ := Option.isSome_iff_exists.1 hs6
    obtain ⟨y7, hd7⟩ := Option.isSome_iff_exists.1 hs7
    refine .inl ⟨⟨y0, y1, y2, y3, y4, y5, y6, y7⟩, ?_, rfl, q, rfl, ?_⟩
    · unfold dHeader; rw [hok1 hok0]; exact dHeaderL_some hd0 hd1 hd2 hd3 hd4 hd5 hd6 hd7
    · rw [hq]; exact ⟨⟨hy0 _ hd0, by rw [← hy0 _ hd0]; exact hrng0⟩, ⟨hy1 _ hd1, by rw [← hy1 _ hd1]; exact hrng1⟩, ⟨hy2 _ hd2, by rw [← hy2 _ hd2]; exact hrng2⟩, ⟨hy3 _ hd3, by rw [← hy3 _ hd3]; exact hrng3⟩, hy4 _ hd4, hy5 _ hd5, hy6 _ hd6, ⟨hy7 _ hd7, by rw [← hy7 _ hd7]; exact hrng7⟩⟩
  · refine .inr ⟨?_, he⟩
    cases hokS : okS with
    | false =>
      unfold dHeader
      cases hs : split bs with
      | none => rfl
      | some l => exact dHeaderL_len (hok2 hokS l hs)
    | true =>
      unfold dHeader
      rw [hok1 hokS]
      have hiss := dHeaderL_isSome b0 b1 b2 b3 b4 b5 b6 b7
      rw [hokS] at hok; simp only [Bool.true_and] at hok hiss
      rw [hok] at hiss
      simpa using hiss

theorem all_Header_calls {a : Addr} {HL N : Heap} {w : World} {bp : Nat} {b : List UInt8} {rem : List (List UInt8)} {ok : Bool} (h : PS a HL N w bp (b :: rem) ok) (hlen : b.length ≤ 1099511627776) :
    Calls Tryz.prog 115 #[.pointer (some ⟨bp, 0, none⟩), .func (.func 64) #[] #[]] w (RetP a HL N w bp rem (ok && (dList dHeader b).isSome) (fun M v => (∃ ao n cap, v = .slice ao n cap) ∧ ∀ ys, dList dHeader b = some ys → RL 101 cHeader M v ys)) := by
  have hlt0 := h.lt
  have h0L : ∀ {k}, w.heap.size ≤ k → HL k = none := fun hk => h.agrL.none hk
  have h0N : ∀ {k}, w.heap.size ≤ k → N k = none := fun hk => h.agrN.none hk
  cases hsp : split b with
  | none =>
    refine calls_of_W (n := 52) Tryz.func115 rfl Tryz.ntmps115 (Nat.le_of_ble_eq_true rfl) ?_
    refine W.seq fun K1 hK1 => ?_
    refine W.region ?_
    refine SeqOps.put 4 rfl rfl rfl (O.assign (v := (.slice none 0 0)) rfl rfl ?_)
    refine SeqOps.nil ?_
    refine hK1 _ _ ?_
    try clear hK1 K1
    refine W.seq fun K2 hK2 => ?_
    refine W.region ?_
    refine SeqOps.put 13 rfl rfl rfl (O.move (v := (.pointer (some ⟨bp, 0, none⟩))) rfl rfl ?_)
    refine SeqOps.put 14 rfl rfl rfl (O.call (fid := 125) (cap := #[]) (args := [(.pointer (some ⟨bp, 0, none⟩))]) rfl rfl rfl Tryz.func125 rfl rfl ?_)
    refine Calls.mono (next_calls h) ?_
    rintro e w1 ⟨v1, rfl, hr, h1, hC1⟩
    refine ⟨_, rfl, ?_⟩
    refine SeqOps.put 15 rfl rfl rfl (O.call (fid := 123) (cap := #[]) (args := [v1]) rfl rfl rfl Tryz.func123 rfl rfl ?_)
    refine Calls.mono (Split_calls h1.agrL hr hlen) ?_
    rintro e w2 ⟨M, v2, st, hres⟩
    obtain ⟨rfl, rfl⟩ : v2 = .slice none 0 0 ∧ e = .returned (.tuple #[v2, .bool false]) := by rcases hres with ⟨l, h1, _⟩ | ⟨_, h2, h3⟩ <;> first | exact ⟨h2, h3⟩ | (rw [hsp] at h1; cases h1; done)
    have n2 := (New.ofChg hC1).trans st (fun i hi => hi.elim)
    rw [Hm.nilL] at n2
    have hM : M bp = none := by rw [st.st.low bp h1.lt]
    replace h1 := h1.new st
    refine ⟨_, rfl, ?_⟩
    refine SeqOps.put 12 rfl rfl rfl (O.move (v := (.tuple #[(.slice none 0 0), (.bool (false))])) rfl rfl ?_)
    refine SeqOps.put 16 rfl rfl rfl (O.extract (v := (.slice none 0 0)) rfl rfl rfl ?_)
    refine SeqOps.put 17 rfl rfl rfl (O.extract (v := (.bool (false))) rfl rfl rfl ?_)
    refine SeqOps.put 5 rfl rfl rfl (O.assign (v := (.slice none 0 0)) rfl rfl ?_)
    refine SeqOps.put 6 rfl rfl rfl (O.assign (v := (.bool (false))) rfl rfl ?_)
    refine SeqOps.nil ?_
    refine hK2 _ _ ?_
    try clear hK2 K2
    refine W.seq fun K3 hK3 => ?_
    refine W.seq fun K4 hK4 => ?_
    refine W.region ?_
    refine SeqOps.put 18 rfl rfl rfl (O.move (v := (.bool (false))) rfl rfl ?_)
    refine SeqOps.put 19 rfl rfl rfl (O.not (b := false) rfl rfl ?_)
    refine SeqOps.nil ?_
    refine hK4 _ _ ?_
    try clear hK4 K4
    refine W.cond_true rfl ?_
    refine W.region ?_
    refine SeqOps.put 20 rfl rfl rfl (O.move (v := (.pointer (some ⟨bp, 0, none⟩))) rfl rfl ?_)
    refine SeqOps.put 21 rfl rfl rfl (O.loadOne (a := ⟨1, 0, none⟩) (v := eS a) rfl rfl Tryz.underlying162 rfl (h1.agrL.cell h1.glob) ?_)
    refine SeqOps.put 22 rfl rfl rfl (O.build (vps := [(0, (strOf [97, 32, 108, 105, 115, 116])), (1, (eS a))]) (cells := [(strOf [97, 32, 108, 105, 115, 116]), (eS a)]) rfl rfl (by kernel_rfl) ?_)
    refine SeqOps.put 23 rfl rfl rfl (O.box (v := (.agg (List.toArray ([(strOf [97, 32, 108, 105, 115, 116]), (eS a)])))) rfl rfl ?_)
    intro b3 w3 hb3 hb3l hEw3 hkb3
    obtain ⟨h3, hN3, e3⟩ := h1.wrong hEw3 hb3 hkb3
    refine SeqOps.put 24 rfl rfl rfl (O.makeIface (v := (.pointer (some ⟨b3, 0, none⟩))) rfl rfl Tryz.underlying160 rfl ?_)
    refine SeqOps.put 25 rfl rfl rfl (O.call (fid := 126) (cap := #[]) (args := [(.pointer (some ⟨bp, 0, none⟩)), (.iface 160 (.pointer (some ⟨b3, 0, none⟩)))]) rfl rfl rfl Tryz.func126 rfl rfl ?_)
    refine Calls.mono (bad_calls h3 (.base (Hadd_same _ _ _))) ?_
    rintro e w4 ⟨rfl, h4, hC4⟩
    refine ⟨_, rfl, ?_⟩
    refine SeqOps.nil ?_
    refine hK3 _ _ ?_
    try clear hK3 K3
    refine W.seq fun K5 hK5 => ?_
    refine W.region ?_
    refine SeqOps.put 7 rfl rfl rfl (O.assign (v := (.slice none 0 0)) rfl rfl ?_)
    refine SeqOps.nil ?_
    refine hK5 _ _ ?_
    try clear hK5 K5
    refine W.seq fun K6 hK6 => ?_
    refine W.seq fun K7 hK7 => ?_
    refine W.region ?_
    refine SeqOps.put 26 rfl rfl rfl (O.move (v := (.slice none 0 0)) rfl rfl ?_)
    refine SeqOps.put 27 rfl rfl rfl (O.lenSlice (ad := none) (n := 0) (c := 0) rfl rfl Tryz.underlying133 ?_)
    refine SeqOps.put 28 rfl rfl rfl (O.move (v := (.int .i64 (0))) rfl rfl ?_)
    refine SeqOps.nil ?_
    refine hK7 _ _ ?_
    try clear hK7 K7
    refine W.block ?_
    refine W.loop [7, 26, 27, 28] (fun vals wk => vals = [.slice none 0 0, .slice none 0 0, .int .i64 0, .int .i64 0] ∧ w4 = wk) (fun _ _ => 0) ⟨rfl, rfl⟩ ?_
    rintro g _ wk ⟨rfl, rfl⟩
    refine W.seq fun K8 hK8 => ?_
    refine W.region ?_
    refine SeqOps.put 29 rfl rfl rfl (O.cmp (a := 0) (b := 0) (r := false) rfl rfl rfl (rfl) ?_)
    refine SeqOps.nil ?_
    refine hK8 _ _ ?_
    try clear hK8 K8
    refine W.seq fun K9 hK9 => ?_
    refine W.cond_false rfl ?_
    refine W.exit ?_
    refine hK6 _ _ ?_
    try clear hK6 K6
    refine W.seq fun K10 hK10 => ?_
    refine W.region ?_
    refine SeqOps.put 51 rfl rfl rfl (O.move (v := (.slice none 0 0)) rfl rfl ?_)
    refine SeqOps.put 4 rfl rfl rfl (O.assign (v := (.slice none 0 0)) rfl rfl ?_)
    refine SeqOps.nil ?_
    refine hK10 _ _ ?_
    try clear hK10 K10
    refine W.ret ?_
    have hlt1 := h1.lt
    have n4 := (n2.trans hN3 (fun i hi => hi.elim)).step hC4 (fun i hi => ⟨.inr hi, by subst hi; exact Hm.none hM (by rw [Hadd_ne _ _ (by omega)])⟩)
    refine retQ_one rfl rfl ⟨_, _, rfl, n4, Hm.none hM (by rw [Hadd_ne _ _ (by omega)]), ?_, ⟨_, _, _, rfl⟩, fun ys hy => ?_⟩
    · have e : (ok && (dList dHeader b).isSome) = false := by unfold dList; rw [hsp]; simp
      rw [e, ← Hm.assoc, e3]; exact h4
    · unfold dList at hy; rw [hsp] at hy; cases hy
  | some l =>
    have hll : 8 * l.length ≤ b.length := by have h1 := joinTail_ge l; have h2 := join_length l; rw [split_join hsp] at h2; omega
    have hpl := split_parts_le hsp
    refine calls_of_W (n := 52) Tryz.func115 rfl Tryz.ntmps115 (Nat.le_of_ble_eq_true rfl) ?_
    refine W.seq fun K11 hK11 => ?_
    refine W.region ?_
    refine SeqOps.put 4 rfl rfl rfl (O.assign (v := (.slice none 0 0)) rfl rfl ?_)
    refine SeqOps.nil ?_
    refine hK11 _ _ ?_
    try clear hK11 K11
    refine W.seq fun K12 hK12 => ?_
    refine W.region ?_
    refine SeqOps.put 13 rfl rfl rfl (O.move (v := (.pointer (some ⟨bp, 0, none⟩))) rfl rfl ?_)
    refine SeqOps.put 14 rfl rfl rfl (O.call (fid := 125) (cap := #[]) (args := [(.pointer (some ⟨bp, 0, none⟩))]) rfl rfl rfl Tryz.func125 rfl rfl ?_)
    refine Calls.mono (next_calls h) ?_
    rintro e w1 ⟨v1, rfl, hr, h1, hC1⟩
    refine ⟨_, rfl, ?_⟩
    refine SeqOps.put 15 rfl rfl rfl (O.call (fid := 123) (cap := #[]) (args := [v1]) rfl rfl rfl Tryz.func123 rfl rfl ?_)
    refine Calls.mono (Split_calls h1.agrL hr hlen) ?_
    rintro e w2 ⟨M, v2, st, hres⟩
    obtain ⟨rfl, hl⟩ : e = .returned (.tuple #[v2, .bool true]) ∧ RBB M v2 l := by rcases hres with ⟨l', h1, h2, h3⟩ | ⟨h1, _⟩ <;> first | (rw [hsp] at h1; cases h1; exact ⟨h2, h3⟩) | (rw [hsp] at h1; cases h1; done)
    obtain ⟨ao, cap, rfl⟩ : ∃ ao cap, v2 = .slice ao l.length cap := by obtain ⟨vs, _, rs⟩ := hl; exact rs.form
    have n2 := (New.ofChg hC1).trans st (fun i hi => hi.elim)
    rw [Hm.nilL] at n2
    have hM : M bp = none := by rw [st.st.low bp h1.lt]
    replace h1 := h1.new st
    refine ⟨_, rfl, ?_⟩
    refine SeqOps.put 12 rfl rfl rfl (O.move (v := (.tuple #[(.slice ao l.length cap), (.bool (true))])) rfl rfl ?_)
    refine SeqOps.put 16 rfl rfl rfl (O.extract (v := (.slice ao l.length cap)) rfl rfl rfl ?_)
    refine SeqOps.put 17 rfl rfl rfl (O.extract (v := (.bool (true))) rfl rfl rfl ?_)
    refine SeqOps.put 5 rfl rfl rfl (O.assign (v := (.slice ao l.length cap)) rfl rfl ?_)
    refine SeqOps.put 6 rfl rfl rfl (O.assign (v := (.bool (true))) rfl rfl ?_)
    refine SeqOps.nil ?_
    refine hK12 _ _ ?_
    try clear hK12 K12
    refine W.seq fun K13 hK13 => ?_
    refine W.seq fun K14 hK14 => ?_
    refine W.region ?_
    refine SeqOps.put 18 rfl rfl rfl (O.move (v := (.bool (true))) rfl rfl ?_)
    refine SeqOps.put 19 rfl rfl rfl (O.not (b := true) rfl rfl ?_)
    refine SeqOps.nil ?_
    refine hK14 _ _ ?_
    try clear hK14 K14
    refine W.cond_false rfl ?_
    refine W.skip ?_
    refine hK13 _ _ ?_
    try clear hK13 K13
    refine W.seq fun K15 hK15 => ?_
    refine W.region ?_
    refine SeqOps.put 7 rfl rfl rfl (O.assign (v := (.slice none 0 0)) rfl rfl ?_)
    refine SeqOps.nil ?_
    refine hK15 _ _ ?_
    try clear hK15 K15
    refine W.seq fun K16 hK16 => ?_
    refine W.seq fun K17 hK17 => ?_
    refine W.region ?_
    refine SeqOps.put 26 rfl rfl rfl (O.move (v := (.slice ao l.length cap)) rfl rfl ?_)
    refine SeqOps.put 27 rfl rfl rfl (O.lenSlice (ad := ao) (n := l.length) (c := cap) rfl rfl Tryz.underlying133 ?_)
    refine SeqOps.put 28 rfl rfl rfl (O.move (v := (.int .i64 (0))) rfl rfl ?_)
    refine SeqOps.nil ?_
    refine hK17 _ _ ?_
    try clear hK17 K17
    refine W.block ?_
    refine W.loop [0, 1, 7, 26, 27, 28] (fun vals wk => ∃ M okk out css, ∃ k : Nat, vals = [.pointer (some ⟨bp, 0, none⟩), .func (.func 64) #[] #[], out, .slice ao l.length cap, .int .i64 (l.length : Int), .int .i64 (k : Int)] ∧ k ≤ l.length ∧ New w (· = bp) M wk ∧ M bp = none ∧ PS a HL (Hm N M) wk bp rem okk ∧ RBB M (.slice ao l.length cap) l ∧ Own M wk w.heap.size 59 101 out k (List.flatten css) ∧ (∀ cs ∈ css, cs.length = 101) ∧ okk = (ok && (mapO dHeader (l.take k)).isSome) ∧ (∀ ys, mapO dHeader (l.take k) = some ys → All2 (cHeader M) css ys)) (fun vals _ => l.length - (intOf (vals.getD 5 undef)).toNat) ⟨M, ok, _, [], 0, rfl, Nat.zero_le _, n2, hM, h1, hl, Own.nil _ _ _ _ _, by simp, by simp [mapO], fun ys hy => by simp [mapO] at hy; subst hy; exact .nil⟩ ?_
    clear hres n2 hM h1 hl st hC1 hr M
    rintro g _ wk ⟨M, okk, out, css, k, rfl, hk, nk, hM, hp, hl, own, hcs, hokk, hall⟩
    rcases Nat.lt_or_ge k l.length with hlt | hge2
    · have htk : l.take (k + 1) = l.take k ++ [l[k]] := List.take_succ_eq_append_getElem hlt
      have hpk := hpl l[k] (by simp)
      have hl' := hl
      obtain ⟨vs, h2, rs⟩ := hl'
      obtain ⟨hvl, hel⟩ := h2.get hlt
      obtain ⟨ad, rfl, hcel⟩ := rs.elem (i := k) (u := vs[k]) (by simp)
      obtain ⟨ao2, cap2, hv2⟩ := RS.form hel
      rw [hv2] at hcel hel
      have hLM : Agr (Hm HL M) wk := Hm.agr hp.agrL nk.st.agr
      have hGM : hcell (Hm HL M) ⟨1, 0, none⟩ = some (eS a) := (Hm.left h.agrL nk).cell h.glob
      cases hd : dHeader l[k] with
      | some y =>
        refine W.seq fun K18 hK18 => ?_
        refine W.region ?_
        refine SeqOps.put 29 rfl rfl rfl (O.cmp (a := (k : Int)) (b := (l.length : Int)) (r := true) rfl rfl rfl (by simp [cmpI]; omega) ?_)
        refine SeqOps.nil ?_
        refine hK18 _ _ ?_
        try clear hK18 K18
        refine W.seq fun K19 hK19 => ?_
        refine W.cond_true rfl ?_
        refine W.skip ?_
        refine hK19 _ _ ?_
        try clear hK19 K19
        refine W.seq fun K20 hK20 => ?_
        refine W.block ?_
        refine W.seq fun K21 hK21 => ?_
        refine W.region ?_
        refine SeqOps.put 30 rfl rfl rfl (O.indexAddr (a := ad) (len := l.length) (cap := cap) (i := (k : Int)) (sz := 1) (v := .pointer (some (ad.add k))) rfl rfl rfl Tryz.underlying133 sz22 (by omega) (by omega) (by simp) ?_)
        refine SeqOps.put 31 rfl rfl rfl (O.loadOne (a := ad.add k) (v := .slice ao2 l[k].length cap2) rfl rfl Tryz.underlying22 rfl (nk.st.agr.cell hcel) ?_)
        refine SeqOps.put 9 rfl rfl rfl (O.assign (v := (.slice ao2 l[k].length cap2)) rfl rfl ?_)
        refine SeqOps.nil ?_
        refine hK21 _ _ ?_
        try clear hK21 K21
        refine W.seq fun K22 hK22 => ?_
        refine W.region ?_
        refine SeqOps.put 33 rfl rfl rfl (O.move (v := (.func (.func 64) #[] #[])) rfl rfl ?_)
        refine SeqOps.put 34 rfl rfl rfl (O.move (v := (.slice ao2 l[k].length cap2)) rfl rfl ?_)
        refine SeqOps.put 35 rfl rfl rfl (O.call (fid := 64) (cap := #[]) (args := [(.slice ao2 l[k].length cap2)]) rfl rfl rfl Tryz.func64 rfl rfl ?_)
        refine Calls.mono (read_Header_calls (a := a) hLM hGM (hel.mono (Hm.right _ _)) (by omega)) ?_
        rintro e w5 hret
        obtain ⟨N5, v5, rfl, n5, hwf, hph⟩ := RetRd.good hd hret
        have n6 := nk.trans n5 (fun i hi => hi.elim)
        have hp6 := hp.new n5
        rw [Hm.assoc] at hp6
        have hM6 : Hm M N5 bp = none := Hm.none hM (by rw [n5.st.low bp hp.lt])
        have own6 : Own (Hm M N5) w5 w.heap.size 59 101 out k (List.flatten css) := (own.ext n5.st.chg).heap fun j hj => Hm.none (own.out j hj) (by rw [n5.st.low j (own.base hj).2])
        have hle6 : Hle M (Hm M N5) := nk.le1 n5
        obtain ⟨q, rfl, hq⟩ := hph
        refine ⟨_, rfl, ?_⟩
        refine SeqOps.put 32 rfl rfl rfl (O.move (v := (.tuple #[(.agg (List.toArray (q.cells))), .nilIface])) rfl rfl ?_)
        refine SeqOps.put 36 rfl rfl rfl (O.extract (v := (.agg (List.toArray (q.cells)))) rfl rfl rfl ?_)
        refine SeqOps.put 37 rfl rfl rfl (O.extract (v := .nilIface) rfl rfl rfl ?_)
        refine SeqOps.put 10 rfl rfl rfl (O.alloc rfl zr59 ?_)
        intro bq wa hbq hbq1 hEa hkq0
        refine SeqOps.eff rfl rfl (O.store (b := bq) (off := 0) (v := .agg (List.toArray q.cells)) (n := 101) (c' := q.cells.toArray) rfl rfl rfl hkq0 sz59 rfl (by decide) (VHeader.one hq.ok) rfl ?_)
        intro wb hCb hkq
        have hEb : Ext w5 wb := hEa.trans_new hCb fun i hi => .inl (by omega)
        have hp6' := hp6
        replace n6 := n6.new hEb; replace hp6 := hp6.ext hEb; replace own6 := own6.ext hEb
        refine SeqOps.put 11 rfl rfl rfl (O.assign (v := .nilIface) rfl rfl ?_)
        refine SeqOps.nil ?_
        refine hK22 _ _ ?_
        try clear hK22 K22
        refine W.seq fun K23 hK23 => ?_
        refine W.seq fun K24 hK24 => ?_
        refine W.region ?_
        refine SeqOps.put 38 rfl rfl rfl (O.move (v := .nilIface) rfl rfl ?_)
        refine SeqOps.put 39 rfl rfl rfl (O.ifaceNil (v := .nilIface) (r := false) rfl rfl (.inl rfl) Tryz.underlying162 (.inr ⟨rfl, rfl⟩) ?_)
        refine SeqOps.nil ?_
        refine hK24 _ _ ?_
        try clear hK24 K24
        refine W.cond_false rfl ?_
        refine W.skip ?_
        refine hK23 _ _ ?_
        try clear hK23 K23
        refine W.region ?_
        refine SeqOps.put 46 rfl rfl rfl (O.move (v := out) rfl rfl ?_)
        refine SeqOps.put 47 rfl rfl rfl (O.loadBlk (b := bq) (off := 0) (cs := q.cells) rfl rfl hkq Tryz.underlying59 rfl sz59 rfl ?_)
        refine SeqOps.put 48 rfl rfl rfl (O.buildSlice (vs := [(.agg (List.toArray (q.cells)))]) rfl rfl rfl Tryz.underlying39 inf59 (by intro u hu; simp at hu; subst hu; rfl) (by decide) ?_)
        intro b9 w9 hb9 hb91 hE9 hk9
        have hcat : catV [(.agg (List.toArray (q.cells)))] = q.cells := by simp [catV, Value.cells]
        rw [hcat] at hk9
        have own9 := own6.ext hE9
        have n9 := n6.new hE9
        refine SeqOps.put 49 rfl rfl rfl (O.append (B := w.heap.size) (v := out) (vx := .slice (some ⟨b9, 0, none⟩) 1 1) (m := 1) (xs := List.flatten css) (news := q.cells) rfl rfl rfl Tryz.underlying39 inf59 rfl own9 (Own.ofBlk (H := fun _ => none) (B := 0) (s := 101) (xs := q.cells) hk9 (Nat.zero_le _) rfl rfl (by decide) (VHeader.one hq.ok)).rsw rfl (by omega) (by omega) n9.st.chg.size n9.st.agr ?_)
        intro o10 w10 own10 hC10
        refine SeqOps.put 7 rfl rfl rfl (O.assign (v := o10) rfl rfl ?_)
        refine SeqOps.nil ?_
        refine hK20 _ _ ?_
        try clear hK20 K20
        refine W.region ?_
        refine SeqOps.put 50 rfl rfl rfl (O.arith (a := (k : Int)) (b := 1) (r := (k : Int) + 1) (c := (k : Int) + 1) rfl rfl rfl rfl (by exact wrap_i64 (by omega) (by omega)) ?_)
        refine SeqOps.put 28 rfl rfl rfl (O.move (v := (.int .i64 ((k : Int) + 1))) rfl rfl ?_)
        refine SeqOps.nil ?_
        have n10 := n9.step hC10 (fun i hi => ⟨.inl (own9.base hi).1, own9.out i hi⟩)
        have hp10 := (hp6.ext hE9).chg hC10 (fun i hi => ⟨by have := (own9.base hi).1; omega, h0L (own9.base hi).1, Hm.none (h0N (own9.base hi).1) (own9.out i hi)⟩)
        refine ⟨⟨_, _, o10, css ++ [q.cells], k + 1, rfl, by omega, n10, hM6, hp10, hl.mono hle6, by simpa using own10, ?_, ?_, fun ys hy => ?_⟩, by show l.length - ((k + 1 : Nat) : Int).toNat < l.length - ((k : Nat) : Int).toNat; omega⟩
        · intro cs hcs'; rcases List.mem_append.1 hcs' with h' | h'
          · exact hcs cs h'
          · simp at h'; subst h'; rfl
        · rw [hokk, htk, mapO_snoc, hd]; cases mapO dHeader (l.take k) <;> rfl
        · rw [htk, mapO_snoc, hd] at hy
          cases hm : mapO dHeader (l.take k) with
          | none => rw [hm] at hy; cases hy
          | some zs =>
            rw [hm] at hy; simp at hy; subst hy
            exact ((hall zs hm).imp fun _ _ hc => cHeader.mono (by first | exact hle6 | exact hle8) hc).snoc ⟨q, rfl, hq.mono (Hm.right M N5)⟩
      | none =>
        refine W.seq fun K25 hK25 => ?_
        refine W.region ?_
        refine SeqOps.put 29 rfl rfl rfl (O.cmp (a := (k : Int)) (b := (l.length : Int)) (r := true) rfl rfl rfl (by simp [cmpI]; omega) ?_)
        refine SeqOps.nil ?_
        refine hK25 _ _ ?_
        try clear hK25 K25
        refine W.seq fun K26 hK26 => ?_
        refine W.cond_true rfl ?_
        refine W.skip ?_
        refine hK26 _ _ ?_
        try clear hK26 K26
        refine W.seq fun K27 hK27 => ?_
        refine W.block ?_
        refine W.seq fun K28 hK28 => ?_
        refine W.region ?_
        refine SeqOps.put 30 rfl rfl rfl (O.indexAddr (a := ad) (len := l.length) (cap := cap) (i := (k : Int)) (sz := 1) (v := .pointer (some (ad.add k))) rfl rfl rfl Tryz.underlying133 sz22 (by omega) (by omega) (by simp) ?_)
        refine SeqOps.put 31 rfl rfl rfl (O.loadOne (a := ad.add k) (v := .slice ao2 l[k].length cap2) rfl rfl Tryz.underlying22 rfl (nk.st.agr.cell hcel) ?_)
        refine SeqOps.put 9 rfl rfl rfl (O.assign (v := (.slice ao2 l[k].length cap2)) rfl rfl ?_)
        refine SeqOps.nil ?_
        refine hK28 _ _ ?_
        try clear hK28 K28
        refine W.seq fun K29 hK29 => ?_
        refine W.region ?_
        refine SeqOps.put 33 rfl rfl rfl (O.move (v := (.func (.func 64) #[] #[])) rfl rfl ?_)
        refine SeqOps.put 34 rfl rfl rfl (O.move (v := (.slice ao2 l[k].length cap2)) rfl rfl ?_)
        refine SeqOps.put 35 rfl rfl rfl (O.call (fid := 64) (cap := #[]) (args := [(.slice ao2 l[k].length cap2)]) rfl rfl rfl Tryz.func64 rfl rfl ?_)
        refine Calls.mono (read_Header_calls (a := a) hLM hGM (hel.mono (Hm.right _ _)) (by omega)) ?_
        rintro e w5 hret
        obtain ⟨N5, v5, be, rfl, n5, hwf, her⟩ := RetRd.bad hd hret
        have n6 := nk.trans n5 (fun i hi => hi.elim)
        have hp6 := hp.new n5
        rw [Hm.assoc] at hp6
        have hM6 : Hm M N5 bp = none := Hm.none hM (by rw [n5.st.low bp hp.lt])
        have own6 : Own (Hm M N5) w5 w.heap.size 59 101 out k (List.flatten css) := (own.ext n5.st.chg).heap fun j hj => Hm.none (own.out j hj) (by rw [n5.st.low j (own.base hj).2])
        have hle6 : Hle M (Hm M N5) := nk.le1 n5
        obtain ⟨q, rfl, hqok⟩ := hwf
        refine ⟨_, rfl, ?_⟩
        refine SeqOps.put 32 rfl rfl rfl (O.move (v := (.tuple #[(.agg (List.toArray (q.cells))), (.iface 160 (.pointer (some ⟨be, 0, none⟩)))])) rfl rfl ?_)
        refine SeqOps.put 36 rfl rfl rfl (O.extract (v := (.agg (List.toArray (q.cells)))) rfl rfl rfl ?_)
        refine SeqOps.put 37 rfl rfl rfl (O.extract (v := (.iface 160 (.pointer (some ⟨be, 0, none⟩)))) rfl rfl rfl ?_)
        refine SeqOps.put 10 rfl rfl rfl (O.alloc rfl zr59 ?_)
        intro bq wa hbq hbq1 hEa hkq0
        refine SeqOps.eff rfl rfl (O.store (b := bq) (off := 0) (v := .agg (List.toArray q.cells)) (n := 101) (c' := q.cells.toArray) rfl rfl rfl hkq0 sz59 rfl (by decide) (VHeader.one hqok) rfl ?_)
        intro wb hCb hkq
        have hEb : Ext w5 wb := hEa.trans_new hCb fun i hi => .inl (by omega)
        have hp6' := hp6
        replace n6 := n6.new hEb; replace hp6 := hp6.ext hEb; replace own6 := own6.ext hEb
        refine SeqOps.put 11 rfl rfl rfl (O.assign (v := (.iface 160 (.pointer (some ⟨be, 0, none⟩)))) rfl rfl ?_)
        refine SeqOps.nil ?_
        refine hK29 _ _ ?_
        try clear hK29 K29
        refine W.seq fun K30 hK30 => ?_
        refine W.seq fun K31 hK31 => ?_
        refine W.region ?_
        refine SeqOps.put 38 rfl rfl rfl (O.move (v := (.iface 160 (.pointer (some ⟨be, 0, none⟩)))) rfl rfl ?_)
        refine SeqOps.put 39 rfl rfl rfl (O.ifaceNil (v := (.iface 160 (.pointer (some ⟨be, 0, none⟩)))) (r := true) rfl rfl (.inr ⟨_, _, rfl⟩) Tryz.underlying162 (.inr ⟨rfl, rfl⟩) ?_)
        refine SeqOps.nil ?_
        refine hK31 _ _ ?_
        try clear hK31 K31
        refine W.cond_true rfl ?_
        refine W.region ?_
        refine SeqOps.put 40 rfl rfl rfl (O.move (v := (.pointer (some ⟨bp, 0, none⟩))) rfl rfl ?_)
        refine SeqOps.put 41 rfl rfl rfl (O.move (v := (.iface 160 (.pointer (some ⟨be, 0, none⟩)))) rfl rfl ?_)
        refine SeqOps.put 42 rfl rfl rfl (O.build (vps := [(0, (strOf [105, 110, 32, 97, 32, 108, 105, 115, 116])), (1, (.iface 160 (.pointer (some ⟨be, 0, none⟩))))]) (cells := [(strOf [105, 110, 32, 97, 32, 108, 105, 115, 116]), (.iface 160 (.pointer (some ⟨be, 0, none⟩)))]) rfl rfl (by kernel_rfl) ?_)
        refine SeqOps.put 43 rfl rfl rfl (O.box (v := (.agg (List.toArray ([(strOf [105, 110, 32, 97, 32, 108, 105, 115, 116]), (.iface 160 (.pointer (some ⟨be, 0, none⟩)))])))) rfl rfl ?_)
        intro b7 w7 hb7 hb7l hEw7 hkb7
        obtain ⟨h7, hN7, e7⟩ := hp6.wrong hEw7 hb7 hkb7
        refine SeqOps.put 44 rfl rfl rfl (O.makeIface (v := (.pointer (some ⟨b7, 0, none⟩))) rfl rfl Tryz.underlying160 rfl ?_)
        refine SeqOps.put 45 rfl rfl rfl (O.call (fid := 126) (cap := #[]) (args := [(.pointer (some ⟨bp, 0, none⟩)), (.iface 160 (.pointer (some ⟨b7, 0, none⟩)))]) rfl rfl rfl Tryz.func126 rfl rfl ?_)
        refine Calls.mono (bad_calls h7 (.wrap (Hadd_same _ _ _) (her.mono (Hle.trans (Hm.right M N5) (Hle.trans (Hm.right N _) (Hle.add _ (hp6.agrN.none hb7))))))) ?_
        rintro e w8 ⟨rfl, h8, hC8⟩
        have hlt6 := hp6.lt
        have hM7 : Hm (Hm M N5) (Hadd NH b7 (Obj.cells ((.agg (List.toArray ([(strOf [105, 110, 32, 97, 32, 108, 105, 115, 116]), (.iface 160 (.pointer (some ⟨be, 0, none⟩)))]))) : Value).cells 164 (0, 0))) bp = none := Hm.none hM6 (by rw [Hadd_ne _ _ (by omega)])
        have n8 := (n6.trans hN7 (fun i hi => hi.elim)).step hC8 (fun i hi => ⟨.inr hi, by subst hi; exact hM7⟩)
        rw [← e7, Hm.assoc] at h8
        have own8 : Own (Hm (Hm M N5) (Hadd NH b7 (Obj.cells ((.agg (List.toArray ([(strOf [105, 110, 32, 97, 32, 108, 105, 115, 116]), (.iface 160 (.pointer (some ⟨be, 0, none⟩)))]))) : Value).cells 164 (0, 0)))) w8 w.heap.size 59 101 out k (List.flatten css) := ((own6.ext hEw7).chg hC8 fun j hj e => by subst e; have := (own6.base hj).1; omega).heap fun j hj => Hm.none (own6.out j hj) (by have := (own6.base hj).2; rw [Hadd_ne _ _ (by omega)])
        have hkq8 := hC8.blk (Ext.blk hEw7 hkq) (by have := hp6'.lt; omega)
        have hle8 : Hle M (Hm (Hm M N5) (Hadd NH b7 (Obj.cells ((.agg (List.toArray ([(strOf [105, 110, 32, 97, 32, 108, 105, 115, 116]), (.iface 160 (.pointer (some ⟨be, 0, none⟩)))]))) : Value).cells 164 (0, 0)))) := hle6.trans (n6.le1 hN7)
        refine ⟨_, rfl, ?_⟩
        refine SeqOps.nil ?_
        refine hK30 _ _ ?_
        try clear hK30 K30
        refine W.region ?_
        refine SeqOps.put 46 rfl rfl rfl (O.move (v := out) rfl rfl ?_)
        refine SeqOps.put 47 rfl rfl rfl (O.loadBlk (b := bq) (off := 0) (cs := q.cells) rfl rfl hkq8 Tryz.underlying59 rfl sz59 rfl ?_)
        refine SeqOps.put 48 rfl rfl rfl (O.buildSlice (vs := [(.agg (List.toArray (q.cells)))]) rfl rfl rfl Tryz.underlying39 inf59 (by intro u hu; simp at hu; subst hu; rfl) (by decide) ?_)
        intro b9 w9 hb9 hb91 hE9 hk9
        have hcat : catV [(.agg (List.toArray (q.cells)))] = q.cells := by simp [catV, Value.cells]
        rw [hcat] at hk9
        have own9 := own8.ext hE9
        have n9 := n8.new hE9
        refine SeqOps.put 49 rfl rfl rfl (O.append (B := w.heap.size) (v := out) (vx := .slice (some ⟨b9, 0, none⟩) 1 1) (m := 1) (xs := List.flatten css) (news := q.cells) rfl rfl rfl Tryz.underlying39 inf59 rfl own9 (Own.ofBlk (H := fun _ => none) (B := 0) (s := 101) (xs := q.cells) hk9 (Nat.zero_le _) rfl rfl (by decide) (VHeader.one hqok)).rsw rfl (by omega) (by omega) n9.st.chg.size n9.st.agr ?_)
        intro o10 w10 own10 hC10
        refine SeqOps.put 7 rfl rfl rfl (O.assign (v := o10) rfl rfl ?_)
        refine SeqOps.nil ?_
        refine hK27 _ _ ?_
        try clear hK27 K27
        refine W.region ?_
        refine SeqOps.put 50 rfl rfl rfl (O.arith (a := (k : Int)) (b := 1) (r := (k : Int) + 1) (c := (k : Int) + 1) rfl rfl rfl rfl (by exact wrap_i64 (by omega) (by omega)) ?_)
        refine SeqOps.put 28 rfl rfl rfl (O.move (v := (.int .i64 ((k : Int) + 1))) rfl rfl ?_)
        refine SeqOps.nil ?_
        have n10 := n9.step hC10 (fun i hi => ⟨.inl (own9.base hi).1, own9.out i hi⟩)
        have hp10 := (h8.ext hE9).chg hC10 (fun i hi => ⟨by have := (own9.base hi).1; omega, h0L (own9.base hi).1, Hm.none (h0N (own9.base hi).1) (own9.out i hi)⟩)
        refine ⟨⟨_, _, o10, css ++ [q.cells], k + 1, rfl, by omega, n10, hM7, hp10, hl.mono hle8, by simpa using own10, ?_, ?_, fun ys hy => ?_⟩, by show l.length - ((k + 1 : Nat) : Int).toNat < l.length - ((k : Nat) : Int).toNat; omega⟩
        · intro cs hcs'; rcases List.mem_append.1 hcs' with h' | h'
          · exact hcs cs h'
          · simp at h'; subst h'; rfl
        · rw [htk, mapO_snoc, hd]; cases mapO dHeader (l.take k) <;> simp
        · rw [htk, mapO_snoc, hd] at hy; cases mapO dHeader (l.take k) <;> simp at hy
    have hkl : k = l.length := by omega
    refine W.seq fun K32 hK32 => ?_
    refine W.region ?_
    refine SeqOps.put 29 rfl rfl rfl (O.cmp (a := (k : Int)) (b := (l.length : Int)) (r := false) rfl rfl rfl (by simp [cmpI]; omega) ?_)
    refine SeqOps.nil ?_
    refine hK32 _ _ ?_
    try clear hK32 K32
    refine W.seq fun K33 hK33 => ?_
    refine W.cond_false rfl ?_
    refine W.exit ?_
    refine hK16 _ _ ?_
    try clear hK16 K16
    refine W.seq fun K34 hK34 => ?_
    refine W.region ?_
    refine SeqOps.put 51 rfl rfl rfl (O.move (v := out) rfl rfl ?_)
    refine SeqOps.put 4 rfl rfl rfl (O.assign (v := out) rfl rfl ?_)
    refine SeqOps.nil ?_
    refine hK34 _ _ ?_
    try clear hK34 K34
    refine W.ret ?_
    subst hkl
    rw [List.take_length] at hokk hall
    obtain ⟨M2, hle2, n2, hsame, rs2⟩ := own.join nk (Nat.le_refl _)
    have hM2 : M2 bp = none := by rw [hsame bp fun e => by have := (own.base e).1; omega]; exact hM
    have hdl : dList dHeader b = mapO dHeader l := by unfold dList; rw [hsp]; rfl
    obtain ⟨aof, capf, hof⟩ := rs2.form
    refine retQ_one rfl rfl ⟨M2, out, rfl, n2, hM2, ?_, ⟨_, _, _, hof⟩, fun ys hy => ?_⟩
    · rw [hdl, ← hokk]
      obtain ⟨lv, ev, hblk, hrb, hev⟩ := hp.blk
      refine h.next n2 hM2 ⟨lv, ev, hblk, hrb, hev.imp id fun ⟨e1, e2⟩ => ⟨e1, e2.mono ?_⟩⟩
      intro j o ho; unfold Hm at ho ⊢
      cases hj : M j with
      | some o' => rw [hj] at ho; rw [hle2 j o' hj]; exact ho
      | none =>
        rw [hj] at ho
        have hno := h.agrN.lt ho
        rw [show M2 j = none by rw [n2.st.low j hno]]; exact ho
    · rw [hdl] at hy
      have h2 := hall ys hy
      refine ⟨css, h2.imp fun _ _ hc => cHeader.mono hle2 hc, hcs, ?_⟩
      have hlen2 := mapO_length hy
      rw [hlen2]; exact rs2

theorem one_Header_calls {a : Addr} {HL N : Heap} {w : World} {bp : Nat} {b : List UInt8} {rem : List (List UInt8)} {ok : Bool} (h : PS a HL N w bp (b :: rem) ok) (hlen : b.length ≤ 1099511627776) :
    Calls Tryz.prog 119 #[.pointer (some ⟨bp, 0, none⟩), .func (.func 64) #[] #[]] w (RetP a HL N w bp rem (ok && (dHeader b).isSome) (fun M v => ∃ q : VHeader, v = .agg (List.toArray q.cells) ∧ q.ok ∧ ∀ y, dHeader b = some y → RHeader M q y)) := by
  have hlt0 := h.lt
  have h0L : ∀ {k}, w.heap.size ≤ k → HL k = none := fun hk => h.agrL.none hk
  have h0N : ∀ {k}, w.heap.size ≤ k → N k = none := fun hk => h.agrN.none hk
  cases hd : dHeader b with
  | some y =>
    refine calls_of_W (n := 23) Tryz.func119 rfl Tryz.ntmps119 (Nat.le_of_ble_eq_true rfl) ?_
    refine W.seq fun K1 hK1 => ?_
    refine W.region ?_
    refine SeqOps.put 4 rfl rfl rfl (O.alloc rfl zr59 ?_)
    intro br w0 hbr hbr1 hE0 hk0
    have h0 := h.ext hE0
    refine SeqOps.nil ?_
    refine hK1 _ _ ?_
    try clear hK1 K1
    refine W.seq fun K2 hK2 => ?_
    refine W.region ?_
    refine SeqOps.put 8 rfl rfl rfl (O.move (v := (.func (.func 64) #[] #[])) rfl rfl ?_)
    refine SeqOps.put 9 rfl rfl rfl (O.move (v := (.pointer (some ⟨bp, 0, none⟩))) rfl rfl ?_)
    refine SeqOps.put 10 rfl rfl rfl (O.call (fid := 125) (cap := #[]) (args := [(.pointer (some ⟨bp, 0, none⟩))]) rfl rfl rfl Tryz.func125 rfl rfl ?_)
    refine Calls.mono (next_calls h0) ?_
    rintro e w1 ⟨v1, rfl, hr, h1, hC1⟩
    have hne : br ≠ bp := by omega
    have hk1 := hC1.blk hk0 hne
    refine ⟨_, rfl, ?_⟩
    refine SeqOps.put 11 rfl rfl rfl (O.call (fid := 64) (cap := #[]) (args := [v1]) rfl rfl rfl Tryz.func64 rfl rfl ?_)
    refine Calls.mono (read_Header_calls (a := a) h1.agrL h1.glob hr (by omega)) ?_
    rintro e w5 hret
    obtain ⟨N5, v5, rfl, n5, hwf, hph⟩ := RetRd.good hd hret
    obtain ⟨q, rfl, hq⟩ := hph
    have hqok := hq.ok
    have hp5 := h1.new n5
    have hM5 : N5 bp = none := by rw [n5.st.low bp h1.lt]
    have hk5 := Ext.blk n5.st.chg hk1
    have n5' := (((New.start w (· = bp)).new hE0).trans (New.ofChg hC1) (fun i hi => ⟨.inr hi, rfl⟩)).trans n5 (fun i hi => hi.elim)
    rw [Hm.nilL, Hm.nilL] at n5'
    refine ⟨_, rfl, ?_⟩
    refine SeqOps.put 7 rfl rfl rfl (O.move (v := (.tuple #[(.agg (List.toArray (q.cells))), .nilIface])) rfl rfl ?_)
    refine SeqOps.put 12 rfl rfl rfl (O.extract (v := (.agg (List.toArray (q.cells)))) rfl rfl rfl ?_)
    refine SeqOps.put 13 rfl rfl rfl (O.extract (v := .nilIface) rfl rfl rfl ?_)
    refine SeqOps.put 5 rfl rfl rfl (O.alloc rfl zr59 ?_)
    intro bq w6 hbq hbq1 hE6 hkq0
    refine SeqOps.eff rfl rfl (O.store (b := bq) (off := 0) (v := .agg (List.toArray q.cells)) (n := 101) (c' := q.cells.toArray) rfl rfl rfl hkq0 sz59 rfl (by decide) (VHeader.one hqok) rfl ?_)
    intro w7 hC7 hkq
    have hE7 : Ext w5 w7 := hE6.trans_new hC7 fun i hi => .inl (by omega)
    have n7 := n5'.new hE7
    have hp7 := hp5.ext hE7
    have hk7 := Ext.blk hE7 hk5
    refine SeqOps.put 6 rfl rfl rfl (O.assign (v := .nilIface) rfl rfl ?_)
    refine SeqOps.nil ?_
    refine hK2 _ _ ?_
    try clear hK2 K2
    refine W.seq fun K3 hK3 => ?_
    refine W.seq fun K4 hK4 => ?_
    refine W.region ?_
    refine SeqOps.put 14 rfl rfl rfl (O.move (v := .nilIface) rfl rfl ?_)
    refine SeqOps.put 15 rfl rfl rfl (O.ifaceNil (v := .nilIface) (r := false) rfl rfl (.inl rfl) Tryz.underlying162 (.inr ⟨rfl, rfl⟩) ?_)
    refine SeqOps.nil ?_
    refine hK4 _ _ ?_
    try clear hK4 K4
    refine W.cond_false rfl ?_
    refine W.skip ?_
    refine hK3 _ _ ?_
    try clear hK3 K3
    refine W.seq fun K5 hK5 => ?_
    refine W.region ?_
    refine SeqOps.put 22 rfl rfl rfl (O.loadBlk (b := bq) (off := 0) (cs := q.cells) rfl rfl hkq Tryz.underlying59 rfl sz59 rfl ?_)
    refine SeqOps.eff rfl rfl (O.store (b := br) (off := 0) (v := .agg (List.toArray q.cells)) (n := 101) (c' := q.cells.toArray) rfl rfl rfl hk7 sz59 rfl (by decide) (VHeader.one hqok) rfl ?_)
    intro wf hCf hkf
    refine SeqOps.nil ?_
    refine hK5 _ _ ?_
    try clear hK5 K5
    refine W.ret ?_
    have hrM := n7.st.agr
    have hMr : N5 br = none := by rw [n5.st.low br (Nat.lt_of_lt_of_le hbr1 hC1.size)]
    have nf := n7.step hCf (fun i hi => ⟨.inl (by omega), by subst hi; exact hMr⟩)
    have hpf := hp7.chg hCf (fun i hi => by subst hi; exact ⟨hne, h0L hbr, Hm.none (h0N hbr) hMr⟩)
    refine retQ_cell (b := br) (cs := q.cells) rfl rfl hkf Tryz.underlying59 rfl sz59 ⟨N5, _, rfl, nf, hM5, ?_, q, rfl, hqok, fun z hz => ?_⟩
    · try rw [hd]
      simpa using hpf
    · try rw [hd] at hz
      cases hz; exact hq
  | none =>
    refine calls_of_W (n := 23) Tryz.func119 rfl Tryz.ntmps119 (Nat.le_of_ble_eq_true rfl) ?_
    refine W.seq fun K6 hK6 => ?_
    refine W.region ?_
    refine SeqOps.put 4 rfl rfl rfl (O.alloc rfl zr59 ?_)
    intro br w0 hbr hbr1 hE0 hk0
    have h0 := h.ext hE0
    refine SeqOps.nil ?_
    refine hK6 _ _ ?_
    try clear hK6 K6
    refine W.seq fun K7 hK7 => ?_
    refine W.region ?_
    refine SeqOps.put 8 rfl rfl rfl (O.move (v := (.func (.func 64) #[] #[])) rfl rfl ?_)
    refine SeqOps.put 9 rfl rfl rfl (O.move (v := (.pointer (some ⟨bp, 0, none⟩))) rfl rfl ?_)
    refine SeqOps.put 10 rfl rfl rfl (O.call (fid := 125) (cap := #[]) (args := [(.pointer (some ⟨bp, 0, none⟩))]) rfl rfl rfl Tryz.func125 rfl rfl ?_)
    refine Calls.mono (next_calls h0) ?_
    rintro e w1 ⟨v1, rfl, hr, h1, hC1⟩
    have hne : br ≠ bp := by omega
    have hk1 := hC1.blk hk0 hne
    refine ⟨_, rfl, ?_⟩
    refine SeqOps.put 11 rfl rfl rfl (O.call (fid := 64) (cap := #[]) (args := [v1]) rfl rfl rfl Tryz.func64 rfl rfl ?_)
    refine Calls.mono (read_Header_calls (a := a) h1.agrL h1.glob hr (by omega)) ?_
    rintro e w5 hret
    obtain ⟨N5, v5, be, rfl, n5, hwf, her⟩ := RetRd.bad hd hret
    obtain ⟨q, rfl, hqok⟩ := hwf
    have hp5 := h1.new n5
    have hM5 : N5 bp = none := by rw [n5.st.low bp h1.lt]
    have hk5 := Ext.blk n5.st.chg hk1
    have n5' := (((New.start w (· = bp)).new hE0).trans (New.ofChg hC1) (fun i hi => ⟨.inr hi, rfl⟩)).trans n5 (fun i hi => hi.elim)
    rw [Hm.nilL, Hm.nilL] at n5'
    refine ⟨_, rfl, ?_⟩
    refine SeqOps.put 7 rfl rfl rfl (O.move (v := (.tuple #[(.agg (List.toArray (q.cells))), (.iface 160 (.pointer (some ⟨be, 0, none⟩)))])) rfl rfl ?_)
    refine SeqOps.put 12 rfl rfl rfl (O.extract (v := (.agg (List.toArray (q.cells)))) rfl rfl rfl ?_)
    refine SeqOps.put 13 rfl rfl rfl (O.extract (v := (.iface 160 (.pointer (some ⟨be, 0, none⟩)))) rfl rfl rfl ?_)
    refine SeqOps.put 5 rfl rfl rfl (O.alloc rfl zr59 ?_)
    intro bq w6 hbq hbq1 hE6 hkq0
    refine SeqOps.eff rfl rfl (O.store (b := bq) (off := 0) (v := .agg (List.toArray q.cells)) (n := 101) (c' := q.cells.toArray) rfl rfl rfl hkq0 sz59 rfl (by decide) (VHeader.one hqok) rfl ?_)
    intro w7 hC7 hkq
    have hE7 : Ext w5 w7 := hE6.trans_new hC7 fun i hi => .inl (by omega)
    have n7 := n5'.new hE7
    have hp7 := hp5.ext hE7
    have hk7 := Ext.blk hE7 hk5
    refine SeqOps.put 6 rfl rfl rfl (O.assign (v := (.iface 160 (.pointer (some ⟨be, 0, none⟩)))) rfl rfl ?_)
    refine SeqOps.nil ?_
    refine hK7 _ _ ?_
    try clear hK7 K7
    refine W.seq fun K8 hK8 => ?_
    refine W.seq fun K9 hK9 => ?_
    refine W.region ?_
    refine SeqOps.put 14 rfl rfl rfl (O.move (v := (.iface 160 (.pointer (some ⟨be, 0, none⟩)))) rfl rfl ?_)
    refine SeqOps.put 15 rfl rfl rfl (O.ifaceNil (v := (.iface 160 (.pointer (some ⟨be, 0, none⟩)))) (r := true) rfl rfl (.inr ⟨_, _, rfl⟩) Tryz.underlying162 (.inr ⟨rfl, rfl⟩) ?_)
    refine SeqOps.nil ?_
    refine hK9 _ _ ?_
    try clear hK9 K9
    refine W.cond_true rfl ?_
    refine W.region ?_
    refine SeqOps.put 16 rfl rfl rfl (O.move (v := (.pointer (some ⟨bp, 0, none⟩))) rfl rfl ?_)
    refine SeqOps.put 17 rfl rfl rfl (O.move (v := (.iface 160 (.pointer (some ⟨be, 0, none⟩)))) rfl rfl ?_)
    refine SeqOps.put 18 rfl rfl rfl (O.build (vps := [(0, (strOf [119, 105, 116, 104, 105, 110])), (1, (.iface 160 (.pointer (some ⟨be, 0, none⟩))))]) (cells := [(strOf [119, 105, 116, 104, 105, 110]), (.iface 160 (.pointer (some ⟨be, 0, none⟩)))]) rfl rfl (by kernel_rfl) ?_)
    refine SeqOps.put 19 rfl rfl rfl (O.box (v := (.agg (List.toArray ([(strOf [119, 105, 116, 104, 105, 110]), (.iface 160 (.pointer (some ⟨be, 0, none⟩)))])))) rfl rfl ?_)
    intro b7 w8 hb7 hb7l hEw8 hkb7
    obtain ⟨h8, hN8, e8⟩ := hp7.wrong hEw8 hb7 hkb7
    refine SeqOps.put 20 rfl rfl rfl (O.makeIface (v := (.pointer (some ⟨b7, 0, none⟩))) rfl rfl Tryz.underlying160 rfl ?_)
    refine SeqOps.put 21 rfl rfl rfl (O.call (fid := 126) (cap := #[]) (args := [(.pointer (some ⟨bp, 0, none⟩)), (.iface 160 (.pointer (some ⟨b7, 0, none⟩)))]) rfl rfl rfl Tryz.func126 rfl rfl ?_)
    refine Calls.mono (bad_calls h8 (.wrap (Hadd_same _ _ _) (her.mono (Hle.trans (Hm.right N N5) (Hle.add _ (hp7.agrN.none hb7)))))) ?_
    rintro e w9 ⟨rfl, h9, hC9⟩
    have hlt7 := hp7.lt
    have hM9 : Hm N5 (Hadd NH b7 (Obj.cells ((.agg (List.toArray ([(strOf [119, 105, 116, 104, 105, 110]), (.iface 160 (.pointer (some ⟨be, 0, none⟩)))]))) : Value).cells 164 (0, 0))) bp = none := Hm.none hM5 (by rw [Hadd_ne _ _ (by omega)])
    have n9 := (n7.trans hN8 (fun i hi => hi.elim)).step hC9 (fun i hi => ⟨.inr hi, by subst hi; exact hM9⟩)
    rw [← e8, Hm.assoc] at h9
    have hk9 := hC9.blk (Ext.blk hEw8 hk7) hne
    have hkq9 := hC9.blk (Ext.blk hEw8 hkq) (by have := hE0.size; have := hC1.size; have := n5.st.chg.size; omega)
    refine ⟨_, rfl, ?_⟩
    refine SeqOps.nil ?_
    refine hK8 _ _ ?_
    try clear hK8 K8
    refine W.seq fun K10 hK10 => ?_
    refine W.region ?_
    refine SeqOps.put 22 rfl rfl rfl (O.loadBlk (b := bq) (off := 0) (cs := q.cells) rfl rfl hkq9 Tryz.underlying59 rfl sz59 rfl ?_)
    refine SeqOps.eff rfl rfl (O.store (b := br) (off := 0) (v := .agg (List.toArray q.cells)) (n := 101) (c' := q.cells.toArray) rfl rfl rfl hk9 sz59 rfl (by decide) (VHeader.one hqok) rfl ?_)
    intro wf hCf hkf
    refine SeqOps.nil ?_
    refine hK10 _ _ ?_
    try clear hK10 K10
    refine W.ret ?_
    have hrM := n9.st.agr
    have hMr : Hm N5 (Hadd NH b7 (Obj.cells ((.agg (List.toArray ([(strOf [119, 105, 116, 104, 105, 110]), (.iface 160 (.pointer (some ⟨be, 0, none⟩)))]))) : Value).cells 164 (0, 0))) br = none := Hm.none (by rw [n5.st.low br (Nat.lt_of_lt_of_le hbr1 hC1.size)]) (by have h1 := hC1.size; have h2 := n5.st.chg.size; have h3 := hE7.size; rw [Hadd_ne _ _ (by omega)])
    have nf := n9.step hCf (fun i hi => ⟨.inl (by omega), by subst hi; exact hMr⟩)
    have hpf := h9.chg hCf (fun i hi => by subst hi; exact ⟨hne, h0L hbr, Hm.none (h0N hbr) hMr⟩)
    refine retQ_cell (b := br) (cs := q.cells) rfl rfl hkf Tryz.underlying59 rfl sz59 ⟨_, _, rfl, nf, hM9, ?_, q, rfl, hqok, fun z hz => ?_⟩
    · try rw [hd]
      simpa using hpf
    · try rw [hd] at hz
      cases hz

def wfQC (v : Value) : Prop := ∃ q : VQC, v = .agg (List.toArray q.cells) ∧ q.ok
def phQC (N : Heap) (v : Value) (y : DQC) : Prop := ∃ q : VQC, v = .agg (List.toArray q.cells) ∧ RQC N q y
set_option maxHeartbeats 1000000 in
theorem read_QC_calls {a : Addr} {H : Heap} {w : World} {v : Value} {bs : List UInt8} (hA : Agr H w) (hG : hcell H ⟨1, 0, none⟩ = some (eS a)) (r : RB H v bs) (hlen : bs.length ≤ 1099511627776) :
    Calls Tryz.prog 71 #[v] w (RetRd a dQC wfQC phQC w bs) := by
  refine calls_of_W (n := 26) Tryz.func71 rfl Tryz.ntmps71 (Nat.le_of_ble_eq_true rfl) ?_
  refine W.seq fun K1 hK1 => ?_
  refine W.region ?_
  refine SeqOps.put 2 rfl rfl rfl (O.alloc rfl zr43 ?_)
  intro br w0 hbr hbr1 hE0 hk0
  refine SeqOps.put 3 rfl rfl rfl (O.assign (v := .nilIface) rfl rfl ?_)
  refine SeqOps.nil ?_
  refine hK1 _ _ ?_
  try clear hK1 K1
  refine W.seq fun K2 hK2 => ?_
  refine W.region ?_
  refine SeqOps.put 6 rfl rfl rfl (O.move (v := v) rfl rfl ?_)
  refine SeqOps.put 7 rfl rfl rfl (O.call (fid := 87) (cap := #[]) (args := [v, (.int .i64 (6)), (strOf [97, 32, 99, 101, 114, 116, 105, 102, 105, 99, 97, 116, 101])]) rfl rfl rfl Tryz.func87 rfl rfl ?_)
  refine Calls.mono (split_calls (a := a) (n := 6) (Ext.agr hE0 hA) hG r hlen (by omega)) ?_
  rintro e w1 ⟨N0, bp, rem, okS, rfl, n0, hbp, hps, hrl, hok1, hok2, hrle⟩
  obtain ⟨b0, b1, b2, b3, b4, b5, rfl⟩ : ∃ b0 b1 b2 b3 b4 b5, rem = [b0, b1, b2, b3, b4, b5] := by match rem, hrl with | [b0, b1, b2, b3, b4, b5], _ => exact ⟨b0, b1, b2, b3, b4, b5, rfl⟩
  have hbrp : br ≠ bp := by omega
  have hkr := Ext.blk n0.st.chg hk0
  have nn0 := ((New.start w NoX).new hE0).trans n0 (fun i hi => hi.elim)
  rw [Hm.nilL] at nn0
  have hr0 : N0 br = none := by rw [n0.st.low br hbr1]
  refine ⟨_, rfl, ?_⟩
  refine SeqOps.put 4 rfl rfl rfl (O.assign (v := (.pointer (some ⟨bp, 0, none⟩))) rfl rfl ?_)
  refine SeqOps.nil ?_
  refine hK2 _ _ ?_
  try clear hK2 K2
  refine W.seq fun K3 hK3 => ?_
  refine W.region ?_
  refine SeqOps.put 8 rfl rfl rfl (O.move (v := (.pointer (some ⟨bp, 0, none⟩))) rfl rfl ?_)
  refine SeqOps.put 9 rfl rfl rfl (O.call (fid := 88) (cap := #[]) (args := [(.pointer (some ⟨bp, 0, none⟩))]) rfl rfl rfl Tryz.func88 rfl rfl ?_)
  refine Calls.mono (pint_calls hps) ?_
  rintro e wm1 ⟨M1, v0_, rfl, nm1, hM1, hp1, ⟨f0, rfl, hrng0, hy0⟩⟩
  have nn1 := nn0.trans nm1 (fun i hi => ⟨.inl (by subst hi; have := hE0.size; omega), by subst hi; exact hps.outN⟩)
  have hkr1 := nm1.st.chg.blk hkr hbrp
  have hr1 : Hm N0 M1 br = none := Hm.none hr0 (by rw [nm1.st.low br (blk_lt hkr)])
  have hle1 : Hle N0 (Hm N0 M1) := nn0.le1 nm1
  refine ⟨_, rfl, ?_⟩
  refine SeqOps.put 10 rfl rfl rfl (O.move (v := (.pointer (some ⟨bp, 0, none⟩))) rfl rfl ?_)
  refine SeqOps.put 11 rfl rfl rfl (O.call (fid := 88) (cap := #[]) (args := [(.pointer (some ⟨bp, 0, none⟩))]) rfl rfl rfl Tryz.func88 rfl rfl ?_)
  refine Calls.mono (pint_calls hp1) ?_
  rintro e wm2 ⟨M2, v1_, rfl, nm2, hM2, hp2, ⟨f1, rfl, hrng1, hy1⟩⟩
  have nn2 := nn1.trans nm2 (fun i hi => ⟨.inl (by subst hi; have := hE0.size; omega), by subst hi; exact hp1.outN⟩)
  have hkr2 := nm2.st.chg.blk hkr1 hbrp
  have hr2 : Hm (Hm N0 M1) M2 br = none := Hm.none hr1 (by rw [nm2.st.low br (blk_lt hkr1)])
  have hle2 : Hle (Hm N0 M1) (Hm (Hm N0 M1) M2) := nn1.le1 nm2
  refine ⟨_, rfl, ?_⟩
  refine SeqOps.put 12 rfl rfl rfl (O.move (v := (.pointer (some ⟨bp, 0, none⟩))) rfl rfl ?_)
  refine SeqOps.put 13 rfl rfl rfl (O.call (fid := 89) (cap := #[]) (args := [(.pointer (some ⟨bp, 0, none⟩))]) rfl rfl rfl Tryz.func89 rfl rfl ?_)
  refine Calls.mono (pn_calls hp2) ?_
  rintro e wm3 ⟨M3, v2_, rfl, nm3, hM3, hp3, ⟨f2, rfl, hrng2, hy2⟩⟩
  have nn3 := nn2.trans nm3 (fun i hi => ⟨.inl (by subst hi; have := hE0.size; omega), by subst hi; exact hp2.outN⟩)
  have hkr3 := nm3.st.chg.blk hkr2 hbrp
  have hr3 : Hm (Hm (Hm N0 M1) M2) M3 br = none := Hm.none hr2 (by rw [nm3.st.low br (blk_lt hkr2)])
  have hle3 : Hle (Hm (Hm N0 M1) M2) (Hm (Hm (Hm N0 M1) M2) M3) := nn2.le1 nm3
  refine ⟨_, rfl, ?_⟩
  refine SeqOps.put 14 rfl rfl rfl (O.move (v := (.pointer (some ⟨bp, 0, none⟩))) rfl rfl ?_)
  refine SeqOps.put 15 rfl rfl rfl (O.call (fid := 90) (cap := #[]) (args := [(.pointer (some ⟨bp, 0, none⟩))]) rfl rfl rfl Tryz.func90 rfl rfl ?_)
  refine Calls.mono (pdigest_calls hp3) ?_
  rintro e wm4 ⟨M4, v3_, rfl, nm4, hM4, hp4, ⟨f3, rfl, hy3⟩⟩
  have nn4 := nn3.trans nm4 (fun i hi => ⟨.inl (by subst hi; have := hE0.size; omega), by subst hi; exact hp3.outN⟩)
  have hkr4 := nm4.st.chg.blk hkr3 hbrp
  have hr4 : Hm (Hm (Hm (Hm N0 M1) M2) M3) M4 br = none := Hm.none hr3 (by rw [nm4.st.low br (blk_lt hkr3)])
  have hle4 : Hle (Hm (Hm (Hm N0 M1) M2) M3) (Hm (Hm (Hm (Hm N0 M1) M2) M3) M4) := nn3.le1 nm4
  refine ⟨_, rfl, ?_⟩
  refine SeqOps.put 16 rfl rfl rfl (O.move (v := (.pointer (some ⟨bp, 0, none⟩))) rfl rfl ?_)
  refine SeqOps.put 17 rfl rfl rfl (O.call (fid := 107) (cap := #[]) (args := [(.pointer (some ⟨bp, 0, none⟩)), (.func (.func 108) #[] #[])]) rfl rfl rfl Tryz.func107 rfl rfl ?_)
  refine Calls.mono (all_i64_calls hp4 (by have := hrle b4 (by simp); omega)) ?_
  rintro e wm5 ⟨M5, v4_, rfl, nm5, hM5, hp5, ⟨⟨ao4, n4, cap4, rfl⟩, hy4⟩⟩
  have nn5 := nn4.trans nm5 (fun i hi => ⟨.inl (by subst hi; have := hE0.size; omega), by subst hi; exact hp4.outN⟩)
  have hkr5 := nm5.st.chg.blk hkr4 hbrp
  have hr5 : Hm (Hm (Hm (Hm (Hm N0 M1) M2) M3) M4) M5 br = none := Hm.none hr4 (by rw [nm5.st.low br (blk_lt hkr4)])
  have hle5 : Hle (Hm (Hm (Hm (Hm N0 M1) M2) M3) M4) (Hm (Hm (Hm (Hm (Hm N0 M1) M2) M3) M4) M5) := nn4.le1 nm5
  refine ⟨_, rfl, ?_⟩
  refine SeqOps.put 18 rfl rfl rfl (O.move (v := (.pointer (some ⟨bp, 0, none⟩))) rfl rfl ?_)
  refine SeqOps.put 19 rfl rfl rfl (O.call (fid := 113) (cap := #[]) (args := [(.pointer (some ⟨bp, 0, none⟩)), (.func (.func 114) #[] #[])]) rfl rfl rfl Tryz.func113 rfl rfl ?_)
  refine Calls.mono (all_Sig_calls hp5 (by have := hrle b5 (by simp); omega)) ?_
  rintro e wm6 ⟨M6, v5_, rfl, nm6, hM6, hp6, ⟨⟨ao5, n5, cap5, rfl⟩, hy5⟩⟩
  have nn6 := nn5.trans nm6 (fun i hi => ⟨.inl (by subst hi; have := hE0.size; omega), by subst hi; exact hp5.outN⟩)
  have hkr6 := nm6.st.chg.blk hkr5 hbrp
  have hr6 : Hm (Hm (Hm (Hm (Hm (Hm N0 M1) M2) M3) M4) M5) M6 br = none := Hm.none hr5 (by rw [nm6.st.low br (blk_lt hkr5)])
  have hle6 : Hle (Hm (Hm (Hm (Hm (Hm N0 M1) M2) M3) M4) M5) (Hm (Hm (Hm (Hm (Hm (Hm N0 M1) M2) M3) M4) M5) M6) := nn5.le1 nm6
  refine ⟨_, rfl, ?_⟩
  obtain ⟨q, hq⟩ : ∃ q : VQC, q = ⟨f0, f1, f2, f3, (.slice ao4 n4 cap4), (.slice ao5 n5 cap5)⟩ := ⟨_, rfl⟩
  refine SeqOps.put 20 rfl rfl rfl (O.build (vps := [(0, (.int .i64 (f0))), (1, (.int .i64 (f1))), (2, (.int .i64 (f2))), (3, (.agg (List.toArray (digC f3)))), (4, (.slice ao4 n4 cap4)), (5, (.slice ao5 n5 cap5))]) (cells := (VQC.cells ⟨f0, f1, f2, f3, (.slice ao4 n4 cap4), (.slice ao5 n5 cap5)⟩)) rfl rfl (by kernel_rfl) ?_)
  rw [← hq]
  have hqok : q.ok := by rw [hq]; exact ⟨rfl, rfl⟩
  refine SeqOps.put 5 rfl rfl rfl (O.alloc rfl zr43 ?_)
  intro bq wa hbq hbq1 hEa hkq0
  refine SeqOps.eff rfl rfl (O.store (b := bq) (off := 0) (v := .agg (List.toArray q.cells)) (n := 37) (c' := q.cells.toArray) rfl rfl rfl hkq0 sz43 rfl (by decide) (VQC.one hqok) rfl ?_)
  intro wq hCq hkq
  have hEq : Ext wm6 wq := hEa.trans_new hCq fun i hi => .inl (by omega)
  have hpq := hp6.ext hEq
  have hkrq := Ext.blk hEq hkr6
  have hqr : bq ≠ br := by have := blk_lt hkr6; omega
  have hpr : bp ≠ br := Ne.symm hbrp
  obtain ⟨lv, ev, hkp, hevf, hev⟩ := hpq.final
  skip
  refine SeqOps.nil ?_
  refine hK3 _ _ ?_
  try clear hK3 K3
  refine W.seq fun K4 hK4 => ?_
  obtain ⟨obj, hobj⟩ : ∃ o, o = Obj.cells q.cells.toArray 43 (0, 0) := ⟨_, rfl⟩
  refine W.region_any (by kernel_rfl) (by kernel_rfl) [21, 22, 23, 24, 25, 3] rfl (fun a b => RStoreC br (.cells q.cells.toArray 43 (0, 0)) 37 43 a b) (fun _ => RStoreC.refl _ _ _ _ _) (fun h k => RStoreC.trans h k) [
      (fun (u : Value) (_ : World) => u = .agg (List.toArray q.cells)),
      (fun (u : Value) (_ : World) => u = Value.pointer (some ⟨bp, 0, none⟩)),
      (fun (u : Value) (_ : World) => u = Value.pointer (some ⟨bp, 0, none⟩)),
      (fun (u : Value) (_ : World) => u = Value.pointer (some ⟨bp, 1, none⟩)),
      (fun (u : Value) (_ : World) => u = ev),
      (fun (_ : Value) (w : World) => w.heap[br]? = some (.cells q.cells.toArray 43 (0, 0))),
      (fun (u : Value) (_ : World) => u = ev)
    ] ⟨fun _ _ _ _ h => h, fun _ _ _ _ h => h, fun _ _ _ _ h => h, fun _ _ _ _ h => h, fun _ _ _ _ h => h, fun _ _ _ hE h => hE.2.1 h, fun _ _ _ _ h => h, trivial⟩ ⟨?_, ?_, ?_, ?_, ?_, ?_, ?_, trivial⟩ ?_
  · intro g w1 hR hf hd
    have h1 : g 5 = .pointer (some ⟨bq, 0, none⟩) := hf 5 (by decide)
    have hb1 := Chg.blk hR.1 (show wq.drew.heap[bq]? = _ from hkq) hqr
    exact StepT.plain rfl (O.loadBlk (b := bq) (off := 0) (cs := q.cells) rfl h1 hb1 Tryz.underlying43 rfl sz43 rfl ⟨RStoreC.refl _ _ _ _ _, rfl⟩)
  · intro g w1 hR hf hd
    have h1 : g 4 = Value.pointer (some ⟨bp, 0, none⟩) := hf 4 (by decide)
    exact StepT.plain rfl (O.move (v := Value.pointer (some ⟨bp, 0, none⟩)) rfl h1 ⟨RStoreC.refl _ _ _ _ _, rfl⟩)
  · intro g w1 hR hf hd
    have h1 : (fun (u : Value) (_ : World) => u = Value.pointer (some ⟨bp, 0, none⟩)) (g 22) w1 := hd.1 rfl
    exact StepT.plain rfl (O.nilCheckPtr (a := ⟨bp, 0, none⟩) rfl h1 ⟨RStoreC.refl _ _ _ _ _, rfl⟩)
  · intro g w1 hR hf hd
    have h1 : (fun (u : Value) (_ : World) => u = Value.pointer (some ⟨bp, 0, none⟩)) (g 23) w1 := hd.1 rfl
    exact StepT.plain rfl (O.fieldAddr (a := ⟨bp, 0, none⟩) (v := Value.pointer (some ⟨bp, 1, none⟩)) rfl h1 Tryz.underlying177 rfl (by kernel_rfl) rfl ⟨RStoreC.refl _ _ _ _ _, rfl⟩)
  · intro g w1 hR hf hd
    have h1 : (fun (u : Value) (_ : World) => u = Value.pointer (some ⟨bp, 1, none⟩)) (g 24) w1 := hd.1 rfl
    have hb1 := Chg.blk hR.1 (show wq.drew.heap[bp]? = _ from hkp) hpr
    exact StepT.plain rfl (O.loadBlk1 (b := bp) (off := 1) (v := ev) rfl h1 hb1 Tryz.underlying162 rfl rfl ⟨RStoreC.refl _ _ _ _ _, rfl⟩)
  · intro g w1 hR hf hd
    have h1 : g 2 = .pointer (some ⟨br, 0, none⟩) := hf 2 (by decide)
    have h2 : g 21 = .agg (List.toArray q.cells) := hd.1 rfl
    obtain ⟨cr, hcr, hk⟩ := hR.2.2 ⟨_, rfl, show wq.drew.heap[br]? = _ from hkrq⟩
    refine StepT.plain rfl (O.store (b := br) (off := 0) (v := .agg (List.toArray q.cells)) (n := 37) (c' := q.cells.toArray) rfl h1 h2 hk sz43 rfl (by rw [Nat.zero_add, hcr]; exact Nat.le_refl _) (VQC.one hqok) (by simp [Value.cells, VQC.length, hcr]) ?_)
    intro w2 hC hk2
    exact ⟨⟨hC, fun _ => hk2, fun _ => ⟨_, VQC.length q, hk2⟩⟩, hk2⟩
  · intro g w1 hR hf hd
    have h1 : g 25 = ev := hd.1 rfl
    exact StepT.plain rfl (O.assign (v := ev) rfl h1 ⟨RStoreC.refl _ _ _ _ _, rfl⟩)
  intro g w9 hR hf hall
  have hf5 := hall.2.2.2.2.2.1
  have hf6 := hall.2.2.2.2.2.2.1
  refine hK4 _ _ ?_
  try clear hK4 K4
  refine W.ret ?_
  have n9 := ((nn6.new hEq).new (Ext.drew wq)).step hR.1 (fun i hi => ⟨.inl (by omega), by subst hi; exact hr6⟩)
  refine retQ_cell2 (b := br) (cs := q.cells) rfl (hf 2 (by decide)) hf6 hf5 Tryz.underlying43 rfl sz43 ⟨_, _, _, rfl, n9, ⟨q, rfl, hqok⟩, ?_⟩
  rcases hev with ⟨hok, rfl⟩ | ⟨hok, he⟩
  · simp only [Bool.and_eq_true] at hok
    obtain ⟨⟨⟨⟨⟨⟨hok0, hs0⟩, hs1⟩, hs2⟩, hs3⟩, hs4⟩, hs5⟩ := hok
    obtain ⟨y0, hd0⟩ := Option.isSome_iff_exists.1 hs0
    obtain ⟨y1, hd1⟩ := Option.isSome_iff_exists.1 hs1
    obtain ⟨y2, hd2⟩ := Option.isSome_iff_exists.1 hs2
    obtain ⟨y3, hd3⟩ := Option.isSome_iff_exists.1 hs3
    obtain ⟨y4, hd4⟩ := Option.isSome_iff_exists.1 hs4
    obtain ⟨y5, hd5⟩ := Option.isSome_iff_exists.1 hs5
    refine .inl ⟨⟨y0, y1, y2, y3, y4, y5⟩, ?_, rfl, q, rfl, ?_⟩
    · unfold dQC; rw [hok1 hok0]; exact dQCL_some hd0 hd1 hd2 hd3 hd4 hd5
    · rw [hq]; exact ⟨⟨hy0 _ hd0, by rw [← hy0 _ hd0]; exact hrng0⟩, ⟨hy1 _ hd1, by rw [← hy1 _ hd1]; exact hrng1⟩, ⟨hy2 _ hd2, by rw [← hy2 _ hd2]; exact hrng2⟩, hy3 _ hd3, RInts.mono (hy4 _ hd4) ((Hm.right _ M5).trans hle6), RL.mono (R := cSig) cSig.mono (hy5 _ hd5) (Hm.right _ M6)⟩
  · refine .inr ⟨?_, he⟩
    cases hokS : okS with
    | false =>
      unfold dQC
      cases hs : split bs with
      | none => rfl
      | some l => exact dQCL_len (hok2 hokS l hs)
    | true =>
      unfold dQC
      rw [hok1 hokS]
      have hiss := dQCL_isSome b0 b1 b2 b3 b4 b5
      rw [hokS] at hok; simp only [Bool.true_and] at hok hiss
      rw [show dInts b4 = dList dI64 b4 from rfl] at hiss
      rw [hok] at hiss
      simpa using hiss

theorem one_QC_calls {a : Addr} {HL N : Heap} {w : World} {bp : Nat} {b : List UInt8} {rem : List (List UInt8)} {ok : Bool} (h : PS a HL N w bp (b :: rem) ok) (hlen : b.length ≤ 1099511627776) :
    Calls Tryz.prog 116 #[.pointer (some ⟨bp, 0, none⟩), .func (.func 71) #[] #[]] w (RetP a HL N w bp rem (ok && (dQC b).isSome) (fun M v => ∃ q : VQC, v = .agg (List.toArray q.cells) ∧ q.ok ∧ ∀ y, dQC b = some y → RQC M q y)) := by
  have hlt0 := h.lt
  have h0L : ∀ {k}, w.heap.size ≤ k → HL k = none := fun hk => h.agrL.none hk
  have h0N : ∀ {k}, w.heap.size ≤ k → N k = none := fun hk => h.agrN.none hk
  cases hd : dQC b with
  | some y =>
    refine calls_of_W (n := 23) Tryz.func116 rfl Tryz.ntmps116 (Nat.le_of_ble_eq_true rfl) ?_
    refine W.seq fun K1 hK1 => ?_
    refine W.region ?_
    refine SeqOps.put 4 rfl rfl rfl (O.alloc rfl zr43 ?_)
    intro br w0 hbr hbr1 hE0 hk0
    have h0 := h.ext hE0
    refine SeqOps.nil ?_
    refine hK1 _ _ ?_
    try clear hK1 K1
    refine W.seq fun K2 hK2 => ?_
    refine W.region ?_
    refine SeqOps.put 8 rfl rfl rfl (O.move (v := (.func (.func 71) #[] #[])) rfl rfl ?_)
    refine SeqOps.put 9 rfl rfl rfl (O.move (v := (.pointer (some ⟨bp, 0, none⟩))) rfl rfl ?_)
    refine SeqOps.put 10 rfl rfl rfl (O.call (fid := 125) (cap := #[]) (args := [(.pointer (some ⟨bp, 0, none⟩))]) rfl rfl rfl Tryz.func125 rfl rfl ?_)
    refine Calls.mono (next_calls h0) ?_
    rintro e w1 ⟨v1, rfl, hr, h1, hC1⟩
    have hne : br ≠ bp := by omega
    have hk1 := hC1.blk hk0 hne
    refine ⟨_, rfl, ?_⟩
    refine SeqOps.put 11 rfl rfl rfl (O.call (fid := 71) (cap := #[]) (args := [v1]) rfl rfl rfl Tryz.func71 rfl rfl ?_)
    refine Calls.mono (read_QC_calls (a := a) h1.agrL h1.glob hr (by omega)) ?_
    rintro e w5 hret
    obtain ⟨N5, v5, rfl, n5, hwf, hph⟩ := RetRd.good hd hret
    obtain ⟨q, rfl, hq⟩ := hph
    have hqok := hq.ok
    have hp5 := h1.new n5
    have hM5 : N5 bp = none := by rw [n5.st.low bp h1.lt]
    have hk5 := Ext.blk n5.st.chg hk1
    have n5' := (((New.start w (· = bp)).new hE0).trans (New.ofChg hC1) (fun i hi => ⟨.inr hi, rfl⟩)).trans n5 (fun i hi => hi.elim)
    rw [Hm.nilL, Hm.nilL] at n5'
    refine ⟨_, rfl, ?_⟩
    refine SeqOps.put 7 rfl rfl rfl (O.move (v := (.tuple #[(.agg (List.toArray (q.cells))), .nilIface])) rfl rfl ?_)
    refine SeqOps.put 12 rfl rfl rfl (O.extract (v := (.agg (List.toArray (q.cells)))) rfl rfl rfl ?_)
    refine SeqOps.put 13 rfl rfl rfl (O.extract (v := .nilIface) rfl rfl rfl ?_)
    refine SeqOps.put 5 rfl rfl rfl (O.alloc rfl zr43 ?_)
    intro bq w6 hbq hbq1 hE6 hkq0
    refine SeqOps.eff rfl rfl (O.store (b := bq) (off := 0) (v := .agg (List.toArray q.cells)) (n := 37) (c' := q.cells.toArray) rfl rfl rfl hkq0 sz43 rfl (by decide) (VQC.one hqok) rfl ?_)
    intro w7 hC7 hkq
    have hE7 : Ext w5 w7 := hE6.trans_new hC7 fun i hi => .inl (by omega)
    have n7 := n5'.new hE7
    have hp7 := hp5.ext hE7
    have hk7 := Ext.blk hE7 hk5
    refine SeqOps.put 6 rfl rfl rfl (O.assign (v := .nilIface) rfl rfl ?_)
    refine SeqOps.nil ?_
    refine hK2 _ _ ?_
    try clear hK2 K2
    refine W.seq fun K3 hK3 => ?_
    refine W.seq fun K4 hK4 => ?_
    refine W.region ?_
    refine SeqOps.put 14 rfl rfl rfl (O.move (v := .nilIface) rfl rfl ?_)
    refine SeqOps.put 15 rfl rfl rfl (O.ifaceNil (v := .nilIface) (r := false) rfl rfl (.inl rfl) Tryz.underlying162 (.inr ⟨rfl, rfl⟩) ?_)
    refine SeqOps.nil ?_
    refine hK4 _ _ ?_
    try clear hK4 K4
    refine W.cond_false rfl ?_
    refine W.skip ?_
    refine hK3 _ _ ?_
    try clear hK3 K3
    refine W.seq fun K5 hK5 => ?_
    refine W.region ?_
    refine SeqOps.put 22 rfl rfl rfl (O.loadBlk (b := bq) (off := 0) (cs := q.cells) rfl rfl hkq Tryz.underlying43 rfl sz43 rfl ?_)
    refine SeqOps.eff rfl rfl (O.store (b := br) (off := 0) (v := .agg (List.toArray q.cells)) (n := 37) (c' := q.cells.toArray) rfl rfl rfl hk7 sz43 rfl (by decide) (VQC.one hqok) rfl ?_)
    intro wf hCf hkf
    refine SeqOps.nil ?_
    refine hK5 _ _ ?_
    try clear hK5 K5
    refine W.ret ?_
    have hrM := n7.st.agr
    have hMr : N5 br = none := by rw [n5.st.low br (Nat.lt_of_lt_of_le hbr1 hC1.size)]
    have nf := n7.step hCf (fun i hi => ⟨.inl (by omega), by subst hi; exact hMr⟩)
    have hpf := hp7.chg hCf (fun i hi => by subst hi; exact ⟨hne, h0L hbr, Hm.none (h0N hbr) hMr⟩)
    refine retQ_cell (b := br) (cs := q.cells) rfl rfl hkf Tryz.underlying43 rfl sz43 ⟨N5, _, rfl, nf, hM5, ?_, q, rfl, hqok, fun z hz => ?_⟩
    · try rw [hd]
      simpa using hpf
    · try rw [hd] at hz
      cases hz; exact hq
  | none =>
    refine calls_of_W (n := 23) Tryz.func116 rfl Tryz.ntmps116 (Nat.le_of_ble_eq_true rfl) ?_
    refine W.seq fun K6 hK6 => ?_
    refine W.region ?_
    refine SeqOps.put 4 rfl rfl rfl (O.alloc rfl zr43 ?_)
    intro br w0 hbr hbr1 hE0 hk0
    have h0 := h.ext hE0
    refine SeqOps.nil ?_
    refine hK6 _ _ ?_
    try clear hK6 K6
    refine W.seq fun K7 hK7 => ?_
    refine W.region ?_
    refine SeqOps.put 8 rfl rfl rfl (O.move (v := (.func (.func 71) #[] #[])) rfl rfl ?_)
    refine SeqOps.put 9 rfl rfl rfl (O.move (v := (.pointer (some ⟨bp, 0, none⟩))) rfl rfl ?_)
    refine SeqOps.put 10 rfl rfl rfl (O.call (fid := 125) (cap := #[]) (args := [(.pointer (some ⟨bp, 0, none⟩))]) rfl rfl rfl Tryz.func125 rfl rfl ?_)
    refine Calls.mono (next_calls h0) ?_
    rintro e w1 ⟨v1, rfl, hr, h1, hC1⟩
    have hne : br ≠ bp := by omega
    have hk1 := hC1.blk hk0 hne
    refine ⟨_, rfl, ?_⟩
    refine SeqOps.put 11 rfl rfl rfl (O.call (fid := 71) (cap := #[]) (args := [v1]) rfl rfl rfl Tryz.func71 rfl rfl ?_)
    refine Calls.mono (read_QC_calls (a := a) h1.agrL h1.glob hr (by omega)) ?_
    rintro e w5 hret
    obtain ⟨N5, v5, be, rfl, n5, hwf, her⟩ := RetRd.bad hd hret
    obtain ⟨q, rfl, hqok⟩ := hwf
    have hp5 := h1.new n5
    have hM5 : N5 bp = none := by rw [n5.st.low bp h1.lt]
    have hk5 := Ext.blk n5.st.chg hk1
    have n5' := (((New.start w (· = bp)).new hE0).trans (New.ofChg hC1) (fun i hi => ⟨.inr hi, rfl⟩)).trans n5 (fun i hi => hi.elim)
    rw [Hm.nilL, Hm.nilL] at n5'
    refine ⟨_, rfl, ?_⟩
    refine SeqOps.put 7 rfl rfl rfl (O.move (v := (.tuple #[(.agg (List.toArray (q.cells))), (.iface 160 (.pointer (some ⟨be, 0, none⟩)))])) rfl rfl ?_)
    refine SeqOps.put 12 rfl rfl rfl (O.extract (v := (.agg (List.toArray (q.cells)))) rfl rfl rfl ?_)
    refine SeqOps.put 13 rfl rfl rfl (O.extract (v := (.iface 160 (.pointer (some ⟨be, 0, none⟩)))) rfl rfl rfl ?_)
    refine SeqOps.put 5 rfl rfl rfl (O.alloc rfl zr43 ?_)
    intro bq w6 hbq hbq1 hE6 hkq0
    refine SeqOps.eff rfl rfl (O.store (b := bq) (off := 0) (v := .agg (List.toArray q.cells)) (n := 37) (c' := q.cells.toArray) rfl rfl rfl hkq0 sz43 rfl (by decide) (VQC.one hqok) rfl ?_)
    intro w7 hC7 hkq
    have hE7 : Ext w5 w7 := hE6.trans_new hC7 fun i hi => .inl (by omega)
    have n7 := n5'.new hE7
    have hp7 := hp5.ext hE7
    have hk7 := Ext.blk hE7 hk5
    refine SeqOps.put 6 rfl rfl rfl (O.assign (v := (.iface 160 (.pointer (some ⟨be, 0, none⟩)))) rfl rfl ?_)
    refine SeqOps.nil ?_
    refine hK7 _ _ ?_
    try clear hK7 K7
    refine W.seq fun K8 hK8 => ?_
    refine W.seq fun K9 hK9 => ?_
    refine W.region ?_
    refine SeqOps.put 14 rfl rfl rfl (O.move (v := (.iface 160 (.pointer (some ⟨be, 0, none⟩)))) rfl rfl ?_)
    refine SeqOps.put 15 rfl rfl rfl (O.ifaceNil (v := (.iface 160 (.pointer (some ⟨be, 0, none⟩)))) (r := true) rfl rfl (.inr ⟨_, _, rfl⟩) Tryz.underlying162 (.inr ⟨rfl, rfl⟩) ?_)
    refine SeqOps.nil ?_
    refine hK9 _ _ ?_
    try clear hK9 K9
    refine W.cond_true rfl ?_
    refine W.region ?_
    refine SeqOps.put 16 rfl rfl rfl (O.move (v := (.pointer (some ⟨bp, 0, none⟩))) rfl rfl ?_)
    refine SeqOps.put 17 rfl rfl rfl (O.move (v := (.iface 160 (.pointer (some ⟨be, 0, none⟩)))) rfl rfl ?_)
    refine SeqOps.put 18 rfl rfl rfl (O.build (vps := [(0, (strOf [119, 105, 116, 104, 105, 110])), (1, (.iface 160 (.pointer (some ⟨be, 0, none⟩))))]) (cells := [(strOf [119, 105, 116, 104, 105, 110]), (.iface 160 (.pointer (some ⟨be, 0, none⟩)))]) rfl rfl (by kernel_rfl) ?_)
    refine SeqOps.put 19 rfl rfl rfl (O.box (v := (.agg (List.toArray ([(strOf [119, 105, 116, 104, 105, 110]), (.iface 160 (.pointer (some ⟨be, 0, none⟩)))])))) rfl rfl ?_)
    intro b7 w8 hb7 hb7l hEw8 hkb7
    obtain ⟨h8, hN8, e8⟩ := hp7.wrong hEw8 hb7 hkb7
    refine SeqOps.put 20 rfl rfl rfl (O.makeIface (v := (.pointer (some ⟨b7, 0, none⟩))) rfl rfl Tryz.underlying160 rfl ?_)
    refine SeqOps.put 21 rfl rfl rfl (O.call (fid := 126) (cap := #[]) (args := [(.pointer (some ⟨bp, 0, none⟩)), (.iface 160 (.pointer (some ⟨b7, 0, none⟩)))]) rfl rfl rfl Tryz.func126 rfl rfl ?_)
    refine Calls.mono (bad_calls h8 (.wrap (Hadd_same _ _ _) (her.mono (Hle.trans (Hm.right N N5) (Hle.add _ (hp7.agrN.none hb7)))))) ?_
    rintro e w9 ⟨rfl, h9, hC9⟩
    have hlt7 := hp7.lt
    have hM9 : Hm N5 (Hadd NH b7 (Obj.cells ((.agg (List.toArray ([(strOf [119, 105, 116, 104, 105, 110]), (.iface 160 (.pointer (some ⟨be, 0, none⟩)))]))) : Value).cells 164 (0, 0))) bp = none := Hm.none hM5 (by rw [Hadd_ne _ _ (by omega)])
    have n9 := (n7.trans hN8 (fun i hi => hi.elim)).step hC9 (fun i hi => ⟨.inr hi, by subst hi; exact hM9⟩)
    rw [← e8, Hm.assoc] at h9
    have hk9 := hC9.blk (Ext.blk hEw8 hk7) hne
    have hkq9 := hC9.blk (Ext.blk hEw8 hkq) (by have := hE0.size; have := hC1.size; have := n5.st.chg.size; omega)
    refine ⟨_, rfl, ?_⟩
    refine SeqOps.nil ?_
    refine hK8 _ _ ?_
    try clear hK8 K8
    refine W.seq fun K10 hK10 => ?_
    refine W.region ?_
    refine SeqOps.put 22 rfl rfl rfl (O.loadBlk (b := bq) (off := 0) (cs := q.cells) rfl rfl hkq9 Tryz.underlying43 rfl sz43 rfl ?_)
    refine SeqOps.eff rfl rfl (O.store (b := br) (off := 0) (v := .agg (List.toArray q.cells)) (n := 37) (c' := q.cells.toArray) rfl rfl rfl hk9 sz43 rfl (by decide) (VQC.one hqok) rfl ?_)
    intro wf hCf hkf
    refine SeqOps.nil ?_
    refine hK10 _ _ ?_
    try clear hK10 K10
    refine W.ret ?_
    have hrM := n9.st.agr
    have hMr : Hm N5 (Hadd NH b7 (Obj.cells ((.agg (List.toArray ([(strOf [119, 105, 116, 104, 105, 110]), (.iface 160 (.pointer (some ⟨be, 0, none⟩)))]))) : Value).cells 164 (0, 0))) br = none := Hm.none (by rw [n5.st.low br (Nat.lt_of_lt_of_le hbr1 hC1.size)]) (by have h1 := hC1.size; have h2 := n5.st.chg.size; have h3 := hE7.size; rw [Hadd_ne _ _ (by omega)])
    have nf := n9.step hCf (fun i hi => ⟨.inl (by omega), by subst hi; exact hMr⟩)
    have hpf := h9.chg hCf (fun i hi => by subst hi; exact ⟨hne, h0L hbr, Hm.none (h0N hbr) hMr⟩)
    refine retQ_cell (b := br) (cs := q.cells) rfl rfl hkf Tryz.underlying43 rfl sz43 ⟨_, _, rfl, nf, hM9, ?_, q, rfl, hqok, fun z hz => ?_⟩
    · try rw [hd]
      simpa using hpf
    · try rw [hd] at hz
      cases hz

def wfCommit (v : Value) : Prop := ∃ q : VCommit, v = .agg (List.toArray q.cells) ∧ q.ok
def phCommit (N : Heap) (v : Value) (y : DCommit) : Prop := ∃ q : VCommit, v = .agg (List.toArray q.cells) ∧ RCommit N q y
set_option maxHeartbeats 1000000 in
theorem read_Commit_calls {a : Addr} {H : Heap} {w : World} {v : Value} {bs : List UInt8} (hA : Agr H w) (hG : hcell H ⟨1, 0, none⟩ = some (eS a)) (r : RB H v bs) (hlen : bs.length ≤ 1099511627776) :
    Calls Tryz.prog 77 #[v] w (RetRd a dCommit wfCommit phCommit w bs) := by
  refine calls_of_W (n := 18) Tryz.func77 rfl Tryz.ntmps77 (Nat.le_of_ble_eq_true rfl) ?_
  refine W.seq fun K1 hK1 => ?_
  refine W.region ?_
  refine SeqOps.put 2 rfl rfl rfl (O.alloc rfl zr45 ?_)
  intro br w0 hbr hbr1 hE0 hk0
  refine SeqOps.put 3 rfl rfl rfl (O.assign (v := .nilIface) rfl rfl ?_)
  refine SeqOps.nil ?_
  refine hK1 _ _ ?_
  try clear hK1 K1
  refine W.seq fun K2 hK2 => ?_
  refine W.region ?_
  refine SeqOps.put 6 rfl rfl rfl (O.move (v := v) rfl rfl ?_)
  refine SeqOps.put 7 rfl rfl rfl (O.call (fid := 87) (cap := #[]) (args := [v, (.int .i64 (2)), (strOf [97, 32, 99, 111, 109, 109, 105, 116])]) rfl rfl rfl Tryz.func87 rfl rfl ?_)
  refine Calls.mono (split_calls (a := a) (n := 2) (Ext.agr hE0 hA) hG r hlen (by omega)) ?_
  rintro e w1 ⟨N0, bp, rem, okS, rfl, n0, hbp, hps, hrl, hok1, hok2, hrle⟩
  obtain ⟨b0, b1, rfl⟩ : ∃ b0 b1, rem = [b0, b1] := by match rem, hrl with | [b0, b1], _ => exact ⟨b0, b1, rfl⟩
  have hbrp : br ≠ bp := by omega
  have hkr := Ext.blk n0.st.chg hk0
  have nn0 := ((New.start w NoX).new hE0).trans n0 (fun i hi => hi.elim)
  rw [Hm.nilL] at nn0
  have hr0 : N0 br = none := by rw [n0.st.low br hbr1]
  refine ⟨_, rfl, ?_⟩
  refine SeqOps.put 4 rfl rfl rfl (O.assign (v := (.pointer (some ⟨bp, 0, none⟩))) rfl rfl ?_)
  refine SeqOps.nil ?_
  refine hK2 _ _ ?_
  try clear hK2 K2
  refine W.seq fun K3 hK3 => ?_
  refine W.region ?_
  refine SeqOps.put 8 rfl rfl rfl (O.move (v := (.pointer (some ⟨bp, 0, none⟩))) rfl rfl ?_)
  refine SeqOps.put 9 rfl rfl rfl (O.call (fid := 115) (cap := #[]) (args := [(.pointer (some ⟨bp, 0, none⟩)), (.func (.func 64) #[] #[])]) rfl rfl rfl Tryz.func115 rfl rfl ?_)
  refine Calls.mono (all_Header_calls hps (by have := hrle b0 (by simp); omega)) ?_
  rintro e wm1 ⟨M1, v0_, rfl, nm1, hM1, hp1, ⟨⟨ao0, n0, cap0, rfl⟩, hy0⟩⟩
  have nn1 := nn0.trans nm1 (fun i hi => ⟨.inl (by subst hi; have := hE0.size; omega), by subst hi; exact hps.outN⟩)
  have hkr1 := nm1.st.chg.blk hkr hbrp
  have hr1 : Hm N0 M1 br = none := Hm.none hr0 (by rw [nm1.st.low br (blk_lt hkr)])
  have hle1 : Hle N0 (Hm N0 M1) := nn0.le1 nm1
  refine ⟨_, rfl, ?_⟩
  refine SeqOps.put 10 rfl rfl rfl (O.move (v := (.pointer (some ⟨bp, 0, none⟩))) rfl rfl ?_)
  refine SeqOps.put 11 rfl rfl rfl (O.call (fid := 116) (cap := #[]) (args := [(.pointer (some ⟨bp, 0, none⟩)), (.func (.func 71) #[] #[])]) rfl rfl rfl Tryz.func116 rfl rfl ?_)
  refine Calls.mono (one_QC_calls hp1 (by have := hrle b1 (by simp); omega)) ?_
  rintro e wm2 ⟨M2, v1_, rfl, nm2, hM2, hp2, ⟨f1, rfl, hfok1, hy1⟩⟩
  have nn2 := nn1.trans nm2 (fun i hi => ⟨.inl (by subst hi; have := hE0.size; omega), by subst hi; exact hp1.outN⟩)
  have hkr2 := nm2.st.chg.blk hkr1 hbrp
  have hr2 : Hm (Hm N0 M1) M2 br = none := Hm.none hr1 (by rw [nm2.st.low br (blk_lt hkr1)])
  have hle2 : Hle (Hm N0 M1) (Hm (Hm N0 M1) M2) := nn1.le1 nm2
  refine ⟨_, rfl, ?_⟩
  obtain ⟨q, hq⟩ : ∃ q : VCommit, q = ⟨(.slice ao0 n0 cap0), f1⟩ := ⟨_, rfl⟩
  refine SeqOps.put 12 rfl rfl rfl (O.build (vps := [(0, (.slice ao0 n0 cap0)), (1, (.agg (List.toArray (f1.cells))))]) (cells := (VCommit.cells ⟨(.slice ao0 n0 cap0), f1⟩)) rfl rfl (by kernel_rfl) ?_)
  rw [← hq]
  have hqok : q.ok := by rw [hq]; exact ⟨rfl, hfok1⟩
  refine SeqOps.put 5 rfl rfl rfl (O.alloc rfl zr45 ?_)
  intro bq wa hbq hbq1 hEa hkq0
  refine SeqOps.eff rfl rfl (O.store (b := bq) (off := 0) (v := .agg (List.toArray q.cells)) (n := 38) (c' := q.cells.toArray) rfl rfl rfl hkq0 sz45 rfl (by decide) (VCommit.one hqok) rfl ?_)
  intro wq hCq hkq
  have hEq : Ext wm2 wq := hEa.trans_new hCq fun i hi => .inl (by omega)
  have hpq := hp2.ext hEq
  have hkrq := Ext.blk hEq hkr2
  have hqr : bq ≠ br := by have := blk_lt hkr2; omega
  have hpr : bp ≠ br := Ne.symm hbrp
  obtain ⟨lv, ev, hkp, hevf, hev⟩ := hpq.final
  skip
  refine SeqOps.nil ?_
  refine hK3 _ _ ?_
  try clear hK3 K3
  refine W.seq fun K4 hK4 => ?_
  obtain ⟨obj, hobj⟩ : ∃ o, o = Obj.cells q.cells.toArray 45 (0, 0) := ⟨_, rfl⟩
  refine W.region_any (by kernel_rfl) (by kernel_rfl) [13, 14, 15, 16, 17, 3] rfl (fun a b => RStoreC br (.cells q.cells.toArray 45 (0, 0)) 38 45 a b) (fun _ => RStoreC.refl _ _ _ _ _) (fun h k => RStoreC.trans h k) [
      (fun (u : Value) (_ : World) => u = .agg (List.toArray q.cells)),
      (fun (u : Value) (_ : World) => u = Value.pointer (some ⟨bp, 0, none⟩)),
      (fun (u : Value) (_ : World) => u = Value.pointer (some ⟨bp, 0, none⟩)),
      (fun (u : Value) (_ : World) => u = Value.pointer (some ⟨bp, 1, none⟩)),
      (fun (u : Value) (_ : World) => u = ev),
      (fun (_ : Value) (w : World) => w.heap[br]? = some (.cells q.cells.toArray 45 (0, 0))),
      (fun (u : Value) (_ : World) => u = ev)
    ] ⟨fun _ _ _ _ h => h, fun _ _ _ _ h => h, fun _ _ _ _ h => h, fun _ _ _ _ h => h, fun _ _ _ _ h => h, fun _ _ _ hE h => hE.2.1 h, fun _ _ _ _ h => h, trivial⟩ ⟨?_, ?_, ?_, ?_, ?_, ?_, ?_, trivial⟩ ?_
  · intro g w1 hR hf hd
    have h1 : g 5 = .pointer (some ⟨bq, 0, none⟩) := hf 5 (by decide)
    have hb1 := Chg.blk hR.1 (show wq.drew.heap[bq]? = _ from hkq) hqr
    exact StepT.plain rfl (O.loadBlk (b := bq) (off := 0) (cs := q.cells) rfl h1 hb1 Tryz.underlying45 rfl sz45 rfl ⟨RStoreC.refl _ _ _ _ _, rfl⟩)
  · intro g w1 hR hf hd
    have h1 : g 4 = Value.pointer (some ⟨bp, 0, none⟩) := hf 4 (by decide)
    exact StepT.plain rfl (O.move (v := Value.pointer (some ⟨bp, 0, none⟩)) rfl h1 ⟨RStoreC.refl _ _ _ _ _, rfl⟩)
  · intro g w1 hR hf hd
    have h1 : (fun (u : Value) (_ : World) => u = Value.pointer (some ⟨bp, 0, none⟩)) (g 14) w1 := hd.1 rfl
    exact StepT.plain rfl (O.nilCheckPtr (a := ⟨bp, 0, none⟩) rfl h1 ⟨RStoreC.refl _ _ _ _ _, rfl⟩)
  · intro g w1 hR hf hd
    have h1 : (fun (u : Value) (_ : World) => u = Value.pointer (some ⟨bp, 0, none⟩)) (g 15) w1 := hd.1 rfl
    exact StepT.plain rfl (O.fieldAddr (a := ⟨bp, 0, none⟩) (v := Value.pointer (some ⟨bp, 1, none⟩)) rfl h1 Tryz.underlying177 rfl (by kernel_rfl) rfl ⟨RStoreC.refl _ _ _ _ _, rfl⟩)
  · intro g w1 hR hf hd
    have h1 : (fun (u : Value) (_ : World) => u = Value.pointer (some ⟨bp, 1, none⟩)) (g 16) w1 := hd.1 rfl
    have hb1 := Chg.blk hR.1 (show wq.drew.heap[bp]? = _ from hkp) hpr
    exact StepT.plain rfl (O.loadBlk1 (b := bp) (off := 1) (v := ev) rfl h1 hb1 Tryz.underlying162 rfl rfl ⟨RStoreC.refl _ _ _ _ _, rfl⟩)
  · intro g w1 hR hf hd
    have h1 : g 2 = .pointer (some ⟨br, 0, none⟩) := hf 2 (by decide)
    have h2 : g 13 = .agg (List.toArray q.cells) := hd.1 rfl
    obtain ⟨cr, hcr, hk⟩ := hR.2.2 ⟨_, rfl, show wq.drew.heap[br]? = _ from hkrq⟩
    refine StepT.plain rfl (O.store (b := br) (off := 0) (v := .agg (List.toArray q.cells)) (n := 38) (c' := q.cells.toArray) rfl h1 h2 hk sz45 rfl (by rw [Nat.zero_add, hcr]; exact Nat.le_refl _) (VCommit.one hqok) (by simp [Value.cells, VCommit.length, hcr]) ?_)
    intro w2 hC hk2
    exact ⟨⟨hC, fun _ => hk2, fun _ => ⟨_, VCommit.length q, hk2⟩⟩, hk2⟩
  · intro g w1 hR hf hd
    have h1 : g 17 = ev := hd.1 rfl
    exact StepT.plain rfl (O.assign (v := ev) rfl h1 ⟨RStoreC.refl _ _ _ _ _, rfl⟩)
  intro g w9 hR hf hall
  have hf5 := hall.2.2.2.2.2.1
  have hf6 := hall.2.2.2.2.2.2.1
  refine hK4 _ _ ?_
  try clear hK4 K4
  refine W.ret ?_
  have n9 := ((nn2.new hEq).new (Ext.drew wq)).step hR.1 (fun i hi => ⟨.inl (by omega), by subst hi; exact hr2⟩)
  refine retQ_cell2 (b := br) (cs := q.cells) rfl (hf 2 (by decide)) hf6 hf5 Tryz.underlying45 rfl sz45 ⟨_, _, _, rfl, n9, ⟨q, rfl, hqok⟩, ?_⟩
  rcases hev with ⟨hok, rfl⟩ | ⟨hok, he⟩
  · simp only [Bool.and_eq_true] at hok
    obtain ⟨⟨hok0, hs0⟩, hs1⟩ := hok
    obtain ⟨y0, hd0⟩ := Option.isSome_iff_exists.1 hs0
    obtain ⟨y1, hd1⟩ := Option.isSome_iff_exists.1 hs1
    refine .inl ⟨⟨y0, y1⟩, ?_, rfl, q, rfl, ?_⟩
    · unfold dCommit; rw [hok1 hok0]; exact dCommitL_some hd0 hd1
    · rw [hq]; exact ⟨RL.mono (R := cHeader) cHeader.mono (hy0 _ hd0) ((Hm.right _ M1).trans hle2), (hy1 _ hd1).mono (Hm.right _ M2)⟩
  · refine .inr ⟨?_, he⟩
    cases hokS : okS with
    | false =>
      unfold dCommit
      cases hs : split bs with
      | none => rfl
      | some l => exact dCommitL_len (hok2 hokS l hs)
    | true =>
      unfold dCommit
      rw [hok1 hokS]
      have hiss := dCommitL_isSome b0 b1
      rw [hokS] at hok; simp only [Bool.true_and] at hok hiss
      rw [hok] at hiss
      simpa using hiss

theorem all_Commit_calls {a : Addr} {HL N : Heap} {w : World} {bp : Nat} {b : List UInt8} {rem : List (List UInt8)} {ok : Bool} (h : PS a HL N w bp (b :: rem) ok) (hlen : b.length ≤ 1099511627776) :
    Calls Tryz.prog 94 #[.pointer (some ⟨bp, 0, none⟩), .func (.func 77) #[] #[]] w (RetP a HL N w bp rem (ok && (dList dCommit b).isSome) (fun M v => (∃ ao n cap, v = .slice ao n cap) ∧ ∀ ys, dList dCommit b = some ys → RL 38 cCommit M v ys)) := by
  have hlt0 := h.lt
  have h0L : ∀ {k}, w.heap.size ≤ k → HL k = none := fun hk => h.agrL.none hk
  have h0N : ∀ {k}, w.heap.size ≤ k → N k = none := fun hk => h.agrN.none hk
  cases hsp : split b with
  | none =>
    refine calls_of_W (n := 52) Tryz.func94 rfl Tryz.ntmps94 (Nat.le_of_ble_eq_true rfl) ?_
    refine W.seq fun K1 hK1 => ?_
    refine W.region ?_
    refine SeqOps.put 4 rfl rfl rfl (O.assign (v := (.slice none 0 0)) rfl rfl ?_)
    refine SeqOps.nil ?_
    refine hK1 _ _ ?_
    try clear hK1 K1
    refine W.seq fun K2 hK2 => ?_
    refine W.region ?_
    refine SeqOps.put 13 rfl rfl rfl (O.move (v := (.pointer (some ⟨bp, 0, none⟩))) rfl rfl ?_)
    refine SeqOps.put 14 rfl rfl rfl (O.call (fid := 125) (cap := #[]) (args := [(.pointer (some ⟨bp, 0, none⟩))]) rfl rfl rfl Tryz.func125 rfl rfl ?_)
    refine Calls.mono (next_calls h) ?_
    rintro e w1 ⟨v1, rfl, hr, h1, hC1⟩
    refine ⟨_, rfl, ?_⟩
    refine SeqOps.put 15 rfl rfl rfl (O.call (fid := 123) (cap := #[]) (args := [v1]) rfl rfl rfl Tryz.func123 rfl rfl ?_)
    refine Calls.mono (Split_calls h1.agrL hr hlen) ?_
    rintro e w2 ⟨M, v2, st, hres⟩
    obtain ⟨rfl, rfl⟩ : v2 = .slice none 0 0 ∧ e = .returned (.tuple #[v2, .bool false]) := by rcases hres with ⟨l, h1, _⟩ | ⟨_, h2, h3⟩ <;> first | exact ⟨h2, h3⟩ | (rw [hsp] at h1; cases h1; done)
    have n2 := (New.ofChg hC1).trans st (fun i hi => hi.elim)
    rw [Hm.nilL] at n2
    have hM : M bp = none := by rw [st.st.low bp h1.lt]
    replace h1 := h1.new st
    refine ⟨_, rfl, ?_⟩
    refine SeqOps.put 12 rfl rfl rfl (O.move (v := (.tuple #[(.slice none 0 0), (.bool (false))])) rfl rfl ?_)
    refine SeqOps.put 16 rfl rfl rfl (O.extract (v := (.slice none 0 0)) rfl rfl rfl ?_)
    refine SeqOps.put 17 rfl rfl rfl (O.extract (v := (.bool (false))) rfl rfl rfl ?_)
    refine SeqOps.put 5 rfl rfl rfl (O.assign (v := (.slice none 0 0)) rfl rfl ?_)
    refine SeqOps.put 6 rfl rfl rfl (O.assign (v := (.bool (false))) rfl rfl ?_)
    refine SeqOps.nil ?_
    refine hK2 _ _ ?_
    try clear hK2 K2
    refine W.seq fun K3 hK3 => ?_
    refine W.seq fun K4 hK4 => ?_
    refine W.region ?_
    refine SeqOps.put 18 rfl rfl rfl (O.move (v := (.bool (false))) rfl rfl ?_)
    refine SeqOps.put 19 rfl rfl rfl (O.not (b := false) rfl rfl ?_)
    refine SeqOps.nil ?_
    refine hK4 _ _ ?_
    try clear hK4 K4
    refine W.cond_true rfl ?_
    refine W.region ?_
    refine SeqOps.put 20 rfl rfl rfl (O.move (v := (.pointer (some ⟨bp, 0, none⟩))) rfl rfl ?_)
    refine SeqOps.put 21 rfl rfl rfl (O.loadOne (a := ⟨1, 0, none⟩) (v := eS a) rfl rfl Tryz.underlying162 rfl (h1.agrL.cell h1.glob) ?_)
    refine SeqOps.put 22 rfl rfl rfl (O.build (vps := [(0, (strOf [97, 32, 108, 105, 115, 116])), (1, (eS a))]) (cells := [(strOf [97, 32, 108, 105, 115, 116]), (eS a)]) rfl rfl (by kernel_rfl) ?_)
    refine SeqOps.put 23 rfl rfl rfl (O.box (v := (.agg (List.toArray ([(strOf [97, 32, 108, 105, 115, 116]), (eS a)])))) rfl rfl ?_)
    intro b3 w3 hb3 hb3l hEw3 hkb3
    obtain ⟨h3, hN3, e3⟩ := h1.wrong hEw3 hb3 hkb3
    refine SeqOps.put 24 rfl rfl rfl (O.makeIface (v := (.pointer (some ⟨b3, 0, none⟩))) rfl rfl Tryz.underlying160 rfl ?_)
    refine SeqOps.put 25 rfl rfl rfl (O.call (fid := 126) (cap := #[]) (args := [(.pointer (some ⟨bp, 0, none⟩)), (.iface 160 (.pointer (some ⟨b3, 0, none⟩)))]) rfl rfl rfl Tryz.func126 rfl rfl ?_)
    refine Calls.mono (bad_calls h3 (.base (Hadd_same _ _ _))) ?_
    rintro e w4 ⟨rfl, h4, hC4⟩
    refine ⟨_, rfl, ?_⟩
    refine SeqOps.nil ?_
    refine hK3 _ _ ?_
    try clear hK3 K3
    refine W.seq fun K5 hK5 => ?_
    refine W.region ?_
    refine SeqOps.put 7 rfl rfl rfl (O.assign (v := (.slice none 0 0)) rfl rfl ?_)
    refine SeqOps.nil ?_
    refine hK5 _ _ ?_
    try clear hK5 K5
    refine W.seq fun K6 hK6 => ?_
    refine W.seq fun K7 hK7 => ?_
    refine W.region ?_
    refine SeqOps.put 26 rfl rfl rfl (O.move (v := (.slice none 0 0)) rfl rfl ?_)
    refine SeqOps.put 27 rfl rfl rfl (O.lenSlice (ad := none) (n := 0) (c := 0) rfl rfl Tryz.underlying133 ?_)
    refine SeqOps.put 28 rfl rfl rfl (O.move (v := (.int .i64 (0))) rfl rfl ?_)
    refine SeqOps.nil ?_
    refine hK7 _ _ ?_
    try clear hK7 K7
    refine W.block ?_
    refine W.loop [7, 26, 27, 28] (fun vals wk => vals = [.slice none 0 0, .slice none 0 0, .int .i64 0, .int .i64 0] ∧ w4 = wk) (fun _ _ => 0) ⟨rfl, rfl⟩ ?_
    rintro g _ wk ⟨rfl, rfl⟩
    refine W.seq fun K8 hK8 => ?_
    refine W.region ?_
    refine SeqOps.put 29 rfl rfl rfl (O.cmp (a := 0) (b := 0) (r := false) rfl rfl rfl (rfl) ?_)
    refine SeqOps.nil ?_
    refine hK8 _ _ ?_
    try clear hK8 K8
    refine W.seq fun K9 hK9 => ?_
    refine W.cond_false rfl ?_
    refine W.exit ?_
    refine hK6 _ _ ?_
    try clear hK6 K6
    refine W.seq fun K10 hK10 => ?_
    refine W.region ?_
    refine SeqOps.put 51 rfl rfl rfl (O.move (v := (.slice none 0 0)) rfl rfl ?_)
    refine SeqOps.put 4 rfl rfl rfl (O.assign (v := (.slice none 0 0)) rfl rfl ?_)
    refine SeqOps.nil ?_
    refine hK10 _ _ ?_
    try clear hK10 K10
    refine W.ret ?_
    have hlt1 := h1.lt
    have n4 := (n2.trans hN3 (fun i hi => hi.elim)).step hC4 (fun i hi => ⟨.inr hi, by subst hi; exact Hm.none hM (by rw [Hadd_ne _ _ (by omega)])⟩)
    refine retQ_one rfl rfl ⟨_, _, rfl, n4, Hm.none hM (by rw [Hadd_ne _ _ (by omega)]), ?_, ⟨_, _, _, rfl⟩, fun ys hy => ?_⟩
    · have e : (ok && (dList dCommit b).isSome) = false := by unfold dList; rw [hsp]; simp
      rw [e, ← Hm.assoc, e3]; exact h4
    · unfold dList at hy; rw [hsp] at hy; cases hy
  | some l =>
    have hll : 8 * l.length ≤ b.length := by have h1 := joinTail_ge l; have h2 := join_length l; rw [split_join hsp] at h2; omega
    have hpl := split_parts_le hsp
    refine calls_of_W (n := 52) Tryz.func94 rfl Tryz.ntmps94 (Nat.le_of_ble_eq_true rfl) ?_
    refine W.seq fun K11 hK11 => ?_
    refine W.region ?_
    refine SeqOps.put 4 rfl rfl rfl (O.assign (v := (.slice none 0 0)) rfl rfl ?_)
    refine SeqOps.nil ?_
    refine hK11 _ _ ?_
    try clear hK11 K11
    refine W.seq fun K12 hK12 => ?_
    refine W.region ?_
    refine SeqOps.put 13 rfl rfl rfl (O.move (v := (.pointer (some ⟨bp, 0, none⟩))) rfl rfl ?_)
    refine SeqOps.put 14 rfl rfl rfl (O.call (fid := 125) (cap := #[]) (args := [(.pointer (some ⟨bp, 0, none⟩))]) rfl rfl rfl Tryz.func125 rfl rfl ?_)
    refine Calls.mono (next_calls h) ?_
    rintro e w1 ⟨v1, rfl, hr, h1, hC1⟩
    refine ⟨_, rfl, ?_⟩
    refine SeqOps.put 15 rfl rfl rfl (O.call (fid := 123) (cap := #[]) (args := [v1]) rfl rfl rfl Tryz.func123 rfl rfl ?_)
    refine Calls.mono (Split_calls h1.agrL hr hlen) ?_
    rintro e w2 ⟨M, v2, st, hres⟩
    obtain ⟨rfl, hl⟩ : e = .returned (.tuple #[v2, .bool true]) ∧ RBB M v2 l := by rcases hres with ⟨l', h1, h2, h3⟩ | ⟨h1, _⟩ <;> first | (rw [hsp] at h1; cases h1; exact ⟨h2, h3⟩) | (rw [hsp] at h1; cases h1; done)
    obtain ⟨ao, cap, rfl⟩ : ∃ ao cap, v2 = .slice ao l.length cap := by obtain ⟨vs, _, rs⟩ := hl; exact rs.form
    have n2 := (New.ofChg hC1).trans st (fun i hi => hi.elim)
    rw [Hm.nilL] at n2
    have hM : M bp = none := by rw [st.st.low bp h1.lt]
    replace h1 := h1.new st
    refine ⟨_, rfl, ?_⟩
    refine SeqOps.put 12 rfl rfl rfl (O.move (v := (.tuple #[(.slice ao l.length cap), (.bool (true))])) rfl rfl ?_)
    refine SeqOps.put 16 rfl rfl rfl (O.extract (v := (.slice ao l.length cap)) rfl rfl rfl ?_)
    refine SeqOps.put 17 rfl rfl rfl (O.extract (v := (.bool (true))) rfl rfl rfl ?_)
    refine SeqOps.put 5 rfl rfl rfl (O.assign (v := (.slice ao l.length cap)) rfl rfl ?_)
    refine SeqOps.put 6 rfl rfl rfl (O.assign (v := (.bool (true))) rfl rfl ?_)
    refine SeqOps.nil ?_
    refine hK12 _ _ ?_
    try clear hK12 K12
    refine W.seq fun K13 hK13 => ?_
    refine W.seq fun K14 hK14 => ?_
    refine W.region ?_
    refine SeqOps.put 18 rfl rfl rfl (O.move (v := (.bool (true))) rfl rfl ?_)
    refine SeqOps.put 19 rfl rfl rfl (O.not (b := true) rfl rfl ?_)
    refine SeqOps.nil ?_
    refine hK14 _ _ ?_
    try clear hK14 K14
    refine W.cond_false rfl ?_
    refine W.skip ?_
    refine hK13 _ _ ?_
    try clear hK13 K13
    refine W.seq fun K15 hK15 => ?_
    refine W.region ?_
    refine SeqOps.put 7 rfl rfl rfl (O.assign (v := (.slice none 0 0)) rfl rfl ?_)
    refine SeqOps.nil ?_
    refine hK15 _ _ ?_
    try clear hK15 K15
    refine W.seq fun K16 hK16 => ?_
    refine W.seq fun K17 hK17 => ?_
    refine W.region ?_
    refine SeqOps.put 26 rfl rfl rfl (O.move (v := (.slice ao l.length cap)) rfl rfl ?_)
    refine SeqOps.put 27 rfl rfl rfl (O.lenSlice (ad := ao) (n := l.length) (c := cap) rfl rfl Tryz.underlying133 ?_)
    refine SeqOps.put 28 rfl rfl rfl (O.move (v := (.int .i64 (0))) rfl rfl ?_)
    refine SeqOps.nil ?_
    refine hK17 _ _ ?_
    try clear hK17 K17
    refine W.block ?_
    refine W.loop [0, 1, 7, 26, 27, 28] (fun vals wk => ∃ M okk out css, ∃ k : Nat, vals = [.pointer (some ⟨bp, 0, none⟩), .func (.func 77) #[] #[], out, .slice ao l.length cap, .int .i64 (l.length : Int), .int .i64 (k : Int)] ∧ k ≤ l.length ∧ New w (· = bp) M wk ∧ M bp = none ∧ PS a HL (Hm N M) wk bp rem okk ∧ RBB M (.slice ao l.length cap) l ∧ Own M wk w.heap.size 45 38 out k (List.flatten css) ∧ (∀ cs ∈ css, cs.length = 38) ∧ okk = (ok && (mapO dCommit (l.take k)).isSome) ∧ (∀ ys, mapO dCommit (l.take k) = some ys → All2 (cCommit M) css ys)) (fun vals _ => l.length - (intOf (vals.getD 5 undef)).toNat) ⟨M, ok, _, [], 0, rfl, Nat.zero_le _, n2, hM, h1, hl, Own.nil _ _ _ _ _, by simp, by simp [mapO], fun ys hy => by simp [mapO] at hy; subst hy; exact .nil⟩ ?_
    clear hres n2 hM h1 hl st hC1 hr M
    rintro g _ wk ⟨M, okk, out, css, k, rfl, hk, nk, hM, hp, hl, own, hcs, hokk, hall⟩
    rcases Nat.lt_or_ge k l.length with hlt | hge2
    · have htk : l.take (k + 1) = l.take k ++ [l[k]] := List.take_succ_eq_append_getElem hlt
      have hpk := hpl l[k] (by simp)
      have hl' := hl
      obtain ⟨vs, h2, rs⟩ := hl'
      obtain ⟨hvl, hel⟩ := h2.get hlt
      obtain ⟨ad, rfl, hcel⟩ := rs.elem (i := k) (u := vs[k]) (by simp)
      obtain ⟨ao2, cap2, hv2⟩ := RS.form hel
      rw [hv2] at hcel hel
      have hLM : Agr (Hm HL M) wk := Hm.agr hp.agrL nk.st.agr
      have hGM : hcell (Hm HL M) ⟨1, 0, none⟩ = some (eS a) := (Hm.left h.agrL nk).cell h.glob
      cases hd : dCommit l[k] with
      | some y =>
        refine W.seq fun K18 hK18 => ?_
        refine W.region ?_
        refine SeqOps.put 29 rfl rfl rfl (O.cmp (a := (k : Int)) (b := (l.length : Int)) (r := true) rfl rfl rfl (by simp [cmpI]; omega) ?_)
        refine SeqOps.nil ?_
        refine hK18 _ _ ?_
        try clear hK18 K18
        refine W.seq fun K19 hK19 => ?_
        refine W.cond_true rfl ?_
        refine W.skip ?_
        refine hK19 _ _ ?_
        try clear hK19 K19
        refine W.seq fun K20 hK20 => ?_
        refine W.block ?_
        refine W.seq fun K21 hK21 => ?_
        refine W.region ?_
        refine SeqOps.put 30 rfl rfl rfl (O.indexAddr (a := ad) (len := l.length) (cap := cap) (i := (k : Int)) (sz := 1) (v := .pointer (some (ad.add k))) rfl rfl rfl Tryz.underlying133 sz22 (by omega) (by omega) (by simp) ?_)
        refine SeqOps.put 31 rfl rfl rfl (O.loadOne (a := ad.add k) (v := .slice ao2 l[k].length cap2) rfl rfl Tryz.underlying22 rfl (nk.st.agr.cell hcel) ?_)
        refine SeqOps.put 9 rfl rfl rfl (O.assign (v := (.slice ao2 l[k].length cap2)) rfl rfl ?_)
        refine SeqOps.nil ?_
        refine hK21 _ _ ?_
        try clear hK21 K21
        refine W.seq fun K22 hK22 => ?_
        refine W.region ?_
        refine SeqOps.put 33 rfl rfl rfl (O.move (v := (.func (.func 77) #[] #[])) rfl rfl ?_)
        refine SeqOps.put 34 rfl rfl rfl (O.move (v := (.slice ao2 l[k].length cap2)) rfl rfl ?_)
        refine SeqOps.put 35 rfl rfl rfl (O.call (fid := 77) (cap := #[]) (args := [(.slice ao2 l[k].length cap2)]) rfl rfl rfl Tryz.func77 rfl rfl ?_)
        refine Calls.mono (read_Commit_calls (a := a) hLM hGM (hel.mono (Hm.right _ _)) (by omega)) ?_
        rintro e w5 hret
        obtain ⟨N5, v5, rfl, n5, hwf, hph⟩ := RetRd.good hd hret
        have n6 := nk.trans n5 (fun i hi => hi.elim)
        have hp6 := hp.new n5
        rw [Hm.assoc] at hp6
        have hM6 : Hm M N5 bp = none := Hm.none hM (by rw [n5.st.low bp hp.lt])
        have own6 : Own (Hm M N5) w5 w.heap.size 45 38 out k (List.flatten css) := (own.ext n5.st.chg).heap fun j hj => Hm.none (own.out j hj) (by rw [n5.st.low j (own.base hj).2])
        have hle6 : Hle M (Hm M N5) := nk.le1 n5
        obtain ⟨q, rfl, hq⟩ := hph
        refine ⟨_, rfl, ?_⟩
        refine SeqOps.put 32 rfl rfl rfl (O.move (v := (.tuple #[(.agg (List.toArray (q.cells))), .nilIface])) rfl rfl ?_)
        refine SeqOps.put 36 rfl rfl rfl (O.extract (v := (.agg (List.toArray (q.cells)))) rfl rfl rfl ?_)
        refine SeqOps.put 37 rfl rfl rfl (O.extract (v := .nilIface) rfl rfl rfl ?_)
        refine SeqOps.put 10 rfl rfl rfl (O.alloc rfl zr45 ?_)
        intro bq wa hbq hbq1 hEa hkq0
        refine SeqOps.eff rfl rfl (O.store (b := bq) (off := 0) (v := .agg (List.toArray q.cells)) (n := 38) (c' := q.cells.toArray) rfl rfl rfl hkq0 sz45 rfl (by decide) (VCommit.one hq.ok) rfl ?_)
        intro wb hCb hkq
        have hEb : Ext w5 wb := hEa.trans_new hCb fun i hi => .inl (by omega)
        have hp6' := hp6
        replace n6 := n6.new hEb; replace hp6 := hp6.ext hEb; replace own6 := own6.ext hEb
        refine SeqOps.put 11 rfl rfl rfl (O.assign (v := .nilIface) rfl rfl ?_)
        refine SeqOps.nil ?_
        refine hK22 _ _ ?_
        try clear hK22 K22
        refine W.seq fun K23 hK23 => ?_
        refine W.seq fun K24 hK24 => ?_
        refine W.region ?_
        refine SeqOps.put 38 rfl rfl rfl (O.move (v := .nilIface) rfl rfl ?_)
        refine SeqOps.put 39 rfl rfl rfl (O.ifaceNil (v := .nilIface) (r := false) rfl rfl (.inl rfl) Tryz.underlying162 (.inr ⟨rfl, rfl⟩) ?_)
        refine SeqOps.nil ?_
        refine hK24 _ _ ?_
        try clear hK24 K24
        refine W.cond_false rfl ?_
        refine W.skip ?_
        refine hK23 _ _ ?_
        try clear hK23 K23
        refine W.region ?_
        refine SeqOps.put 46 rfl rfl rfl (O.move (v := out) rfl rfl ?_)
        refine SeqOps.put 47 rfl rfl rfl (O.loadBlk (b := bq) (off := 0) (cs := q.cells) rfl rfl hkq Tryz.underlying45 rfl sz45 rfl ?_)
        refine SeqOps.put 48 rfl rfl rfl (O.buildSlice (vs := [(.agg (List.toArray (q.cells)))]) rfl rfl rfl Tryz.underlying33 inf45 (by intro u hu; simp at hu; subst hu; rfl) (by decide) ?_)
        intro b9 w9 hb9 hb91 hE9 hk9
        have hcat : catV [(.agg (List.toArray (q.cells)))] = q.cells := by simp [catV, Value.cells]
        rw [hcat] at hk9
        have own9 := own6.ext hE9
        have n9 := n6.new hE9
        refine SeqOps.put 49 rfl rfl rfl (O.append (B := w.heap.size) (v := out) (vx := .slice (some ⟨b9, 0, none⟩) 1 1) (m := 1) (xs := List.flatten css) (news := q.cells) rfl rfl rfl Tryz.underlying33 inf45 rfl own9 (Own.ofBlk (H := fun _ => none) (B := 0) (s := 38) (xs := q.cells) hk9 (Nat.zero_le _) rfl rfl (by decide) (VCommit.one hq.ok)).rsw rfl (by omega) (by omega) n9.st.chg.size n9.st.agr ?_)
        intro o10 w10 own10 hC10
        refine SeqOps.put 7 rfl rfl rfl (O.assign (v := o10) rfl rfl ?_)
        refine SeqOps.nil ?_
        refine hK20 _ _ ?_
        try clear hK20 K20
        refine W.region ?_
        refine SeqOps.put 50 rfl rfl rfl (O.arith (a := (k : Int)) (b := 1) (r := (k : Int) + 1) (c := (k : Int) + 1) rfl rfl rfl rfl (by exact wrap_i64 (by omega) (by omega)) ?_)
        refine SeqOps.put 28 rfl rfl rfl (O.move (v := (.int .i64 ((k : Int) + 1))) rfl rfl ?_)
        refine SeqOps.nil ?_
        have n10 := n9.step hC10 (fun i hi => ⟨.inl (own9.base hi).1, own9.out i hi⟩)
        have hp10 := (hp6.ext hE9).chg hC10 (fun i hi => ⟨by have := (own9.base hi).1; omega, h0L (own9.base hi).1, Hm.none (h0N (own9.base hi).1) (own9.out i hi)⟩)
        refine ⟨⟨_, _, o10, css ++ [q.cells], k + 1, rfl, by omega, n10, hM6, hp10, hl.mono hle6, by simpa using own10, ?_, ?_, fun ys hy => ?_⟩, by show l.length - ((k + 1 : Nat) : Int).toNat < l.length - ((k : Nat) : Int).toNat; omega⟩
        · intro cs hcs'; rcases List.mem_append.1 hcs' with h' | h'
          · exact hcs cs h'
          · simp at h'; subst h'; rfl
        · rw [hokk, htk, mapO_snoc, hd]; cases mapO dCommit (l.take k) <;> rfl
        · rw [htk, mapO_snoc, hd] at hy
          cases hm : mapO dCommit (l.take k) with
          | none => rw [hm] at hy; cases hy
          | some zs =>
            rw [hm] at hy; simp at hy; subst hy
            exact ((hall zs hm).imp fun _ _ hc => cCommit.mono (by first | exact hle6 | exact hle8) hc).snoc ⟨q, rfl, hq.mono (Hm.right M N5)⟩
      | none =>
        refine W.seq fun K25 hK25 => ?_
        refine W.region ?_
        refine SeqOps.put 29 rfl rfl rfl (O.cmp (a := (k : Int)) (b := (l.length : Int)) (r := true) rfl rfl rfl (by simp [cmpI]; omega) ?_)
        refine SeqOps.nil ?_
        refine hK25 _ _ ?_
        try clear hK25 K25
        refine W.seq fun K26 hK26 => ?_
        refine W.cond_true rfl ?_
        refine W.skip ?_
        refine hK26 _ _ ?_
        try clear hK26 K26
        refine W.seq fun K27 hK27 => ?_
        refine W.block ?_
        refine W.seq fun K28 hK28 => ?_
        refine W.region ?_
        refine SeqOps.put 30 rfl rfl rfl (O.indexAddr (a := ad) (len := l.length) (cap := cap) (i := (k : Int)) (sz := 1) (v := .pointer (some (ad.add k))) rfl rfl rfl Tryz.underlying133 sz22 (by omega) (by omega) (by simp) ?_)
        refine SeqOps.put 31 rfl rfl rfl (O.loadOne (a := ad.add k) (v := .slice ao2 l[k].length cap2) rfl rfl Tryz.underlying22 rfl (nk.st.agr.cell hcel) ?_)
        refine SeqOps.put 9 rfl rfl rfl (O.assign (v := (.slice ao2 l[k].length cap2)) rfl rfl ?_)
        refine SeqOps.nil ?_
        refine hK28 _ _ ?_
        try clear hK28 K28
        refine W.seq fun K29 hK29 => ?_
        refine W.region ?_
        refine SeqOps.put 33 rfl rfl rfl (O.move (v := (.func (.func 77) #[] #[])) rfl rfl ?_)
        refine SeqOps.put 34 rfl rfl rfl (O.move (v := (.slice ao2 l[k].length cap2)) rfl rfl ?_)
        refine SeqOps.put 35 rfl rfl rfl (O.call (fid := 77) (cap := #[]) (args := [(.slice ao2 l[k].length cap2)]) rfl rfl rfl Tryz.func77 rfl rfl ?_)
        refine Calls.mono (read_Commit_calls (a := a) hLM hGM (hel.mono (Hm.right _ _)) (by omega)) ?_
        rintro e w5 hret
        obtain ⟨N5, v5, be, rfl, n5, hwf, her⟩ := RetRd.bad hd hret
        have n6 := nk.trans n5 (fun i hi => hi.elim)
        have hp6 := hp.new n5
        rw [Hm.assoc] at hp6
        have hM6 : Hm M N5 bp = none := Hm.none hM (by rw [n5.st.low bp hp.lt])
        have own6 : Own (Hm M N5) w5 w.heap.size 45 38 out k (List.flatten css) := (own.ext n5.st.chg).heap fun j hj => Hm.none (own.out j hj) (by rw [n5.st.low j (own.base hj).2])
        have hle6 : Hle M (Hm M N5) := nk.le1 n5
        obtain ⟨q, rfl, hqok⟩ := hwf
        refine ⟨_, rfl, ?_⟩
        refine SeqOps.put 32 rfl rfl rfl (O.move (v := (.tuple #[(.agg (List.toArray (q.cells))), (.iface 160 (.pointer (some ⟨be, 0, none⟩)))])) rfl rfl ?_)
        refine SeqOps.put 36 rfl rfl rfl (O.extract (v := (.agg (List.toArray (q.cells)))) rfl rfl rfl ?_)
        refine SeqOps.put 37 rfl rfl rfl (O.extract (v := (.iface 160 (.pointer (some ⟨be, 0, none⟩)))) rfl rfl rfl ?_)
        refine SeqOps.put 10 rfl rfl rfl (O.alloc rfl zr45 ?_)
        intro bq wa hbq hbq1 hEa hkq0
        refine SeqOps.eff rfl rfl (O.store (b := bq) (off := 0) (v := .agg (List.toArray q.cells)) (n := 38) (c' := q.cells.toArray) rfl rfl rfl hkq0 sz45 rfl (by decide) (VCommit.one hqok) rfl ?_)
        intro wb hCb hkq
        have hEb : Ext w5 wb := hEa.trans_new hCb fun i hi => .inl (by omega)
        have hp6' := hp6
        replace n6 := n6.new hEb; replace hp6 := hp6.ext hEb; replace own6 := own6.ext hEb
        refine SeqOps.put 11 rfl rfl rfl (O.assign (v := (.iface 160 (.pointer (some ⟨be, 0, none⟩)))) rfl rfl ?_)
        refine SeqOps.nil ?_
        refine hK29 _ _ ?_
        try clear hK29 K29
        refine W.seq fun K30 hK30 => ?_
        refine W.seq fun K31 hK31 => ?_
        refine W.region ?_
        refine SeqOps.put 38 rfl rfl rfl (O.move (v := (.iface 160 (.pointer (some ⟨be, 0, none⟩)))) rfl rfl ?_)
        refine SeqOps.put 39 rfl rfl rfl (O.ifaceNil (v := (.iface 160 (.pointer (some ⟨be, 0, none⟩)))) (r := true) rfl rfl (.inr ⟨_, _, rfl⟩) Tryz.underlying162 (.inr ⟨rfl, rfl⟩) ?_)
        refine SeqOps.nil ?_
        refine hK31 _ _ ?_
        try clear hK31 K31
        refine W.cond_true rfl ?_
        refine W.region ?_
        refine SeqOps.put 40 rfl rfl rfl (O.move (v := (.pointer (some ⟨bp, 0, none⟩))) rfl rfl ?_)
        refine SeqOps.put 41 rfl rfl rfl (O.move (v := (.iface 160 (.pointer (some ⟨be, 0, none⟩)))) rfl rfl ?_)
        refine SeqOps.put 42 rfl rfl rfl (O.build (vps := [(0, (strOf [105, 110, 32, 97, 32, 108, 105, 115, 116])), (1, (.iface 160 (.pointer (some ⟨be, 0, none⟩))))]) (cells := [(strOf [105, 110, 32, 97, 32, 108, 105, 115, 116]), (.iface 160 (.pointer (some ⟨be, 0, none⟩)))]) rfl rfl (by kernel_rfl) ?_)
        refine SeqOps.put 43 rfl rfl rfl (O.box (v := (.agg (List.toArray ([(strOf [105, 110, 32, 97, 32, 108, 105, 115, 116]), (.iface 160 (.pointer (some ⟨be, 0, none⟩)))])))) rfl rfl ?_)
        intro b7 w7 hb7 hb7l hEw7 hkb7
        obtain ⟨h7, hN7, e7⟩ := hp6.wrong hEw7 hb7 hkb7
        refine SeqOps.put 44 rfl rfl rfl (O.makeIface (v := (.pointer (some ⟨b7, 0, none⟩))) rfl rfl Tryz.underlying160 rfl ?_)
        refine SeqOps.put 45 rfl rfl rfl (O.call (fid := 126) (cap := #[]) (args := [(.pointer (some ⟨bp, 0, none⟩)), (.iface 160 (.pointer (some ⟨b7, 0, none⟩)))]) rfl rfl rfl Tryz.func126 rfl rfl ?_)
        refine Calls.mono (bad_calls h7 (.wrap (Hadd_same _ _ _) (her.mono (Hle.trans (Hm.right M N5) (Hle.trans (Hm.right N _) (Hle.add _ (hp6.agrN.none hb7))))))) ?_
        rintro e w8 ⟨rfl, h8, hC8⟩
        have hlt6 := hp6.lt
        have hM7 : Hm (Hm M N5) (Hadd NH b7 (Obj.cells ((.agg (List.toArray ([(strOf [105, 110, 32, 97, 32, 108, 105, 115, 116]), (.iface 160 (.pointer (some ⟨be, 0, none⟩)))]))) : Value).cells 164 (0, 0))) bp = none := Hm.none hM6 (by rw [Hadd_ne _ _ (by omega)])
        have n8 := (n6.trans hN7 (fun i hi => hi.elim)).step hC8 (fun i hi => ⟨.inr hi, by subst hi; exact hM7⟩)
        rw [← e7, Hm.assoc] at h8
        have own8 : Own (Hm (Hm M N5) (Hadd NH b7 (Obj.cells ((.agg (List.toArray ([(strOf [105, 110, 32, 97, 32, 108, 105, 115, 116]), (.iface 160 (.pointer (some ⟨be, 0, none⟩)))]))) : Value).cells 164 (0, 0)))) w8 w.heap.size 45 38 out k (List.flatten css) := ((own6.ext hEw7).chg hC8 fun j hj e => by subst e; have := (own6.base hj).1; omega).heap fun j hj => Hm.none (own6.out j hj) (by have := (own6.base hj).2; rw [Hadd_ne _ _ (by omega)])
        have hkq8 := hC8.blk (Ext.blk hEw7 hkq) (by have := hp6'.lt; omega)
        have hle8 : Hle M (Hm (Hm M N5) (Hadd NH b7 (Obj.cells ((.agg (List.toArray ([(strOf [105, 110, 32, 97, 32, 108, 105, 115, 116]), (.iface 160 (.pointer (some ⟨be, 0, none⟩)))]))) : Value).cells 164 (0, 0)))) := hle6.trans (n6.le1 hN7)
        refine ⟨_, rfl, ?_⟩
        refine SeqOps.nil ?_
        refine hK30 _ _ ?_
        try clear hK30 K30
        refine W.region ?_
        refine SeqOps.put 46 rfl rfl rfl (O.move (v := out) rfl rfl ?_)
        refine SeqOps.put 47 rfl rfl rfl (O.loadBlk (b := bq) (off := 0) (cs := q.cells) rfl rfl hkq8 Tryz.underlying45 rfl sz45 rfl ?_)
        refine SeqOps.put 48 rfl rfl rfl (O.buildSlice (vs := [(.agg (List.toArray (q.cells)))]) rfl rfl rfl Tryz.underlying33 inf45 (by intro u hu; simp at hu; subst hu; rfl) (by decide) ?_)
        intro b9 w9 hb9 hb91 hE9 hk9
        have hcat : catV [(.agg (List.toArray (q.cells)))] = q.cells := by simp [catV, Value.cells]
        rw [hcat] at hk9
        have own9 := own8.ext hE9
        have n9 := n8.new hE9
        refine SeqOps.put 49 rfl rfl rfl (O.append (B := w.heap.size) (v := out) (vx := .slice (some ⟨b9, 0, none⟩) 1 1) (m := 1) (xs := List.flatten css) (news := q.cells) rfl rfl rfl Tryz.underlying33 inf45 rfl own9 (Own.ofBlk (H := fun _ => none) (B := 0) (s := 38) (xs := q.cells) hk9 (Nat.zero_le _) rfl rfl (by decide) (VCommit.one hqok)).rsw rfl (by omega) (by omega) n9.st.chg.size n9.st.agr ?_)
        intro o10 w10 own10 hC10
        refine SeqOps.put 7 rfl rfl rfl (O.assign (v := o10) rfl rfl ?_)
        refine SeqOps.nil ?_
        refine hK27 _ _ ?_
        try clear hK27 K27
        refine W.region ?_
        refine SeqOps.put 50 rfl rfl rfl (O.arith (a := (k : Int)) (b := 1) (r := (k : Int) + 1) (c := (k : Int) + 1) rfl rfl rfl rfl (by exact wrap_i64 (by omega) (by omega)) ?_)
        refine SeqOps.put 28 rfl rfl rfl (O.move (v := (.int .i64 ((k : Int) + 1))) rfl rfl ?_)
        refine SeqOps.nil ?_
        have n10 := n9.step hC10 (fun i hi => ⟨.inl (own9.base hi).1, own9.out i hi⟩)
        have hp10 := (h8.ext hE9).chg hC10 (fun i hi => ⟨by have := (own9.base hi).1; omega, h0L (own9.base hi).1, Hm.none (h0N (own9.base hi).1) (own9.out i hi)⟩)
        refine ⟨⟨_, _, o10, css ++ [q.cells], k + 1, rfl, by omega, n10, hM7, hp10, hl.mono hle8, by simpa using own10, ?_, ?_, fun ys hy => ?_⟩, by show l.length - ((k + 1 : Nat) : Int).toNat < l.length - ((k : Nat) : Int).toNat; omega⟩
        · intro cs hcs'; rcases List.mem_append.1 hcs' with h' | h'
          · exact hcs cs h'
          · simp at h'; subst h'; rfl
        · rw [htk, mapO_snoc, hd]; cases mapO dCommit (l.take k) <;> simp
        · rw [htk, mapO_snoc, hd] at hy; cases mapO dCommit (l.take k) <;> simp at hy
    have hkl : k = l.length := by omega
    refine W.seq fun K32 hK32 => ?_
    refine W.region ?_
    refine SeqOps.put 29 rfl rfl rfl (O.cmp (a := (k : Int)) (b := (l.length : Int)) (r := false) rfl rfl rfl (by simp [cmpI]; omega) ?_)
    refine SeqOps.nil ?_
    refine hK32 _ _ ?_
    try clear hK32 K32
    refine W.seq fun K33 hK33 => ?_
    refine W.cond_false rfl ?_
    refine W.exit ?_
    refine hK16 _ _ ?_
    try clear hK16 K16
    refine W.seq fun K34 hK34 => ?_
    refine W.region ?_
    refine SeqOps.put 51 rfl rfl rfl (O.move (v := out) rfl rfl ?_)
    refine SeqOps.put 4 rfl rfl rfl (O.assign (v := out) rfl rfl ?_)
    refine SeqOps.nil ?_
    refine hK34 _ _ ?_
    try clear hK34 K34
    refine W.ret ?_
    subst hkl
    rw [List.take_length] at hokk hall
    obtain ⟨M2, hle2, n2, hsame, rs2⟩ := own.join nk (Nat.le_refl _)
    have hM2 : M2 bp = none := by rw [hsame bp fun e => by have := (own.base e).1; omega]; exact hM
    have hdl : dList dCommit b = mapO dCommit l := by unfold dList; rw [hsp]; rfl
    obtain ⟨aof, capf, hof⟩ := rs2.form
    refine retQ_one rfl rfl ⟨M2, out, rfl, n2, hM2, ?_, ⟨_, _, _, hof⟩, fun ys hy => ?_⟩
    · rw [hdl, ← hokk]
      obtain ⟨lv, ev, hblk, hrb, hev⟩ := hp.blk
      refine h.next n2 hM2 ⟨lv, ev, hblk, hrb, hev.imp id fun ⟨e1, e2⟩ => ⟨e1, e2.mono ?_⟩⟩
      intro j o ho; unfold Hm at ho ⊢
      cases hj : M j with
      | some o' => rw [hj] at ho; rw [hle2 j o' hj]; exact ho
      | none =>
        rw [hj] at ho
        have hno := h.agrN.lt ho
        rw [show M2 j = none by rw [n2.st.low j hno]]; exact ho
    · rw [hdl] at hy
      have h2 := hall ys hy
      refine ⟨css, h2.imp fun _ _ hc => cCommit.mono hle2 hc, hcs, ?_⟩
      have hlen2 := mapO_length hy
      rw [hlen2]; exact rs2

theorem one_Commit_calls {a : Addr} {HL N : Heap} {w : World} {bp : Nat} {b : List UInt8} {rem : List (List UInt8)} {ok : Bool} (h : PS a HL N w bp (b :: rem) ok) (hlen : b.length ≤ 1099511627776) :
    Calls Tryz.prog 96 #[.pointer (some ⟨bp, 0, none⟩), .func (.func 77) #[] #[]] w (RetP a HL N w bp rem (ok && (dCommit b).isSome) (fun M v => ∃ q : VCommit, v = .agg (List.toArray q.cells) ∧ q.ok ∧ ∀ y, dCommit b = some y → RCommit M q y)) := by
  have hlt0 := h.lt
  have h0L : ∀ {k}, w.heap.size ≤ k → HL k = none := fun hk => h.agrL.none hk
  have h0N : ∀ {k}, w.heap.size ≤ k → N k = none := fun hk => h.agrN.none hk
  cases hd : dCommit b with
  | some y =>
    refine calls_of_W (n := 23) Tryz.func96 rfl Tryz.ntmps96 (Nat.le_of_ble_eq_true rfl) ?_
    refine W.seq fun K1 hK1 => ?_
    refine W.region ?_
    refine SeqOps.put 4 rfl rfl rfl (O.alloc rfl zr45 ?_)
    intro br w0 hbr hbr1 hE0 hk0
    have h0 := h.ext hE0
    refine SeqOps.nil ?_
    refine hK1 _ _ ?_
    try clear hK1 K1
    refine W.seq fun K2 hK2 => ?_
    refine W.region ?_
    refine SeqOps.put 8 rfl rfl rfl (O.move (v := (.func (.func 77) #[] #[])) rfl rfl ?_)
    refine SeqOps.put 9 rfl rfl rfl (O.move (v := (.pointer (some ⟨bp, 0, none⟩))) rfl rfl ?_)
    refine SeqOps.put 10 rfl rfl rfl (O.call (fid := 125) (cap := #[]) (args := [(.pointer (some ⟨bp, 0, none⟩))]) rfl rfl rfl Tryz.func125 rfl rfl ?_)
    refine Calls.mono (next_calls h0) ?_
    rintro e w1 ⟨v1, rfl, hr, h1, hC1⟩
    have hne : br ≠ bp := by omega
    have hk1 := hC1.blk hk0 hne
    refine ⟨_, rfl, ?_⟩
    refine SeqOps.put 11 rfl rfl rfl (O.call (fid := 77) (cap := #[]) (args := [v1]) rfl rfl rfl Tryz.func77 rfl rfl ?_)
    refine Calls.mono (read_Commit_calls (a := a) h1.agrL h1.glob hr (by omega)) ?_
    rintro e w5 hret
    obtain ⟨N5, v5, rfl, n5, hwf, hph⟩ := RetRd.good hd hret
    obtain ⟨q, rfl, hq⟩ := hph
    have hqok := hq.ok
    have hp5 := h1.new n5
    have hM5 : N5 bp = none := by rw [n5.st.low bp h1.lt]
    have hk5 := Ext.blk n5.st.chg hk1
    have n5' := (((New.start w (· = bp)).new hE0).trans (New.ofChg hC1) (fun i hi => ⟨.inr hi, rfl⟩)).trans n5 (fun i hi => hi.elim)
    rw [Hm.nilL, Hm.nilL] at n5'
    refine ⟨_, rfl, ?_⟩
    refine SeqOps.put 7 rfl rfl rfl (O.move (v := (.tuple #[(.agg (List.toArray (q.cells))), .nilIface])) rfl rfl ?_)
    refine SeqOps.put 12 rfl rfl rfl (O.extract (v := (.agg (List.toArray (q.cells)))) rfl rfl rfl ?_)
    refine SeqOps.put 13 rfl rfl rfl (O.extract (v := .nilIface) rfl rfl rfl ?_)
    refine SeqOps.put 5 rfl rfl rfl (O.alloc rfl zr45 ?_)
    intro bq w6 hbq hbq1 hE6 hkq0
    refine SeqOps.eff rfl rfl (O.store (b := bq) (off := 0) (v := .agg (List.toArray q.cells)) (n := 38) (c' := q.cells.toArray) rfl rfl rfl hkq0 sz45 rfl (by decide) (VCommit.one hqok) rfl ?_)
    intro w7 hC7 hkq
    have hE7 : Ext w5 w7 := hE6.trans_new hC7 fun i hi => .inl (by omega)
    have n7 := n5'.new hE7
    have hp7 := hp5.ext hE7
    have hk7 := Ext.blk hE7 hk5
    refine SeqOps.put 6 rfl rfl rfl (O.assign (v := .nilIface) rfl rfl ?_)
    refine SeqOps.nil ?_
    refine hK2 _ _ ?_
    try clear hK2 K2
    refine W.seq fun K3 hK3 => ?_
    refine W.seq fun K4 hK4 => ?_
    refine W.region ?_
    refine SeqOps.put 14 rfl rfl rfl (O.move (v := .nilIface) rfl rfl ?_)
    refine SeqOps.put 15 rfl rfl rfl (O.ifaceNil (v := .nilIface) (r := false) rfl rfl (.inl rfl) Tryz.underlying162 (.inr ⟨rfl, rfl⟩) ?_)
    refine SeqOps.nil ?_
    refine hK4 _ _ ?_
    try clear hK4 K4
    refine W.cond_false rfl ?_
    refine W.skip ?_
    refine hK3 _ _ ?_
    try clear hK3 K3
    refine W.seq fun K5 hK5 => ?_
    refine W.region ?_
    refine SeqOps.put 22 rfl rfl rfl (O.loadBlk (b := bq) (off := 0) (cs := q.cells) rfl rfl hkq Tryz.underlying45 rfl sz45 rfl ?_)
    refine SeqOps.eff rfl rfl (O.store (b := br) (off := 0) (v := .agg (List.toArray q.cells)) (n := 38) (c' := q.cells.toArray) rfl rfl rfl hk7 sz45 rfl (by decide) (VCommit.one hqok) rfl ?_)
    intro wf hCf hkf
    refine SeqOps.nil ?_
    refine hK5 _ _ ?_
    try clear hK5 K5
    refine W.ret ?_
    have hrM := n7.st.agr
    have hMr : N5 br = none := by rw [n5.st.low br (Nat.lt_of_lt_of_le hbr1 hC1.size)]
    have nf := n7.step hCf (fun i hi => ⟨.inl (by omega), by subst hi; exact hMr⟩)
    have hpf := hp7.chg hCf (fun i hi => by subst hi; exact ⟨hne, h0L hbr, Hm.none (h0N hbr) hMr⟩)
    refine retQ_cell (b := br) (cs := q.cells) rfl rfl hkf Tryz.underlying45 rfl sz45 ⟨N5, _, rfl, nf, hM5, ?_, q, rfl, hqok, fun z hz => ?_⟩
    · try rw [hd]
      simpa using hpf
    · try rw [hd] at hz
      cases hz; exact hq
  | none =>
    refine calls_of_W (n := 23) Tryz.func96 rfl Tryz.ntmps96 (Nat.le_of_ble_eq_true rfl) ?_
    refine W.seq fun K6 hK6 => ?_
    refine W.region ?_
    refine SeqOps.put 4 rfl rfl rfl (O.alloc rfl zr45 ?_)
    intro br w0 hbr hbr1 hE0 hk0
    have h0 := h.ext hE0
    refine SeqOps.nil ?_
    refine hK6 _ _ ?_
    try clear hK6 K6
    refine W.seq fun K7 hK7 => ?_
    refine W.region ?_
    refine SeqOps.put 8 rfl rfl rfl (O.move (v := (.func (.func 77) #[] #[])) rfl rfl ?_)
    refine SeqOps.put 9 rfl rfl rfl (O.move (v := (.pointer (some ⟨bp, 0, none⟩))) rfl rfl ?_)
    refine SeqOps.put 10 rfl rfl rfl (O.call (fid := 125) (cap := #[]) (args := [(.pointer (some ⟨bp, 0, none⟩))]) rfl rfl rfl Tryz.func125 rfl rfl ?_)
    refine Calls.mono (next_calls h0) ?_
    rintro e w1 ⟨v1, rfl, hr, h1, hC1⟩
    have hne : br ≠ bp := by omega
    have hk1 := hC1.blk hk0 hne
    refine ⟨_, rfl, ?_⟩
    refine SeqOps.put 11 rfl rfl rfl (O.call (fid := 77) (cap := #[]) (args := [v1]) rfl rfl rfl Tryz.func77 rfl rfl ?_)
    refine Calls.mono (read_Commit_calls (a := a) h1.agrL h1.glob hr (by omega)) ?_
    rintro e w5 hret
    obtain ⟨N5, v5, be, rfl, n5, hwf, her⟩ := RetRd.bad hd hret
    obtain ⟨q, rfl, hqok⟩ := hwf
    have hp5 := h1.new n5
    have hM5 : N5 bp = none := by rw [n5.st.low bp h1.lt]
    have hk5 := Ext.blk n5.st.chg hk1
    have n5' := (((New.start w (· = bp)).new hE0).trans (New.ofChg hC1) (fun i hi => ⟨.inr hi, rfl⟩)).trans n5 (fun i hi => hi.elim)
    rw [Hm.nilL, Hm.nilL] at n5'
    refine ⟨_, rfl, ?_⟩
    refine SeqOps.put 7 rfl rfl rfl (O.move (v := (.tuple #[(.agg (List.toArray (q.cells))), (.iface 160 (.pointer (some ⟨be, 0, none⟩)))])) rfl rfl ?_)
    refine SeqOps.put 12 rfl rfl rfl (O.extract (v := (.agg (List.toArray (q.cells)))) rfl rfl rfl ?_)
    refine SeqOps.put 13 rfl rfl rfl (O.extract (v := (.iface 160 (.pointer (some ⟨be, 0, none⟩)))) rfl rfl rfl ?_)
    refine SeqOps.put 5 rfl rfl rfl (O.alloc rfl zr45 ?_)
    intro bq w6 hbq hbq1 hE6 hkq0
    refine SeqOps.eff rfl rfl (O.store (b := bq) (off := 0) (v := .agg (List.toArray q.cells)) (n := 38) (c' := q.cells.toArray) rfl rfl rfl hkq0 sz45 rfl (by decide) (VCommit.one hqok) rfl ?_)
    intro w7 hC7 hkq
    have hE7 : Ext w5 w7 := hE6.trans_new hC7 fun i hi => .inl (by omega)
    have n7 := n5'.new hE7
    have hp7 := hp5.ext hE7
    have hk7 := Ext.blk hE7 hk5
    refine SeqOps.put 6 rfl rfl rfl (O.assign (v := (.iface 160 (.pointer (some ⟨be, 0, none⟩)))) rfl rfl ?_)
    refine SeqOps.nil ?_
    refine hK7 _ _ ?_
    try clear hK7 K7
    refine W.seq fun K8 hK8 => ?_
    refine W.seq fun K9 hK9 => ?_
    refine W.region ?_
    refine SeqOps.put 14 rfl rfl rfl (O.move (v := (.iface 160 (.pointer (some ⟨be, 0, none⟩)))) rfl rfl ?_)
    refine SeqOps.put 15 rfl rfl rfl (O.ifaceNil (v := (.iface 160 (.pointer (some ⟨be, 0, none⟩)))) (r := true) rfl rfl (.inr ⟨_, _, rfl⟩) Tryz.underlying162 (.inr ⟨rfl, rfl⟩) ?_)
    refine SeqOps.nil ?_
    refine hK9 _ _ ?_
    try clear hK9 K9
    refine W.cond_true rfl ?_
    refine W.region ?_
    refine SeqOps.put 16 rfl rfl rfl (O.move (v := (.pointer (some ⟨bp, 0, none⟩))) rfl rfl ?_)
    refine SeqOps.put 17 rfl rfl rfl (O.move (v := (.iface 160 (.pointer (some ⟨be, 0, none⟩)))) rfl rfl ?_)
    refine SeqOps.put 18 rfl rfl rfl (O.build (vps := [(0, (strOf [119, 105, 116, 104, 105, 110])), (1, (.iface 160 (.pointer (some ⟨be, 0, none⟩))))]) (cells := [(strOf [119, 105, 116, 104, 105, 110]), (.iface 160 (.pointer (some ⟨be, 0, none⟩)))]) rfl rfl (by kernel_rfl) ?_)
    refine SeqOps.put 19 rfl rfl rfl (O.box (v := (.agg (List.toArray ([(strOf [119, 105, 116, 104, 105, 110]), (.iface 160 (.pointer (some ⟨be, 0, none⟩)))])))) rfl rfl ?_)
    intro b7 w8 hb7 hb7l hEw8 hkb7
    obtain ⟨h8, hN8, e8⟩ := hp7.wrong hEw8 hb7 hkb7
    refine SeqOps.put 20 rfl rfl rfl (O.makeIface (v := (.pointer (some ⟨b7, 0, none⟩))) rfl rfl Tryz.underlying160 rfl ?_)
    refine SeqOps.put 21 rfl rfl rfl (O.call (fid := 126) (cap := #[]) (args := [(.pointer (some ⟨bp, 0, none⟩)), (.iface 160 (.pointer (some ⟨b7, 0, none⟩)))]) rfl rfl rfl Tryz.func126 rfl rfl ?_)
    refine Calls.mono (bad_calls h8 (.wrap (Hadd_same _ _ _) (her.mono (Hle.trans (Hm.right N N5) (Hle.add _ (hp7.agrN.none hb7)))))) ?_
    rintro e w9 ⟨rfl, h9, hC9⟩
    have hlt7 := hp7.lt
    have hM9 : Hm N5 (Hadd NH b7 (Obj.cells ((.agg (List.toArray ([(strOf [119, 105, 116, 104, 105, 110]), (.iface 160 (.pointer (some ⟨be, 0, none⟩)))]))) : Value).cells 164 (0, 0))) bp = none := Hm.none hM5 (by rw [Hadd_ne _ _ (by omega)])
    have n9 := (n7.trans hN8 (fun i hi => hi.elim)).step hC9 (fun i hi => ⟨.inr hi, by subst hi; exact hM9⟩)
    rw [← e8, Hm.assoc] at h9
    have hk9 := hC9.blk (Ext.blk hEw8 hk7) hne
    have hkq9 := hC9.blk (Ext.blk hEw8 hkq) (by have := hE0.size; have := hC1.size; have := n5.st.chg.size; omega)
    refine ⟨_, rfl, ?_⟩
    refine SeqOps.nil ?_
    refine hK8 _ _ ?_
    try clear hK8 K8
    refine W.seq fun K10 hK10 => ?_
    refine W.region ?_
    refine SeqOps.put 22 rfl rfl rfl (O.loadBlk (b := bq) (off := 0) (cs := q.cells) rfl rfl hkq9 Tryz.underlying45 rfl sz45 rfl ?_)
    refine SeqOps.eff rfl rfl (O.store (b := br) (off := 0) (v := .agg (List.toArray q.cells)) (n := 38) (c' := q.cells.toArray) rfl rfl rfl hk9 sz45 rfl (by decide) (VCommit.one hqok) rfl ?_)
    intro wf hCf hkf
    refine SeqOps.nil ?_
    refine hK10 _ _ ?_
    try clear hK10 K10
    refine W.ret ?_
    have hrM := n9.st.agr
    have hMr : Hm N5 (Hadd NH b7 (Obj.cells ((.agg (List.toArray ([(strOf [119, 105, 116, 104, 105, 110]), (.iface 160 (.pointer (some ⟨be, 0, none⟩)))]))) : Value).cells 164 (0, 0))) br = none := Hm.none (by rw [n5.st.low br (Nat.lt_of_lt_of_le hbr1 hC1.size)]) (by have h1 := hC1.size; have h2 := n5.st.chg.size; have h3 := hE7.size; rw [Hadd_ne _ _ (by omega)])
    have nf := n9.step hCf (fun i hi => ⟨.inl (by omega), by subst hi; exact hMr⟩)
    have hpf := h9.chg hCf (fun i hi => by subst hi; exact ⟨hne, h0L hbr, Hm.none (h0N hbr) hMr⟩)
    refine retQ_cell (b := br) (cs := q.cells) rfl rfl hkf Tryz.underlying45 rfl sz45 ⟨_, _, rfl, nf, hM9, ?_, q, rfl, hqok, fun z hz => ?_⟩
    · try rw [hd]
      simpa using hpf
    · try rw [hd] at hz
      cases hz


end Go.Proofs.YtddpmpbngcbokaaGreatDoor

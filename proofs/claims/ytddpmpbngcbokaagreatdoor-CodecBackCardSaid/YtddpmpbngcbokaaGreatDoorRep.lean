/- Slices as they lie in a snapshot; rows of the function's own; the operations on them. -/
import Derived.Test.YtddpmpbngcbokaaGreatDoorHeap
namespace Go.Proofs.YtddpmpbngcbokaaGreatDoor
open Go Go.RowKit

/-- 'v' is a slice of n elements whose cells, in a row, are 'cells'. -/
def RS (H : Heap) (v : Value) (n : Nat) (cells : List Value) : Prop :=
  ∃ ao cap, v = .slice ao n cap ∧ n ≤ cap ∧ cap ≤ maxLen ∧ (ao = none → cap = 0) ∧ (∀ u ∈ cells, u.oneCell' = true) ∧ ∀ j u, cells[j]? = some u → ∃ a, ao = some a ∧ hcell H (a.add j) = some u
theorem RS.mono {H H' : Heap} {v : Value} {n : Nat} {cells : List Value} (h : RS H v n cells) (hl : Hle H H') : RS H' v n cells := by
  obtain ⟨ao, cap, h1, h2, h3, h4, h5, h6⟩ := h
  exact ⟨ao, cap, h1, h2, h3, h4, h5, fun j u hu => let ⟨a, e, hc⟩ := h6 j u hu; ⟨a, e, hl.cell hc⟩⟩
theorem RS.nil (H : Heap) : RS H (.slice none 0 0) 0 [] := ⟨none, 0, rfl, Nat.le_refl _, by simp, fun _ => rfl, by simp, by simp⟩

/-- A row of the function's own, outside the snapshot. -/
structure Own (H : Heap) (w : World) (B : Nat) (E : TypeId) (s : Nat) (v : Value) (n : Nat) (xs : List Value) : Prop where
  row : w.ownsRow B E s v n xs
  out : ∀ k, v.ownBlock = some k → H k = none
  one : ∀ u ∈ xs, u.oneCell' = true

theorem Own.nil (H : Heap) (w : World) (B : Nat) (E : TypeId) (s : Nat) : Own H w B E s (.slice none 0 0) 0 [] :=
  ⟨World.ownsRow_nil w B E s, by simp [Value.ownBlock], by simp⟩
theorem Own.form {H : Heap} {w : World} {B : Nat} {E : TypeId} {s : Nat} {v : Value} {n : Nat} {xs : List Value} (h : Own H w B E s v n xs) : ∃ ao cap, v = .slice ao n cap := by
  rcases h.row.2 with ⟨hv, hn⟩ | ⟨g, cap, cur, hv, _⟩
  · exact ⟨none, 0, by rw [hv, hn]⟩
  · exact ⟨_, cap, hv⟩
theorem Own.base {H : Heap} {w : World} {B : Nat} {E : TypeId} {s : Nat} {v : Value} {n : Nat} {xs : List Value} (h : Own H w B E s v n xs) {k : Nat} (hk : v.ownBlock = some k) : B ≤ k ∧ k < w.heap.size := h.row.lt k hk
theorem Own.lower {H : Heap} {w : World} {B B' : Nat} {E : TypeId} {s : Nat} {v : Value} {n : Nat} {xs : List Value} (h : Own H w B E s v n xs) (hB : B' ≤ B) : Own H w B' E s v n xs := by
  refine ⟨⟨h.row.1, ?_⟩, h.out, h.one⟩
  rcases h.row.2 with h2 | ⟨g, cap, cur, hv, hg, r⟩
  · exact .inl h2
  · exact .inr ⟨g, cap, cur, hv, by omega, r⟩
theorem Own.heap {H H' : Heap} {w : World} {B : Nat} {E : TypeId} {s : Nat} {v : Value} {n : Nat} {xs : List Value} (h : Own H w B E s v n xs) (hH : ∀ k, v.ownBlock = some k → H' k = none) : Own H' w B E s v n xs := ⟨h.row, hH, h.one⟩
/-- What leaves the row's block alone leaves the row. -/
theorem Own.chg {H : Heap} {w w' : World} {X : Nat → Prop} {B : Nat} {E : TypeId} {s : Nat} {v : Value} {n : Nat} {xs : List Value} (h : Own H w B E s v n xs) (c : Chg X w w') (hX : ∀ k, v.ownBlock = some k → ¬ X k) : Own H w' B E s v n xs := by
  refine ⟨⟨h.row.1, ?_⟩, h.out, h.one⟩
  rcases h.row.2 with h2 | ⟨g, cap, cur, hv, hg, hh, r⟩
  · exact .inl h2
  · exact .inr ⟨g, cap, cur, hv, hg, c.blk hh (hX g (by rw [hv]; rfl)), r⟩
theorem Own.ext {H : Heap} {w w' : World} {B : Nat} {E : TypeId} {s : Nat} {v : Value} {n : Nat} {xs : List Value} (h : Own H w B E s v n xs) (c : Ext w w') : Own H w' B E s v n xs := h.chg c fun _ _ hx => hx
theorem Own.rs {H : Heap} {w : World} {B : Nat} {E : TypeId} {s : Nat} {v : Value} {n : Nat} {xs : List Value} (h : Own H w B E s v n xs) {H' : Heap} (hH : ∀ k o, v.ownBlock = some k → w.heap[k]? = some o → H' k = some o) : RS H' v n xs := by
  rcases h.row.2 with ⟨hv, hn⟩ | ⟨g, cap, cur, hv, hg, hh, hnc, hcm, hcs, htake⟩
  · have hx : xs = [] := List.eq_nil_of_length_eq_zero (by rw [h.row.1, hn]; simp)
    subst hv hn hx
    exact RS.nil _
  · refine ⟨_, cap, hv, hnc, hcm, by simp, h.one, fun j u hu => ⟨_, rfl, ?_⟩⟩
    have hb := hH g _ (by rw [hv]; rfl) hh
    rw [hcell_add hb, Nat.zero_add]
    rw [← htake, List.getElem?_take] at hu
    split at hu
    · simpa using hu
    · cases hu
theorem Own.rsw {H : Heap} {w : World} {B : Nat} {E : TypeId} {s : Nat} {v : Value} {n : Nat} {xs : List Value} (h : Own H w B E s v n xs) : RS (hfOf w) v n xs := h.rs fun _ _ _ e => e
/-- The row joins the snapshot. -/
theorem Own.freeze {H0 H : Heap} {w0 w : World} {X : Nat → Prop} {B : Nat} {E : TypeId} {s : Nat} {v : Value} {n : Nat} {xs : List Value} (h : Own H w B E s v n xs) (st : St H0 w0 X H w) (hB : w0.heap.size ≤ B) :
    ∃ H', Hle H H' ∧ St H0 w0 X H' w ∧ (∀ k, v.ownBlock ≠ some k → H' k = H k) ∧ RS H' v n xs := by
  rcases h.row.2 with ⟨hv, hn⟩ | ⟨g, cap, cur, hv, hg, hh, _⟩
  · exact ⟨H, Hle.refl _, st, fun _ _ => rfl, h.rs fun k o hk => by rw [hv] at hk; simp [Value.ownBlock] at hk⟩
  · have hgn : H g = none := h.out g (by rw [hv]; rfl)
    refine ⟨Hadd H g _, Hle.add _ hgn, st.freeze hh hgn (by omega), fun k hk => Hadd_ne H _ fun e => hk (by rw [hv, e]; rfl), h.rs fun k o hk e => ?_⟩
    rw [hv] at hk
    simp [Value.ownBlock] at hk
    subst hk
    rw [hh] at e
    cases e
    exact Hadd_same _ _ _
/-- A new block that is a row. -/
theorem Own.ofBlk {H : Heap} {w : World} {B b : Nat} {E : TypeId} {s n : Nat} {xs : List Value} (h : w.heap[b]? = some (.cells xs.toArray E (0, 0))) (hB : B ≤ b) (hH : H b = none) (hl : xs.length = n * s) (hm : n ≤ maxLen) (h1 : ∀ u ∈ xs, u.oneCell' = true) :
    Own H w B E s (.slice (some ⟨b, 0, none⟩) n n) n xs :=
  ⟨⟨hl, .inr ⟨b, n, xs.toArray, rfl, hB, h, Nat.le_refl _, hm, by simpa using hl, by simp [← hl]⟩⟩, fun k hk => by simp [Value.ownBlock] at hk; subst hk; exact hH, h1⟩

section ops
variable {P : Program} {g : Fr} {w : World} {K : Value → World → Prop} {o : Oper}

theorem elem_info {E : TypeId} {s by_ : Nat} {z : Value} (h : (P.info? E).map (fun i => (i.zero, i.size, i.bytes)) = some (some z, s, by_)) : ∃ i, P.info? E = some i ∧ i.zero = some z ∧ i.size = s ∧ i.bytes = by_ := info_parts h

theorem append_run {T ty E : TypeId} {i : TypeInfo} {z : Value} {B n m c : Nat} {v : Value} {ao : Option Addr} {xs news : List Value}
    (hT : P.underlying T = some (.slice E)) (hi : P.info? E = some i) (hz : i.zero = some z) (hzs : z.cells.size = i.size)
    (own : w.ownsRow B E i.size v n xs) (hao : ao = none → m = 0 ∧ c = 0) (hl : news.length = m * i.size) (hc : ∀ j u, news[j]? = some u → ∃ a, ao = some a ∧ w.cell? (a.add j) = some u) (h1 : ∀ u ∈ news, u.oneCell' = true)
    (h63 : n + m ≤ maxLen) (hby : (n + m) * i.bytes ≤ 140737488355328) (hB : B ≤ w.heap.size) :
    ∃ v' w', (Builtin.append_ #[T, T] ty #[v, .slice ao m c]).run P w = .ok v' w' ∧ w'.ownsRow B E i.size v' (n + m) (xs ++ news) ∧ w.grownBy w' v.ownBlock ∧
      (∀ k, v'.ownBlock = some k → v.ownBlock = some k ∨ w.heap.size ≤ k) := by
  have hsmall : ((n + m : Nat) : Int) ≤ 9223372036854775807 := by simp only [maxLen] at h63; omega
  have hlen : (xs ++ news).length = (n + m) * i.size := by rw [List.length_append, own.1, hl, Nat.add_mul]
  cases ao with
  | none =>
    obtain ⟨rfl, rfl⟩ := hao rfl
    have hn : news = [] := List.eq_nil_of_length_eq_zero (by simpa using hl)
    subst hn
    refine ⟨v, w, run_append_owned_none (P := P) w B T ty E i i.size hT hi v n xs own, by simpa using own, World.grownBy.refl _ _, fun k hk => .inl hk⟩
  | some a =>
    have hnews : ∀ j u, news[j]? = some u → w.cell? (a.add j) = some u := fun j u hu => by
      obtain ⟨a', e, hcell⟩ := hc j u hu
      cases e; exact hcell
    have grown : ∀ (old : Nat), old < n + m →
        (w.drew.alloc (.cells (xs.toArray ++ news.toArray ++ Builtin.zeroCells z.cells (grownCap w (n + m) old E - (n + m))) E)).ownsRow B E i.size
          (.slice (some ⟨w.heap.size, 0, none⟩) (n + m) (grownCap w (n + m) old E)) (n + m) (xs ++ news) := by
      intro old _
      have hge := grownCap_ge w (n + m) old E
      refine ⟨hlen, .inr ⟨w.heap.size, _, _, rfl, hB, heap_alloc_new w.drew _, hge, grownCap_le_maxLen w (n + m) old E h63, ?_, ?_⟩⟩
      · simp only [Array.size_append, List.size_toArray, size_zeroCells, hzs, own.1, hl, ← Nat.add_mul]
        congr 1
        omega
      · simp only [Array.toList_append, List.append_assoc]
        rw [← List.append_assoc, ← hlen]
        exact List.take_left
    have grw : ∀ o row, w.grownBy (w.drew.alloc o) row := fun o row => ⟨rfl, rfl, rfl, by simp, fun k hk _ => (Ext.of_alloc w.drew o).block k hk id⟩
    rcases own.2 with ⟨rfl, rfl⟩ | ⟨g, cap, cur, rfl, hbg, hg, hnc, hcm, hcs, htake⟩
    · have hx : xs = [] := List.eq_nil_of_length_eq_zero (by simpa using own.1)
      subst hx
      by_cases hm : m = 0
      · subst hm
        have hn : news = [] := List.eq_nil_of_length_eq_zero (by simpa using hl)
        subst hn
        refine ⟨.slice none 0 0, w, ?_, World.ownsRow_nil w B E i.size, World.grownBy.refl _ _, fun k hk => .inl hk⟩
        simp [Builtin.append_, run_underlying hT, sizeOf, typeInfo, hi, Builtin.lenOf, Builtin.firstCells, loadCells, loadCellsFrom]
      · have hr := run_append_nil (P := P) w T ty E i z hT hi hz a m c news hl hnews (by omega) (by omega) (by have hb := hby; simp only [Nat.zero_add] at hb; omega)
        have hgr := grown 0 (by omega)
        simp only [Nat.zero_add, List.nil_append, Array.empty_append] at hgr ⊢
        exact ⟨_, _, hr, hgr, grw _ _, fun k hk => .inr (by simp [Value.ownBlock] at hk; omega)⟩
    · by_cases hroom : n + m ≤ cap
      · have hfit : n * i.size + news.length ≤ cur.size := by rw [hl, hcs, ← Nat.add_mul]; exact Nat.mul_le_mul_right _ hroom
        have hr := run_append_room (P := P) w T ty E i hT hi g n cap cur hg a m c news hl hnews h1 hroom hfit
        refine ⟨_, _, hr, ⟨hlen, .inr ⟨g, cap, _, rfl, hbg, setRow_heap w g cur _ E _ hg, hroom, hcm, ?_, ?_⟩⟩, ⟨rfl, rfl, rfl, by simp, fun k _ hk => setRow_other w g k _ (fun e => hk (by simp [Value.ownBlock, e]))⟩, fun k hk => .inl (by simpa [Value.ownBlock] using hk)⟩
        · simp only [List.size_toArray, List.length_append, List.length_take, List.length_drop, Array.length_toList]
          omega
        · rw [htake, ← hlen]
          exact List.take_left
      · have holds : ∀ j u, xs[j]? = some u → w.cell? ((⟨g, 0, none⟩ : Addr).add j) = some u := own.cells (g := g) rfl
        have hr := run_append_grow (P := P) w T ty E i z hT hi hz ⟨g, 0, none⟩ n cap xs own.1 holds a m c news hl hnews (by omega) (by omega) (growslice_fits (by omega) hby)
        exact ⟨_, _, hr, grown cap (by omega), grw _ _, fun k hk => .inr (by simp [Value.ownBlock] at hk; omega)⟩

theorem O.append {x y : Operand} {T E : TypeId} {z : Value} {s by_ : Nat} {H : Heap} {B n m : Nat} {v vx : Value} {xs news : List Value}
    (ho : o.op = .call { callee := .builtin .append, args := #[x, y], argTypes := #[T, T] }) (hx : evF g x = v) (hy : evF g y = vx)
    (hT : P.underlying T = some (.slice E)) (hi : (P.info? E).map (fun i => (i.zero, i.size, i.bytes)) = some (some z, s, by_)) (hzs : z.cells.size = s)
    (own : Own H w B E s v n xs) (src : RS (hfOf w) vx m news) (hl : news.length = m * s) (h47 : n + m ≤ 140737488355328) (hby : (n + m) * by_ ≤ 140737488355328) (hB : B ≤ w.heap.size) (hA : Agr H w)
    (k : ∀ v' w', Own H w' B E s v' (n + m) (xs ++ news) → Chg (fun k => v.ownBlock = some k) w w' → K v' w') : OpT P o g w K := by
  have h63 : n + m ≤ maxLen := Nat.le_trans h47 (by decide)
  obtain ⟨i, hi1, hi2, hi3, hi4⟩ := elem_info hi
  obtain ⟨ao, cap, rfl, hmc, hcm, hnone, hone, hcells⟩ := src
  subst hi3 hi4
  obtain ⟨v', w', hr, hr1, hr2, hr3⟩ := append_run (ty := o.type) (c := cap) (ao := ao) hT hi1 hi2 hzs own.row (fun e => by have := hnone e; omega) hl (fun j u hu => by
    obtain ⟨a, e, hc⟩ := hcells j u hu
    exact ⟨a, e, by rw [← hcell_hf]; exact hc⟩) hone h63 hby hB
  refine OpT.run (v := v') (w' := w') ?_ (k v' w' ⟨hr1, fun j hj => ?_, fun u hu => ?_⟩ (Chg.of_grown hr2))
  · simp [execOp, ho, resolve, invoke, builtin, hx, hy, hr]
  · rcases hr3 j hj with h | h
    · exact own.out j h
    · exact hA.none h
  · rcases List.mem_append.1 hu with h | h
    · exact own.one u h
    · exact hone u h

/- building slices -/
def enumV : Nat → List Value → List (Nat × Value)
  | _, [] => []
  | k, v :: r => (k, v) :: enumV (k + 1) r
def catV (vs : List Value) : List Value := (vs.map fun v => v.cells.toList).flatten

theorem foldl_set_seg (cs : List Value) : ∀ (off : Nat) (pre mid post : List Value), mid.length = cs.length → pre.length = off →
    (cs.zipIdx 0).foldl (fun (A : List Value) (p : Value × Nat) => A.set (off + p.2) p.1) (pre ++ mid ++ post) = pre ++ cs ++ post := by
  have gen : ∀ (cs : List Value) (j off : Nat) (pre mid post : List Value), mid.length = cs.length → pre.length = off + j →
      (cs.zipIdx j).foldl (fun (A : List Value) (p : Value × Nat) => A.set (off + p.2) p.1) (pre ++ mid ++ post) = pre ++ cs ++ post := by
    intro cs
    induction cs with
    | nil =>
      intro j off pre mid post hm _
      have : mid = [] := List.eq_nil_of_length_eq_zero (by simpa using hm)
      subst this; simp
    | cons c r ih =>
      intro j off pre mid post hm hp
      cases mid with
      | nil => simp at hm
      | cons u mid =>
        simp only [List.zipIdx_cons, List.foldl_cons]
        have hset : (pre ++ u :: mid ++ post).set (off + j) c = (pre ++ [c]) ++ mid ++ post := by
          rw [List.append_assoc, List.set_append_right _ _ (by omega)]
          simp [hp]
        rw [hset, ih (j + 1) off (pre ++ [c]) mid post (by simpa using hm) (by simp; omega)]
        simp
  intro off pre mid post hm hp
  exact gen cs 0 off pre mid post hm (by simpa using hp)

theorem foldl_toArray (off : Nat) (l : List (Value × Nat)) : ∀ (A : List Value), l.foldl (fun (A : Array Value) (p : Value × Nat) => A.setIfInBounds (off + p.2) p.1) A.toArray = (l.foldl (fun (A : List Value) (p : Value × Nat) => A.set (off + p.2) p.1) A).toArray := by
  induction l with
  | nil => intro A; rfl
  | cons p r ih =>
    intro A
    simp only [List.foldl_cons, List.setIfInBounds_toArray]
    exact ih _

theorem fill_enum (s : Nat) : ∀ (vs : List Value) (k : Nat) (pre zs : List Value), (∀ v ∈ vs, v.cells.size = s) → pre.length = k * s → zs.length = vs.length * s →
    Instr.fill (fun i => some (i * s, s)) (pre ++ zs).toArray (enumV k vs) = some (pre ++ catV vs).toArray
  | [], k, pre, zs, _, _, hz => by
    have : zs = [] := List.eq_nil_of_length_eq_zero (by simpa using hz)
    subst this
    simp [enumV, Instr.fill, catV]
  | v :: r, k, pre, zs, hs, hp, hz => by
    have hv : v.cells.size = s := hs v (by simp)
    have hzl : s ≤ zs.length := by rw [hz, List.length_cons, Nat.add_mul]; omega
    simp only [enumV, Instr.fill, hv]
    have hfit : ¬ ((s ≠ s || decide (k * s + s > (pre ++ zs).toArray.size)) = true) := by simp; omega
    rw [if_neg (by simpa using hfit)]
    have hfold : (v.cells.zipIdx.foldl (fun (cs : Array Value) (p : Value × Nat) => cs.setIfInBounds (k * s + p.2) p.1) (pre ++ zs).toArray) = (pre ++ v.cells.toList ++ zs.drop s).toArray := by
      rw [← Array.foldl_toList, Array.toList_zipIdx, foldl_toArray]
      congr 1
      have := foldl_set_seg v.cells.toList (k * s) pre (zs.take s) (zs.drop s) (by simp [hv]; omega) hp
      rwa [List.append_assoc, List.take_append_drop] at this
    have hfold' : (v.cells.zipIdx.foldl (fun (cs : Array Value) (x : Value × Nat) => match x with | (c, j) => cs.setIfInBounds (k * s + j) c) (pre ++ zs).toArray) = (pre ++ v.cells.toList ++ zs.drop s).toArray := hfold
    rw [hfold']
    have := fill_enum s r (k + 1) (pre ++ v.cells.toList) (zs.drop s) (fun u hu => hs u (by simp [hu])) (by simp [hp, hv, Nat.add_mul]) (by simp [hz, Nat.add_mul])
    rw [this]
    simp [catV, List.append_assoc]

theorem catV_length {s : Nat} : ∀ {vs : List Value}, (∀ v ∈ vs, v.cells.size = s) → (catV vs).length = vs.length * s
  | [], _ => by simp [catV]
  | v :: r, h => by
    have := catV_length (vs := r) fun u hu => h u (by simp [hu])
    have hv := h v (by simp)
    simp [catV] at this ⊢
    rw [this, hv, Nat.add_mul]
    omega

theorem O.buildSlice {T E : TypeId} {z : Value} {s by_ len : Nat} {ps : List (Nat × Operand)} {vs : List Value} (ho : o.op = .buildSlice T len ps.toArray) (hps : ps.map (fun p => (p.1, evF g p.2)) = enumV 0 vs) (hlen : vs.length = len)
    (hT : P.underlying T = some (.slice E)) (hi : (P.info? E).map (fun i => (i.zero, i.size, i.bytes)) = some (some z, s, by_)) (hs : ∀ v ∈ vs, v.cells.size = s) (hsmall : len * s ≤ 2 ^ 24)
    (k : ∀ b w', w.heap.size ≤ b → b < w'.heap.size → Ext w w' → w'.heap[b]? = some (.cells (catV vs).toArray E (0, 0)) → K (.slice (some ⟨b, 0, none⟩) len len) w') : OpT P o g w K := by
  obtain ⟨i, hi1, hi2, hi3, hi4⟩ := elem_info hi
  subst hi3 hlen
  have hbig : ¬ (vs.length * i.size > 2 ^ 24) := by omega
  refine OpT.run (v := .slice (some ⟨w.heap.size, 0, none⟩) vs.length vs.length) (w' := w.alloc (.cells (catV vs).toArray E)) ?_ (k _ _ (Nat.le_refl _) (by simp) (Ext.of_alloc w _) (heap_alloc_new w _))
  have hpm : (ps.toArray.map fun (x : Nat × Operand) => match x with | (i, x) => (i, evF g x)).toList = enumV 0 vs := by
    rw [← hps]; simp
  have hfill : ∀ zs : Array Value, zs.size = vs.length * i.size → Instr.fill (fun j => some (j * i.size, i.size)) zs (enumV 0 vs) = some (catV vs).toArray := fun zs hz => by
    have := fill_enum i.size vs 0 [] zs.toList hs (by simp) (by simpa using hz)
    simpa using this
  simp only [execOp, ho, Instr.buildSlice, Sem.run_bind, run_underlying hT, Result.andThen_ok, sizeOf, typeInfo, program]
  simp only [Sem.run, hi1, Sem.run_bind, Sem.run_pure, Result.andThen_ok, pure_bind, hpm]
  by_cases h0 : vs.length * i.size = 0
  · simp [h0, Sem.run, hfill, newRow, newObj]
  · simp [h0, hbig, Sem.run, hfill, newRow, newObj, zeroValue, typeInfo, program, hi1, hi2]
end ops
end Go.Proofs.YtddpmpbngcbokaaGreatDoor

/- Slices of slices of bytes, and of whatever lies in cells. -/
import Derived.Test.YtddpmpbngcbokaaGreatDoorOps2
import Derived.Test.YtddpmpbngcbokaaGreatDoorSpec
namespace Go.Proofs.YtddpmpbngcbokaaGreatDoor
open Go Go.RowKit

inductive All2 {α β : Type} (R : α → β → Prop) : List α → List β → Prop
  | nil : All2 R [] []
  | cons {a : α} {b : β} {as : List α} {bs : List β} : R a b → All2 R as bs → All2 R (a :: as) (b :: bs)
theorem All2.length {α β : Type} {R : α → β → Prop} {as : List α} {bs : List β} (h : All2 R as bs) : as.length = bs.length := by
  induction h with
  | nil => rfl
  | cons _ _ ih => simp [ih]
theorem All2.imp {α β : Type} {R S : α → β → Prop} {as : List α} {bs : List β} (h : All2 R as bs) (hrs : ∀ a b, R a b → S a b) : All2 S as bs := by
  induction h with
  | nil => exact .nil
  | cons h _ ih => exact .cons (hrs _ _ h) ih
theorem All2.get {α β : Type} {R : α → β → Prop} {as : List α} {bs : List β} (h : All2 R as bs) : ∀ {i : Nat} (hi : i < bs.length), ∃ (hi' : i < as.length), R as[i] bs[i] := by
  induction h with
  | nil => intro i hi; simp at hi
  | cons h _ ih =>
    intro i hi
    cases i with
    | zero => exact ⟨by simp, h⟩
    | succ i => obtain ⟨hi', hr⟩ := ih (i := i) (by simpa using hi); exact ⟨by simpa using hi', hr⟩
theorem All2.append {α β : Type} {R : α → β → Prop} {as cs : List α} {bs ds : List β} (h : All2 R as bs) (h' : All2 R cs ds) : All2 R (as ++ cs) (bs ++ ds) := by
  induction h with
  | nil => exact h'
  | cons h _ ih => exact .cons h ih
theorem All2.snoc {α β : Type} {R : α → β → Prop} {as : List α} {bs : List β} (h : All2 R as bs) {a : α} {b : β} (h' : R a b) : All2 R (as ++ [a]) (bs ++ [b]) := h.append (.cons h' .nil)
theorem All2.take {α β : Type} {R : α → β → Prop} {as : List α} {bs : List β} (h : All2 R as bs) : ∀ n, All2 R (as.take n) (bs.take n) := by
  induction h with
  | nil => intro n; simp; exact .nil
  | cons h _ ih =>
    intro n
    cases n with
    | zero => exact .nil
    | succ n => exact .cons h (ih n)
theorem All2.drop {α β : Type} {R : α → β → Prop} {as : List α} {bs : List β} (h : All2 R as bs) : ∀ n, All2 R (as.drop n) (bs.drop n) := by
  induction h with
  | nil => intro n; simp; exact .nil
  | cons h t ih =>
    intro n
    cases n with
    | zero => exact .cons h t
    | succ n => exact ih n

/-- A slice of slices of bytes. -/
def RBB (H : Heap) (v : Value) (ps : List (List UInt8)) : Prop := ∃ vs, All2 (RB H) vs ps ∧ RS H v ps.length vs
theorem RBB.mono {H H' : Heap} {v : Value} {ps : List (List UInt8)} (h : RBB H v ps) (hl : Hle H H') : RBB H' v ps := by
  obtain ⟨vs, h1, h2⟩ := h
  exact ⟨vs, h1.imp fun _ _ r => r.mono hl, h2.mono hl⟩
/-- A slice of elements of s cells each, of which R tells. -/
def RL {α : Type} (s : Nat) (R : Heap → List Value → α → Prop) (H : Heap) (v : Value) (xs : List α) : Prop := ∃ css, All2 (R H) css xs ∧ (∀ cs ∈ css, cs.length = s) ∧ RS H v xs.length css.flatten
theorem RL.mono {α : Type} {s : Nat} {R : Heap → List Value → α → Prop} (hR : ∀ {H H' cs x}, Hle H H' → R H cs x → R H' cs x) {H H' : Heap} {v : Value} {xs : List α} (h : RL s R H v xs) (hl : Hle H H') : RL s R H' v xs := by
  obtain ⟨css, h1, h2, h3⟩ := h
  exact ⟨css, h1.imp fun _ _ r => hR hl r, h2, h3.mono hl⟩

theorem RS.form {H : Heap} {v : Value} {n : Nat} {cells : List Value} (h : RS H v n cells) : ∃ ao cap, v = .slice ao n cap := by
  obtain ⟨ao, cap, hv, _⟩ := h; exact ⟨ao, cap, hv⟩
/-- An element of one cell. -/
theorem RS.elem {H : Heap} {ao : Option Addr} {n cap : Nat} {cells : List Value} (h : RS H (.slice ao n cap) n cells) {i : Nat} {u : Value} (hu : cells[i]? = some u) : ∃ a, ao = some a ∧ hcell H (a.add i) = some u := by
  obtain ⟨ao', cap', hv, _, _, _, _, hc⟩ := h
  cases hv
  exact hc i u hu
theorem RS.len_le {H : Heap} {ao : Option Addr} {n cap : Nat} {cells : List Value} (h : RS H (.slice ao n cap) n cells) : n ≤ maxLen := by
  obtain ⟨ao', cap', hv, h1, h2, _⟩ := h
  cases hv
  omega
theorem flatten_seg {α : Type} {s : Nat} : ∀ {css : List (List α)}, (∀ cs ∈ css, cs.length = s) → ∀ {i : Nat} {cs : List α}, css[i]? = some cs → ∀ {j : Nat} {u : α}, cs[j]? = some u → css.flatten[i * s + j]? = some u
  | [], _, i, cs, h, _, _, _ => by simp at h
  | c :: r, hs, 0, cs, h, j, u, hu => by
    simp at h; subst h
    have hj : j < c.length := (List.getElem?_eq_some_iff.1 hu).1
    simp [List.getElem?_append, hj]
    simpa [hj] using hu
  | c :: r, hs, i + 1, cs, h, j, u, hu => by
    have hc : c.length = s := hs c (by simp)
    have := flatten_seg (css := r) (fun cs h => hs cs (by simp [h])) (i := i) (by simpa using h) hu
    rw [List.flatten_cons, List.getElem?_append_right (by rw [hc, Nat.add_mul]; omega), hc]
    rw [← this]
    congr 1
    rw [Nat.add_mul]
    omega
/-- An element of s cells. -/
theorem RL.elem {α : Type} {s : Nat} {R : Heap → List Value → α → Prop} {H : Heap} {ao : Option Addr} {cap : Nat} {xs : List α} {n : Nat} (h : RL s R H (.slice ao n cap) xs) {i : Nat} (hi : i < xs.length) :
    ∃ a cs, ao = some a ∧ cs.length = s ∧ R H cs xs[i] ∧ (∀ u ∈ cs, u.oneCell' = true) ∧ (0 < s → ∀ j u, cs[j]? = some u → hcell H ((a.add (i * s)).add j) = some u) := by
  obtain ⟨css, h1, h2, ao', cap', hv, hnc, hcm, hnone, hone, hc⟩ := h
  cases hv
  obtain ⟨hi', hr⟩ := h1.get hi
  have hcs : css[i]? = some css[i] := by simp [hi']
  have hl : css[i].length = s := h2 _ (by simp)
  cases ao with
  | none => exfalso; have := hnone rfl; omega
  | some a =>
    refine ⟨a, css[i], rfl, hl, hr, fun u hu => hone u (List.mem_flatten.2 ⟨_, by simp, hu⟩), fun _ j u hu => ?_⟩
    obtain ⟨a', e, hcell⟩ := hc _ _ (flatten_seg h2 hcs hu)
    cases e
    rw [Addr.add_add]
    exact hcell
end Go.Proofs.YtddpmpbngcbokaaGreatDoor

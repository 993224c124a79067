/- Rows of bytes that are written over; a cut behind a piece of code; guards in a region of any order. -/
import Derived.Test.YtddpmpbngcbokaaGreatDoorAwake
namespace Go.Proofs.YtddpmpbngcbokaaGreatDoor
open Go Go.RowKit

theorem W.post {P : Program} {n : Nat} {Q : Post} {f : Fr} {w : World} {c : Code} (R : Fr → World → Prop) (h : W P n c (fun e g w' => e = .normal ∧ R g w') f w) (k : ∀ g w', R g w' → Q .normal g w') : W P n c Q f w :=
  W.mono h fun e g w' ⟨he, hr⟩ => by subst he; exact k g w' hr
theorem guardF_of {ops : Array Oper} {g : Fr} {j t : Nat} {b : Bool} (hd : (ops[j]?).bind (·.dst) = some t) (h : g t = .bool b) : guardF ops g j = some b := by simp [guardF, hd, h]
theorem StepT.on {P : Program} {ops : Array Oper} {o : Oper} {g : Fr} {w : World} {K : Value → World → Prop} {j : Nat} {b : Bool} (hg : o.guard = some (j, b)) (hy : guardF ops g j = some b) (h : OpT P o g w K) : StepT P ops o g w K := by
  unfold StepT
  rw [hg]
  exact ⟨fun _ => h, fun hn => absurd hy hn⟩
theorem StepT.off {P : Program} {ops : Array Oper} {o : Oper} {g : Fr} {w : World} {K : Value → World → Prop} {j : Nat} {b c : Bool} (hg : o.guard = some (j, b)) (hy : guardF ops g j = some c) (hbc : (c == b) = false) (h : K undef w) : StepT P ops o g w K := by
  unfold StepT
  rw [hg]
  exact ⟨fun hn => (by rw [hy] at hn; cases hn; simp at hbc), fun _ => h⟩

theorem u8_wrap (i : Int) : ∃ y : UInt8, IntKind.u8.wrap i = (y.toNat : Int) := by
  have h : 0 ≤ IntKind.u8.wrap i ∧ IntKind.u8.wrap i < 256 := by
    simp only [IntKind.wrap, IntKind.bits, IntKind.signed]
    simp
    omega
  refine ⟨UInt8.ofNat (IntKind.u8.wrap i).toNat, ?_⟩
  rw [UInt8.toNat_ofNat']
  omega
theorem O.xor {P : Program} {g : Fr} {w : World} {K : Value → World → Prop} {o : Oper} {T T' : TypeId} {x y : Operand} {kd : IntKind} {a b c : Int} (ho : o.op = .binOp .xor T x y T') (hx : evF g x = .int kd a) (hy : evF g y = .int kd b)
    (hc : kd.wrap ((BitVec.ofInt kd.bits a ^^^ BitVec.ofInt kd.bits b).toNat : Int) = c) (k : K (.int kd c) w) : OpT P o g w K := by
  subst hc
  refine OpT.run (v := .int kd _) (w' := w) ?_ k
  simp [execOp, ho, hx, hy, binOp, eqGuard, Op.intBits]

/-- The first n cells behind an address in block B are bytes, whichever. -/
def Sp (B : Nat) (ao : Option Addr) (n : Nat) (w : World) : Prop :=
  0 < n → ∃ off c e, ao = some ⟨B, off, none⟩ ∧ w.heap[B]? = some (.cells c e (0, 0)) ∧ ∀ j, j < n → ∃ x : UInt8, c[off + j]? = some (bc x)
theorem Sp.chg {B : Nat} {ao : Option Addr} {n : Nat} {w w' : World} {X : Nat → Prop} (h : Sp B ao n w) (c : Chg X w w') (hX : ¬ X B) : Sp B ao n w' := fun hn => by
  obtain ⟨off, cs, e, h1, h2, h3⟩ := h hn
  exact ⟨off, cs, e, h1, c.blk h2 hX, h3⟩
theorem hcell_parts {H : Heap} {a : Addr} {v : Value} (h : hcell H a = some v) : a.spot = none ∧ ∃ c e fr, H a.block = some (.cells c e fr) ∧ c[a.off]? = some v := by
  unfold hcell at h
  cases hb : H a.block with
  | none => rw [hb] at h; cases h
  | some o =>
    rw [hb] at h
    cases o with
    | cells c e fr =>
      simp only at h
      cases hs : a.spot with
      | some s => rw [hs] at h; simp at h
      | none => rw [hs] at h; exact ⟨rfl, c, e, fr, rfl, by simpa using h⟩
    | _ => cases h
theorem Addr.add_zero' (a : Addr) : a.add 0 = a := by simp [Addr.add]
theorem Sp.ofRB {N : Heap} {w : World} {ao : Option Addr} {cap : Nat} {bs : List UInt8} (hA : Agr N w) (hU : Unf N) (r : RB N (.slice ao bs.length cap) bs) (D : Nat) :
    ∃ B, Sp B ao bs.length w ∧ ((bs.length = 0 ∧ B = D) ∨ ∃ o, N B = some o) := by
  by_cases h0 : bs.length = 0
  · exact ⟨D, fun hn => by omega, .inl ⟨h0, rfl⟩⟩
  · have hlt : 0 < bs.length := by omega
    have hcells : ∀ j (hj : j < bs.length), (bcs bs)[j]? = some (bc bs[j]) := fun j hj => by simp [bcs, hj]
    obtain ⟨a, hao, hc0⟩ := RS.elem r (hcells 0 hlt)
    rw [Addr.add_zero'] at hc0
    obtain ⟨hs, c, e, fr, hb, _⟩ := hcell_parts hc0
    obtain ⟨c', e', ho⟩ := hU _ _ hb
    cases ho
    obtain ⟨B, off, sp⟩ := a
    simp only at hs hb
    subst hs
    refine ⟨B, fun _ => ⟨off, c, e, hao, hA _ _ hb, fun j hj => ⟨bs[j], ?_⟩⟩, .inr ⟨_, hb⟩⟩
    obtain ⟨a2, hao2, hc⟩ := RS.elem r (hcells j hj)
    rw [hao] at hao2
    cases hao2
    rwa [hcell_add hb] at hc
theorem sp_set {c : Array Value} {m : Nat} {v : Value} (hm : m < c.size) (i : Nat) : (c.toList.take m ++ [v] ++ c.toList.drop (m + 1)).toArray[i]? = if i = m then some v else c[i]? := by
  have h : c.toList.take m ++ [v] ++ c.toList.drop (m + 1) = c.toList.set m v := by
    rw [List.set_eq_take_append_cons_drop, if_pos (by simpa using hm)]
    simp
  rw [h]
  simp only [List.getElem?_toArray, List.getElem?_set, Array.length_toList, hm, if_true, Array.getElem?_toList]
  by_cases he : i = m
  · subst he; simp
  · simp [he, Ne.symm he]
theorem Sp.stored {B off n k : Nat} {w' : World} {c : Array Value} {e : TypeId} {y : UInt8} (hs : ∀ j, j < n → ∃ x : UInt8, c[off + j]? = some (bc x)) (hk : k < n)
    (hb : w'.heap[B]? = some (.cells (c.toList.take (off + k) ++ [bc y] ++ c.toList.drop (off + k + 1)).toArray e (0, 0))) : Sp B (some ⟨B, off, none⟩) n w' := fun _ => by
  refine ⟨off, _, e, rfl, hb, fun j hj => ?_⟩
  obtain ⟨x, hx⟩ := hs k hk
  rw [sp_set (Array.getElem?_eq_some_iff.1 hx).1]
  by_cases h : off + j = off + k
  · rw [if_pos h]; exact ⟨y, rfl⟩
  · rw [if_neg h]; exact hs j hj
end Go.Proofs.YtddpmpbngcbokaaGreatDoor

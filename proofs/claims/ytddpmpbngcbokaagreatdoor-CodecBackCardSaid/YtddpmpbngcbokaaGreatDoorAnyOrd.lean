/- A region whose order is drawn: facts that stay, one for each operation, in whatever order they come. -/
import Derived.Test.YtddpmpbngcbokaaGreatDoorCore
namespace Go.Proofs.YtddpmpbngcbokaaGreatDoor
open Go Go.RowKit

def dv (ops : Array Oper) (g : Fr) (i : Nat) : Value := match (ops[i]?).bind (·.dst) with | some t => g t | none => undef
def StepT (P : Program) (ops : Array Oper) (o : Oper) (g : Fr) (w : World) (K : Value → World → Prop) : Prop :=
  match o.guard with
  | none => OpT P o g w K
  | some (j, b) => (guardF ops g j = some b → OpT P o g w K) ∧ (guardF ops g j ≠ some b → K undef w)
def dstV (o : Oper) (v : Value) : Value := match o.dst with | some _ => v | none => undef
abbrev Fact := Value → World → Prop
def phi (L : List Fact) (i : Nat) : Fact := L.getD i (fun _ _ => True)
def DepsL (ops : Array Oper) (L : List Fact) (g : Fr) (w : World) : List Edge → Prop
  | [] => True
  | e :: r => (Region.binds .any e = true → phi L e.on (dv ops g e.on) w) ∧ DepsL ops L g w r
def StepsL (P : Program) (ops : Array Oper) (L : List Fact) (R : World → World → Prop) (f : Fr) (w : World) (D : List Nat) : Nat → List Oper → Prop
  | _, [] => True
  | i, o :: r => (∀ g w1, R w w1 → (∀ t, t ∉ D → g t = f t) → DepsL ops L g w1 o.after.toList → StepT P ops o g w1 fun v w2 => R w1 w2 ∧ phi L i (dstV o v) w2) ∧ StepsL P ops L R f w D (i + 1) r
def StabL (R : World → World → Prop) : List Fact → Prop
  | [] => True
  | φ :: r => (∀ v w w', R w w' → φ v w → φ v w') ∧ StabL R r
def dstsOf (l : List Oper) : List Nat := l.filterMap (·.dst)
def allFacts (ops : Array Oper) (L : List Fact) (g : Fr) (w : World) : Nat → List Oper → Prop
  | _, [] => True
  | i, _ :: r => phi L i (dv ops g i) w ∧ allFacts ops L g w (i + 1) r
/-- The edges lead back, the destinations are distinct and lie in the frame. -/
def edgesBack : Nat → List Oper → Bool
  | _, [] => true
  | i, o :: r => (o.after.all fun e => !Region.binds .any e || decide (e.on < i)) && (match o.guard with | none => true | some (j, _) => o.after.any fun e => e.on == j && Region.binds .any e) && edgesBack (i + 1) r
def regionOk (n : Nat) (l : List Oper) : Bool := edgesBack 0 l && decide (dstsOf l).Nodup && l.all fun o => dstOk n o.dst

theorem StabL.phi {R : World → World → Prop} : ∀ {L : List Fact}, StabL R L → ∀ i v w w', R w w' → phi L i v w → phi L i v w'
  | [], _, i, v, w, w', _, _ => by simp [Go.Proofs.YtddpmpbngcbokaaGreatDoor.phi]
  | φ :: r, h, 0, v, w, w', hR, hp => h.1 v w w' hR hp
  | φ :: r, h, i + 1, v, w, w', hR, hp => StabL.phi (L := r) h.2 i v w w' hR hp

theorem StepsL.get {P : Program} {ops : Array Oper} {L : List Fact} {R : World → World → Prop} {f : Fr} {w : World} {D : List Nat} : ∀ {l : List Oper} {k : Nat}, StepsL P ops L R f w D k l → ∀ i o, l[i]? = some o →
    ∀ g w1, R w w1 → (∀ t, t ∉ D → g t = f t) → DepsL ops L g w1 o.after.toList → StepT P ops o g w1 fun v w2 => R w1 w2 ∧ phi L (k + i) (dstV o v) w2
  | [], _, _, i, o, h => by simp at h
  | o' :: r, k, hs, 0, o, h => by simp at h; subst h; exact hs.1
  | o' :: r, k, hs, i + 1, o, h => by
    have := StepsL.get (l := r) hs.2 i o (by simpa using h)
    rwa [show k + 1 + i = k + (i + 1) by omega] at this

theorem allFacts_of {ops : Array Oper} {L : List Fact} {g : Fr} {w : World} : ∀ (l : List Oper) (k : Nat), (∀ i, i < l.length → phi L (k + i) (dv ops g (k + i)) w) → allFacts ops L g w k l
  | [], _, _ => trivial
  | _ :: r, k, h => ⟨by simpa using h 0 (by simp), allFacts_of r (k + 1) fun i hi => by
      have := h (i + 1) (by simp; omega)
      rwa [show k + (i + 1) = k + 1 + i by omega] at this⟩

theorem edgesBack_get : ∀ {l : List Oper} {k : Nat}, edgesBack k l = true → ∀ i o, l[i]? = some o → ∀ e ∈ o.after, Region.binds .any e = true → e.on < k + i
  | [], _, _, i, o, h => by simp at h
  | o' :: r, k, hb, 0, o, h => by
    simp only [edgesBack, Bool.and_eq_true] at hb
    simp at h; subst h
    intro e he hbd
    have := Array.all_eq_true_iff_forall_mem.1 hb.1.1 e he
    simpa [hbd] using this
  | o' :: r, k, hb, i + 1, o, h => by
    simp only [edgesBack, Bool.and_eq_true] at hb
    intro e he hbd
    have := edgesBack_get (l := r) hb.2 i o (by simpa using h) e he hbd
    omega

theorem DepsL_of {ops : Array Oper} {L : List Fact} {g : Fr} {w : World} : ∀ (es : List Edge), (∀ e ∈ es, Region.binds .any e = true → phi L e.on (dv ops g e.on) w) → DepsL ops L g w es
  | [], _ => trivial
  | e :: r, h => ⟨h e (by simp), DepsL_of r fun e' he' => h e' (by simp [he'])⟩

theorem countP_lt {α : Type} {p q : α → Bool} : ∀ (l : List α), (∀ x ∈ l, q x = true → p x = true) → (∃ x ∈ l, p x = true ∧ q x = false) → l.countP q < l.countP p
  | [], _, h => by obtain ⟨x, hx, _⟩ := h; cases hx
  | a :: l, h, hx => by
    have hle : l.countP q ≤ l.countP p := List.countP_mono_left fun x hx => h x (by simp [hx])
    simp only [List.countP_cons]
    obtain ⟨x, hx, hp, hq⟩ := hx
    rcases List.mem_cons.1 hx with rfl | hx'
    · simp only [hp, hq]
      simp
      omega
    · have := countP_lt l (fun x hx => h x (by simp [hx])) ⟨x, hx', hp, hq⟩
      have ha := h a (by simp)
      cases hqa : q a <;> cases hpa : p a <;> simp_all <;> omega

theorem dsts_ne {l : List Oper} (hn : (dstsOf l).Nodup) {i j : Nat} {oi oj : Oper} (hi : l[i]? = some oi) (hj : l[j]? = some oj) {t : Nat} (ht : oi.dst = some t) (ht' : oj.dst = some t) : i = j := by
  induction l generalizing i j with
  | nil => simp at hi
  | cons o r ih =>
    have hr : (dstsOf r).Nodup := by
      unfold dstsOf at *
      simp only [List.filterMap_cons] at hn
      split at hn
      · exact hn
      · exact (List.nodup_cons.1 hn).2
    have mem : ∀ (k : Nat) (ok : Oper), r[k]? = some ok → ok.dst = some t → t ∈ dstsOf r := fun k ok hk h => List.mem_filterMap.2 ⟨ok, List.mem_of_getElem? hk, h⟩
    cases i with
    | zero =>
      cases j with
      | zero => rfl
      | succ j =>
        simp at hi; subst hi
        have := mem j oj (by simpa using hj) ht'
        unfold dstsOf at hn this
        simp only [List.filterMap_cons, ht] at hn
        exact absurd this (List.nodup_cons.1 hn).1
    | succ i =>
      cases j with
      | zero =>
        simp at hj; subst hj
        have := mem i oi (by simpa using hi) ht
        unfold dstsOf at hn this
        simp only [List.filterMap_cons, ht'] at hn
        exact absurd this (List.nodup_cons.1 hn).1
      | succ j =>
        have := ih hr (i := i) (j := j) (by simpa using hi) (by simpa using hj)
        omega

theorem ready_nil_all {ops : Array Oper} {listed : Array Bool} (he : edgesBack 0 ops.toList = true) (hsz : listed.size = ops.size) (hr : Region.ready .any ops listed = []) : ∀ i, i < ops.size → listed.getD i true = true := by
  intro i
  induction i using Nat.strongRecOn with
  | _ i ih =>
    intro hi
    cases hb : listed.getD i true with
    | true => rfl
    | false =>
      exfalso
      have hmem : i ∈ Region.ready .any ops listed := by
        refine mem_ready.2 ⟨hb, ops[i], by simp [hi], ?_⟩
        intro e hem hbd
        have hlt := edgesBack_get he i ops[i] (by simp [hi]) e hem hbd
        have h1 := ih e.on (by omega) (by omega)
        simp only [Array.getD, show e.on < listed.size by omega, dite_true] at h1 ⊢
        exact h1
      rw [hr] at hmem
      cases hmem

theorem dv_put {l : List Oper} (hn : (dstsOf l).Nodup) {g : Fr} {i j : Nat} {o : Oper} (hi : l[i]? = some o) (v : Value) (hji : j ≠ i) : dv l.toArray (putF g o.dst v) j = dv l.toArray g j := by
  unfold dv
  cases hj : l[j]? with
  | none => simp [hj]
  | some oj =>
    simp only [List.getElem?_toArray, hj, Option.bind_some]
    cases hd : oj.dst with
    | none => rfl
    | some t =>
      cases hdi : o.dst with
      | none => rfl
      | some s =>
        show upd g s v t = g t
        refine upd_ne _ _ fun e => hji ?_
        subst e
        exact dsts_ne hn hj hi hd hdi

theorem W.region_any {P : Program} {n id : Nat} {l : List Oper} {Q : Post} {f : Fr} {w : World} (hm : P.follows .mixedOrders = true)
    (hok : regionOk n l = true) (D : List Nat) (hD : dstsOf l = D) (R : World → World → Prop) (hrefl : ∀ w, R w w) (htrans : ∀ {a b c}, R a b → R b c → R a c)
    (L : List Fact) (stab : StabL R L) (steps : StepsL P l.toArray L R f w.drew D 0 l)
    (k : ∀ g w1, R w.drew w1 → (∀ t, t ∉ D → g t = f t) → allFacts l.toArray L g w1 0 l → Q .normal g w1) : W P n (.region id l.toArray true) Q f w := by
  subst hD
  simp only [regionOk, Bool.and_eq_true, decide_eq_true_eq] at hok
  obtain ⟨⟨hedge, hnd⟩, hdst⟩ := hok
  intro a ha
  refine wp_region_any hm ?_
  have key : ∀ (fuel : Nat) (listed : Array Bool) (a : Act) (g : Fr) (w1 : World), listed.size = l.length → (List.range l.length).countP (fun i => !listed.getD i true) ≤ fuel → Is n a g → R w.drew w1 →
      (∀ t, t ∉ dstsOf l → g t = f t) → (∀ i, i < l.length → listed.getD i true = true → phi L i (dv l.toArray g i) w1) → wpAny P .any l.toArray (liftQ n Q) fuel listed a w1 := by
    intro fuel
    induction fuel with
    | zero =>
      intro listed a g w1 hsz hc hi hR hfr hF
      have hall : ∀ i, i < l.length → listed.getD i true = true := fun i hlt => by
        have h0 := List.countP_eq_zero.1 (Nat.le_zero.1 hc) i (List.mem_range.2 hlt)
        simpa using h0
      refine ⟨?_, g, hi, k g w1 hR hfr (allFacts_of l 0 fun i hlt => by simpa using hF i hlt (hall i hlt))⟩
      refine List.eq_nil_iff_forall_not_mem.2 fun i hmem => ?_
      obtain ⟨hun, o, ho, _⟩ := mem_ready.1 hmem
      have hlt : i < l.length := by
        have := (Array.getElem?_eq_some_iff.1 ho).1
        simpa using this
      rw [hall i hlt] at hun
      cases hun
    | succ fuel ih =>
      intro listed a g w1 hsz hc hi hR hfr hF
      refine ⟨fun hr => ?_, fun i hmem => ?_⟩
      · have hall := ready_nil_all (ops := l.toArray) (by simpa using hedge) (by simpa using hsz) hr
        exact ⟨g, hi, k g w1 hR hfr (allFacts_of l 0 fun i hlt => by simpa using hF i hlt (hall i (by simpa using hlt)))⟩
      · obtain ⟨hun, o, ho, hall⟩ := mem_ready.1 hmem
        have ho' : l[i]? = some o := by simpa using ho
        have hlt : i < l.length := (List.getElem?_eq_some_iff.1 ho').1
        have hdeps : DepsL l.toArray L g w1 o.after.toList := DepsL_of _ fun e he hbd => by
          have hlst := hall e (by simpa using he) hbd
          have hon := edgesBack_get hedge i o ho' e (by simpa using he) hbd
          refine hF e.on (by omega) ?_
          simp only [Array.getD, show e.on < listed.size by omega, dite_true] at hlst ⊢
          exact hlst
        have hst := steps.get i o ho' g w1 hR hfr hdeps
        rw [Nat.zero_add] at hst
        have hdo : dstOk n o.dst = true := List.all_eq_true.1 hdst o (List.mem_of_getElem? ho')
        have hnext : ∀ v w2, R w1 w2 ∧ phi L i (dstV o v) w2 → wpAny P .any l.toArray (liftQ n Q) fuel (listed.setIfInBounds i true) (a.put o.dst v) w2 := by
          rintro v w2 ⟨hR2, hphi⟩
          refine ih _ _ (putF g o.dst v) w2 (by simpa using hsz) ?_ (hi.put hdo v) (htrans hR hR2) ?_ ?_
          · have := countP_lt (p := fun i => !listed.getD i true) (q := fun j => !(listed.setIfInBounds i true).getD j true) (List.range l.length) ?_ ?_
            · omega
            · intro x _ hx
              by_cases e : i = x
              · subst e; simp [hsz, hlt] at hx
              · simpa [Array.getElem?_setIfInBounds_ne e] using hx
            · exact ⟨i, List.mem_range.2 hlt, by rw [hun]; rfl, by simp [hsz, hlt]⟩
          · intro t ht
            cases hd : o.dst with
            | none => simpa [putF, hd] using hfr t ht
            | some s =>
              have hs : s ∈ dstsOf l := List.mem_filterMap.2 ⟨o, List.mem_of_getElem? ho', hd⟩
              rw [show putF g (some s) v = upd g s v from rfl, upd_ne _ _ (fun e => ht (by rw [← e]; exact hs))]
              exact hfr t ht
          · intro j hj hlj
            by_cases e : j = i
            · subst e
              have hdv : dv l.toArray (putF g o.dst v) j = dstV o v := by
                unfold dv dstV
                simp only [List.getElem?_toArray, ho', Option.bind_some]
                cases hd : o.dst with
                | none => rfl
                | some s => simp [putF, upd_same]
              rw [hdv]
              exact hphi
            · rw [dv_put hnd ho' v e]
              have : listed.getD j true = true := by simpa [Array.getElem?_setIfInBounds_ne (Ne.symm e)] using hlj
              exact stab.phi j _ _ _ hR2 (hF j hj this)
        unfold wpOp
        simp only [ho]
        unfold StepT at hst
        have hrun : OpT P o g w1 (fun v w2 => R w1 w2 ∧ phi L i (dstV o v) w2) → o.wp P a w1 (wpAny P .any l.toArray (liftQ n Q) fuel (listed.setIfInBounds i true)) (liftQ n Q) := fun h => by
          refine Oper.wp_mono ?_ (h.go a _ hi.eval)
          rintro a' w' ⟨v, rfl, hv⟩
          exact hnext v w' hv
        cases hgd : o.guard with
        | none =>
          rw [hgd] at hst
          rw [if_pos (by simp [Region.wanted, hgd])]
          exact .inl (hrun hst)
        | some jb =>
          obtain ⟨j, b⟩ := jb
          rw [hgd] at hst
          by_cases hy : guardF l.toArray g j = some b
          · rw [if_pos (by simp [Region.wanted, hgd, hi.yielded, hy])]
            exact .inl (hrun (hst.1 hy))
          · rw [if_neg (by simp [Region.wanted, hgd, hi.yielded, hy])]
            exact hnext undef w1 (hst.2 hy)
  refine key _ _ a f w.drew (by simp) ?_ ha (hrefl _) (fun _ _ => rfl) ?_
  · simpa using List.countP_le_length (p := fun i => !(Array.replicate l.toArray.size false).getD i true) (l := List.range l.length)
  · intro i hi h
    simp [hi] at h
end Go.Proofs.YtddpmpbngcbokaaGreatDoor

/- A calculus of frames as functions over the kit's weakest preconditions: for any program. -/
import Derived.WalkKit
import Derived.OrdersHeld
namespace Go.Proofs.YtddpmpbngcbokaaGreatDoor
open Go Go.RowKit

abbrev Fr := Nat → Value
def upd (f : Fr) (i : Nat) (v : Value) : Fr := fun j => bif Nat.beq i j then v else f j
def putF (f : Fr) (d : Option Nat) (v : Value) : Fr := match d with | some i => upd f i v | none => f
def evF (f : Fr) : Operand → Value
  | .tmp t => f t
  | .const v => v
  | .global g => .pointer (some ⟨g, 0, none⟩)
  | .func k => .func (.func k) #[] #[]
def argF (args : Array Value) : Fr := fun t => args.getD t undef

theorem upd_same (f : Fr) (i : Nat) (v : Value) : upd f i v i = v := by
  simp [upd]
theorem upd_ne (f : Fr) {i j : Nat} (v : Value) (h : i ≠ j) : upd f i v j = f j := by
  have : Nat.beq i j = false := by
    cases hb : Nat.beq i j
    · rfl
    · exact absurd (Nat.eq_of_beq_eq_true hb) h
  simp [upd, this]

structure Is (n : Nat) (a : Act) (f : Fr) : Prop where
  size : a.tmps.size = n
  defers : a.defers = []
  at_ : ∀ t, a.tmps.getD t undef = f t

theorem Is.eval {n : Nat} {a : Act} {f : Fr} (h : Is n a f) : a.eval = evF f := by
  funext x
  cases x with
  | tmp t => exact h.at_ t
  | const v => rfl
  | global g => rfl
  | func k => rfl

def dstOk (n : Nat) (d : Option Nat) : Bool := match d with | some i => decide (i < n) | none => true

theorem Is.put {n : Nat} {a : Act} {f : Fr} (h : Is n a f) {d : Option Nat} (hd : dstOk n d = true) (v : Value) : Is n (a.put d v) (putF f d v) := by
  cases d with
  | none => exact h
  | some i =>
    have hi : i < n := by simpa [dstOk] using hd
    refine ⟨by simpa [Act.put] using h.size, h.defers, fun t => ?_⟩
    by_cases e : i = t
    · subst e
      have hsz : i < a.tmps.size := by rw [h.size]; exact hi
      simp [Act.put, putF, upd_same, hsz]
    · rw [show putF f (some i) v = upd f i v from rfl, upd_ne f v e, ← h.at_ t]
      simp [Act.put, Array.getElem?_setIfInBounds_ne e]

abbrev Post := Exit → Fr → World → Prop
def liftQ (n : Nat) (Q : Post) : Exit → Act → World → Prop := fun e a w => ∃ f, Is n a f ∧ Q e f w
def W (P : Program) (n : Nat) (c : Code) (Q : Post) (f : Fr) (w : World) : Prop := ∀ a, Is n a f → c.wp P (liftQ n Q) a w
def thenF (K : Fr → World → Prop) (Q : Post) : Post
  | .normal, f, w => K f w
  | e, f, w => Q e f w
def blockF (id : Nat) (Q : Post) : Post
  | .exit id', f, w => if id' = id then Q .normal f w else Q (.exit id') f w
  | e, f, w => Q e f w

section
variable {P : Program} {n : Nat} {Q : Post} {f : Fr} {w : World}

theorem W.mono {c : Code} {Q' : Post} (h : W P n c Q f w) (hq : ∀ e f w, Q e f w → Q' e f w) : W P n c Q' f w :=
  fun a ha => wp_mono (h a ha) fun e a w ⟨g, hg, hQ⟩ => ⟨g, hg, hq e g w hQ⟩

theorem W.seq {x y : Code} (h : ∀ K : Fr → World → Prop, (∀ f w, W P n y Q f w → K f w) → W P n x (thenF K Q) f w) : W P n (.seq x y) Q f w := by
  intro a ha
  refine wp_seq (wp_mono (h (fun f w => W P n y Q f w) (fun _ _ h => h) a ha) ?_)
  rintro e a' w' ⟨g, hg, hq⟩
  cases e with
  | normal => exact hq a' hg
  | _ => exact ⟨g, hg, hq⟩

theorem W.skip (h : Q .normal f w) : W P n .skip Q f w := fun a ha => wp_skip ⟨f, ha, h⟩
theorem W.ret (h : Q .ret f w) : W P n .ret Q f w := fun a ha => wp_ret ⟨f, ha, h⟩
theorem W.exit {id : Nat} (h : Q (.exit id) f w) : W P n (.exit id) Q f w := fun a ha => wp_exit ⟨f, ha, h⟩

theorem W.cond {c : Operand} {x y : Code} {t : Bool} (hc : evF f c = .bool t) (ht : t = true → W P n x Q f w) (hf : t = false → W P n y Q f w) : W P n (.cond c x y) Q f w :=
  fun a ha => wp_cond_split (t := t) (by rw [ha.eval]; exact hc) (fun e => ht e a ha) (fun e => hf e a ha)
theorem W.cond_true {c : Operand} {x y : Code} (hc : evF f c = .bool true) (h : W P n x Q f w) : W P n (.cond c x y) Q f w :=
  W.cond hc (fun _ => h) (fun e => by cases e)
theorem W.cond_false {c : Operand} {x y : Code} (hc : evF f c = .bool false) (h : W P n y Q f w) : W P n (.cond c x y) Q f w :=
  W.cond hc (fun e => by cases e) (fun _ => h)

theorem W.block {id : Nat} {c : Code} (h : W P n c (blockF id Q) f w) : W P n (.block id c) Q f w := by
  intro a ha
  refine wp_block (wp_mono (h a ha) ?_)
  rintro e a' w' ⟨g, hg, hq⟩
  cases e with
  | exit id' =>
    by_cases hid : id' = id
    · simp only [blockF, hid, if_true] at hq
      simp only [Exit.inBlock, hid, if_true]
      exact ⟨g, hg, hq⟩
    · simp only [blockF, hid, if_false] at hq
      simp only [Exit.inBlock, hid, if_false]
      exact ⟨g, hg, hq⟩
  | _ => exact ⟨g, hg, hq⟩

def updL (f : Fr) : List Nat → List Value → Fr
  | i :: S, v :: vs => upd (updL f S vs) i v
  | _, _ => f
theorem updL_self (f : Fr) : ∀ S : List Nat, updL f S (S.map f) = f
  | [] => rfl
  | i :: S => by
    funext t
    by_cases e : i = t
    · subst e; simp only [List.map_cons, updL, upd_same]
    · simp only [List.map_cons, updL, upd_ne _ _ e, updL_self f S]

theorem W.loop {c : Code} (S : List Nat) (I : List Value → World → Prop) (μ : List Value → World → Nat) (h0 : I (S.map f) w)
    (round : ∀ g vals w1, I vals w1 → W P n c (thenF (fun f' w' => I (S.map f') w' ∧ μ (S.map f') w' < μ vals w1) Q) (updL g S vals) w1) :
    W P n (.loop c) Q f w := by
  intro a ha
  refine wp_loop (fun a' w' => ∃ f', Is n a' f' ∧ I (S.map f') w') (fun a' w' => μ (S.map fun t => a'.tmps.getD t undef) w') ⟨f, ha, h0⟩ ?_
  rintro a1 w1 ⟨f1, h1, hI⟩
  have hr := round f1 (S.map f1) w1 hI
  rw [updL_self] at hr
  refine wp_mono (hr a1 h1) ?_
  rintro e a' w' ⟨g, hg, hq⟩
  have hm : ∀ {a : Act} {f : Fr}, Is n a f → (S.map fun t => a.tmps.getD t undef) = S.map f := fun h => List.map_congr_left fun t _ => h.at_ t
  cases e with
  | normal => exact ⟨⟨g, hg, hq.1⟩, by rw [hm hg, hm h1]; exact hq.2⟩
  | _ => exact ⟨g, hg, hq⟩

/-- What stands before is forgotten but for the slots of S. -/
theorem W.cut {c : Code} (S : List Nat) (I : List Value → World → Prop) (h0 : I (S.map f) w) (h : ∀ g vals w1, I vals w1 → W P n c Q (updL g S vals) w1) : W P n c Q f w := by
  have := h f (S.map f) w h0
  rwa [updL_self] at this

/- operations -/
structure OpT (P : Program) (o : Oper) (g : Fr) (w : World) (K : Value → World → Prop) : Prop where
  go : ∀ (a : Act) (Q : Exit → Act → World → Prop), a.eval = evF g → o.wp P a w (fun a' w' => ∃ v, a' = a.put o.dst v ∧ K v w') Q

theorem OpT.mono {o : Oper} {g : Fr} {K K' : Value → World → Prop} (h : OpT P o g w K) (hk : ∀ v w, K v w → K' v w) : OpT P o g w K' :=
  ⟨fun a Q ha => Oper.wp_mono (fun _ _ ⟨v, e, k⟩ => ⟨v, e, hk _ _ k⟩) (h.go a Q ha)⟩

theorem OpT.run {o : Oper} {g : Fr} {K : Value → World → Prop} {v : Value} {w' : World} (hr : (execOp (evF g) o).run P w = .ok (.value v) w') (k : K v w') : OpT P o g w K := by
  refine ⟨fun a Q ha => ?_⟩
  unfold Oper.wp
  rw [ha, hr]
  exact ⟨v, rfl, k⟩
theorem OpT.runSkip {o : Oper} {g : Fr} {K : Value → World → Prop} {w' : World} (hr : (execOp (evF g) o).run P w = .ok .skip w') (k : K undef w') : OpT P o g w K := by
  refine ⟨fun a Q ha => ?_⟩
  unfold Oper.wp
  rw [ha, hr]
  exact ⟨undef, rfl, k⟩
theorem OpT.enter {o : Oper} {g : Fr} {K : Value → World → Prop} {w' : World} {fn : FuncId} {args : Array Value} (hr : (execOp (evF g) o).run P w = .ok (.enter fn args) w')
    (k : Calls P fn args w' fun e w'' => ∃ v, e = .returned v ∧ K v w'') : OpT P o g w K := by
  refine ⟨fun a Q ha => ?_⟩
  unfold Oper.wp
  rw [ha, hr, Oper.upon_enter]
  refine Calls.mono k ?_
  rintro e w'' ⟨v, rfl, hk⟩
  exact ⟨v, rfl, hk⟩

def SeqOps (P : Program) (n : Nat) (ops : Array Oper) (Q : Post) (l : List Oper) (f : Fr) (w : World) : Prop := ∀ a, Is n a f → wpList P ops (liftQ n Q) l a w

theorem SeqOps.nil {ops : Array Oper} (h : Q .normal f w) : SeqOps P n ops Q [] f w := fun a ha => wpList_nil ⟨f, ha, h⟩

theorem SeqOps.cons {ops : Array Oper} {o : Oper} {rest : List Oper} (hg : o.guard = none) (hd : dstOk n o.dst = true)
    (h : OpT P o f w fun v w' => SeqOps P n ops Q rest (putF f o.dst v) w') : SeqOps P n ops Q (o :: rest) f w := by
  intro a ha
  refine wpList_plain hg fun K hK => ?_
  refine Oper.wp_mono ?_ (h.go a _ ha.eval)
  rintro a' w' ⟨v, rfl, hs⟩
  exact hK _ _ (hs _ (ha.put hd v))

theorem SeqOps.put {ops : Array Oper} {o : Oper} {rest : List Oper} (d : Nat) (hg : o.guard = none) (hdst : o.dst = some d) (hd : Nat.blt d n = true)
    (h : OpT P o f w fun v w' => SeqOps P n ops Q rest (upd f d v) w') : SeqOps P n ops Q (o :: rest) f w :=
  SeqOps.cons hg (by simp [dstOk, hdst]; exact Nat.le_of_ble_eq_true hd) (by rw [hdst]; exact h)
theorem SeqOps.eff {ops : Array Oper} {o : Oper} {rest : List Oper} (hg : o.guard = none) (hdst : o.dst = none)
    (h : OpT P o f w fun _ w' => SeqOps P n ops Q rest f w') : SeqOps P n ops Q (o :: rest) f w :=
  SeqOps.cons hg (by simp [dstOk, hdst]) (by rw [hdst]; exact h)

/-- What a guard looks at. -/
def guardF (ops : Array Oper) (f : Fr) (j : Nat) : Option Bool :=
  match (ops[j]?).bind (·.dst) with
  | some t => match f t with | .bool b => some b | _ => none
  | none => none

theorem Is.yielded {a : Act} (ha : Is n a f) (ops : Array Oper) (j : Nat) : yielded ops a.tmps j = guardF ops f j := by
  unfold Go.yielded guardF
  cases h : (ops[j]?).bind (·.dst) with
  | none => simp
  | some t =>
    simp only [Option.bind_some]
    rw [← ha.at_ t]
    by_cases hlt : t < a.tmps.size
    · simp only [Array.getElem?_eq_getElem hlt, Array.getD, hlt]
      simp only [dite_true, Array.getInternal_eq_getElem]
      cases a.tmps[t] <;> rfl
    · have h1 : a.tmps[t]? = none := Array.getElem?_eq_none (Nat.le_of_not_lt hlt)
      have h2 : a.tmps.getD t undef = undef := by simp [h1]
      rw [h1, h2]
      rfl

theorem SeqOps.cons_on {ops : Array Oper} {o : Oper} {rest : List Oper} {j : Nat} {b : Bool} (hg : o.guard = some (j, b)) (hy : guardF ops f j = some b) (hd : dstOk n o.dst = true)
    (h : OpT P o f w fun v w' => SeqOps P n ops Q rest (putF f o.dst v) w') : SeqOps P n ops Q (o :: rest) f w := by
  intro a ha
  refine wpList_step fun K hK => ?_
  rw [if_pos (by simp [Region.wanted, hg, ha.yielded, hy])]
  refine Oper.wp_mono ?_ (h.go a _ ha.eval)
  rintro a' w' ⟨v, rfl, hs⟩
  exact hK _ _ (hs _ (ha.put hd v))

theorem SeqOps.cons_off {ops : Array Oper} {o : Oper} {rest : List Oper} {j : Nat} {b c : Bool} (hg : o.guard = some (j, b)) (hy : guardF ops f j = some c) (hbc : c ≠ b) (hd : dstOk n o.dst = true)
    (h : SeqOps P n ops Q rest (putF f o.dst undef) w) : SeqOps P n ops Q (o :: rest) f w := by
  intro a ha
  refine wpList_step fun K hK => ?_
  rw [if_neg (by simp [Region.wanted, hg, ha.yielded, hy, hbc])]
  exact hK _ _ (h _ (ha.put hd undef))

theorem SeqOps.cons_off' {ops : Array Oper} {o : Oper} {rest : List Oper} {j : Nat} {b : Bool} (hg : o.guard = some (j, b)) (hy : guardF ops f j = none) (hd : dstOk n o.dst = true)
    (h : SeqOps P n ops Q rest (putF f o.dst undef) w) : SeqOps P n ops Q (o :: rest) f w := by
  intro a ha
  refine wpList_step fun K hK => ?_
  rw [if_neg (by simp [Region.wanted, hg, ha.yielded, hy])]
  exact hK _ _ (h _ (ha.put hd undef))

theorem SeqOps.put_on {ops : Array Oper} {o : Oper} {rest : List Oper} (d : Nat) {j : Nat} {b : Bool} (hg : o.guard = some (j, b)) (hy : guardF ops f j = some b) (hdst : o.dst = some d) (hd : Nat.blt d n = true)
    (h : OpT P o f w fun v w' => SeqOps P n ops Q rest (upd f d v) w') : SeqOps P n ops Q (o :: rest) f w :=
  SeqOps.cons_on hg hy (by simp [dstOk, hdst]; exact Nat.le_of_ble_eq_true hd) (by rw [hdst]; exact h)
theorem SeqOps.put_off {ops : Array Oper} {o : Oper} {rest : List Oper} (d : Nat) {j : Nat} {b c : Bool} (hg : o.guard = some (j, b)) (hy : guardF ops f j = some c) (hbc : (c == b) = false) (hdst : o.dst = some d) (hd : Nat.blt d n = true)
    (h : SeqOps P n ops Q rest (upd f d undef) w) : SeqOps P n ops Q (o :: rest) f w :=
  SeqOps.cons_off hg hy (by intro e; subst e; simp at hbc) (by simp [dstOk, hdst]; exact Nat.le_of_ble_eq_true hd) (by rw [hdst]; exact h)
theorem SeqOps.put_off' {ops : Array Oper} {o : Oper} {rest : List Oper} (d : Nat) {j : Nat} {b : Bool} (hg : o.guard = some (j, b)) (hy : guardF ops f j = none) (hdst : o.dst = some d) (hd : Nat.blt d n = true)
    (h : SeqOps P n ops Q rest (upd f d undef) w) : SeqOps P n ops Q (o :: rest) f w :=
  SeqOps.cons_off' hg hy (by simp [dstOk, hdst]; exact Nat.le_of_ble_eq_true hd) (by rw [hdst]; exact h)

theorem W.region {id : Nat} {l : List Oper} (h : SeqOps P n l.toArray Q l f w) : W P n (.region id l.toArray false) Q f w :=
  fun a ha => wp_region_lit (h a ha)
end

section
variable {P : Program} {n : Nat} {w : World}
def retQ (P : Program) (fn : Func) (R : Ending → World → Prop) : Post
  | .normal, f, w | .ret, f, w => ∀ tmps : Array Value, (∀ t, tmps.getD t undef = f t) → ∃ v, (results fn tmps).run P w = .ok v w ∧ R (.returned v) w
  | .panic chain, _, w => R (.panicked chain) w
  | .outgrown, _, w => R .outgrown w
  | _, _, _ => False

theorem calls_of_W {fnId : FuncId} {fn : Func} {c : Code} {args : Array Value} {R : Ending → World → Prop} (hf : P.funcs[fnId]? = some fn) (hb : fn.body = some c) (hn : fn.ntmps = n)
    (hle : args.size ≤ n) (h : W P n c (retQ P fn R) (argF args) w) : Calls P fnId args w R := by
  refine calls_of_wp hf hb ?_
  subst hn
  have his : Is fn.ntmps { tmps := args ++ Array.replicate (fn.ntmps - args.size) undef, defers := [] } (argF args) := by
    refine ⟨by simp; omega, rfl, fun t => ?_⟩
    by_cases hlt : t < args.size
    · simp [argF, Array.getElem?_append, hlt]
    · by_cases h2 : t < fn.ntmps
      · simp [argF, Array.getElem?_append, hlt, show t - args.size < fn.ntmps - args.size by omega]
      · simp [argF, Array.getElem?_append, hlt, show ¬ t - args.size < fn.ntmps - args.size by omega]
  refine wp_mono (h _ his) ?_
  rintro e a' w' ⟨g, hg, hq⟩
  cases e with
  | normal => exact ⟨hg.defers, hq a'.tmps hg.at_⟩
  | ret => exact ⟨hg.defers, hq a'.tmps hg.at_⟩
  | panic ch => exact ⟨hg.defers, hq⟩
  | exit id => exact hq
  | goto l => exact hq
  | outgrown => exact hq

theorem retQ_one {fn : Func} {R : Ending → World → Prop} {f : Fr} {t : Tmp} (h : fn.results = #[.tmp t]) {v : Value} (hv : f t = v) (hR : R (.returned v) w) : retQ P fn R .ret f w :=
  fun tmps ht => ⟨v, by rw [results_tmp h, ht, hv], hR⟩
theorem retQ_two {fn : Func} {R : Ending → World → Prop} {f : Fr} {t u : Tmp} (h : fn.results = #[.tmp t, .tmp u]) {v v' : Value} (hv : f t = v) (hv' : f u = v') (hR : R (.returned (.tuple #[v, v'])) w) : retQ P fn R .ret f w :=
  fun tmps ht => ⟨_, by rw [results_tmp2 h, ht, ht, hv, hv'], hR⟩
theorem retQ_none {fn : Func} {R : Ending → World → Prop} {f : Fr} (h : fn.results = #[]) (hR : R (.returned (.tuple #[])) w) : retQ P fn R .normal f w :=
  fun tmps _ => ⟨_, results_none h _ _ _, hR⟩
end
end Go.Proofs.YtddpmpbngcbokaaGreatDoor

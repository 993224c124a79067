/- Loops with a ghost, calls of the model's entries, calls through an interface. -/
import Derived.Test.YtddpmpbngcbokaaGreatDoorOps2
import Derived.LaidEqlPtr
import Derived.Stop.Asserts
import Derived.Laws.Externs
namespace Go.Proofs.YtddpmpbngcbokaaGreatDoor
open Go Go.RowKit

theorem exists_least (p : Nat → Prop) : ∀ n, p n → ∃ m, p m ∧ ∀ k, p k → m ≤ k := by
  intro n
  induction n using Nat.strongRecOn with
  | _ n ih =>
    intro hn
    by_cases h : ∃ k, k < n ∧ p k
    · obtain ⟨k, hk, hp⟩ := h
      exact ih k hk hp
    · exact ⟨n, hn, fun k hk => Nat.le_of_not_lt fun hlt => h ⟨k, hlt, hk⟩⟩
open Classical in
noncomputable def least (p : Nat → Prop) : Nat := if h : ∃ m, p m ∧ ∀ k, p k → m ≤ k then h.choose else 0
theorem least_spec {p : Nat → Prop} {n : Nat} (h : p n) : p (least p) ∧ ∀ k, p k → least p ≤ k := by
  have h' := exists_least p n h
  unfold least
  rw [dif_pos h']
  exact h'.choose_spec

/-- A loop whose measure hangs on a ghost. -/
theorem W.loopG {P : Program} {n : Nat} {Q : Post} {f : Fr} {w : World} {c : Code} {G : Type} (S : List Nat) (I : G → List Value → World → Prop) (μ : G → Nat) (g0 : G) (h0 : I g0 (S.map f) w)
    (round : ∀ gh g vals w1, I gh vals w1 → W P n c (thenF (fun f' w' => ∃ gh', I gh' (S.map f') w' ∧ μ gh' < μ gh) Q) (updL g S vals) w1) :
    W P n (.loop c) Q f w := by
  refine W.loop S (fun vals w1 => ∃ gh, I gh vals w1) (fun vals w1 => least fun m => ∃ gh, I gh vals w1 ∧ μ gh = m) ⟨g0, h0⟩ ?_
  rintro g vals w1 ⟨gh, hI⟩
  obtain ⟨⟨gm, hgm, hm⟩, hmin⟩ := least_spec (p := fun m => ∃ gh, I gh vals w1 ∧ μ gh = m) ⟨gh, hI, rfl⟩
  refine W.mono (round gm g vals w1 hgm) ?_
  intro e f' w' h
  cases e with
  | normal =>
    obtain ⟨g2, h2, hlt⟩ := h
    have := (least_spec (p := fun m => ∃ gh, I gh (S.map f') w' ∧ μ gh = m) ⟨g2, h2, rfl⟩).2 (μ g2) ⟨g2, h2, rfl⟩
    refine ⟨⟨g2, h2⟩, ?_⟩
    show (least fun m => ∃ gh, I gh (S.map f') w' ∧ μ gh = m) < (least fun m => ∃ gh, I gh vals w1 ∧ μ gh = m)
    omega
  | _ => exact h

theorem thenF_ret {K : Fr → World → Prop} {Q : Post} {f : Fr} {w : World} : thenF K Q .ret f w = Q .ret f w := rfl
theorem blockF_ret {id : Nat} {Q : Post} {f : Fr} {w : World} : blockF id Q .ret f w = Q .ret f w := rfl
section
variable {P : Program} {g : Fr} {w : World} {K : Value → World → Prop} {o : Oper}
theorem O.here {v : Value} (hr : (execOp (evF g) o).run P w = .ok (.value v) w) (k : K v w) : OpT P o g w K := OpT.run hr k
theorem O.extern {x : Operand} {as : List Operand} {ts : Array TypeId} {fid : FuncId} {args : List Value} {v : Value} {w' : World} (ho : o.op = .call { callee := .value x, args := as.toArray, argTypes := ts }) (hx : evF g x = .func (.func fid) #[] #[])
    (has : as.map (evF g) = args) (hr : (callFunc fid args.toArray).run P w = .ok (.value v) w') (k : K v w') : OpT P o g w K := by
  subst has
  refine OpT.run (v := v) (w' := w') ?_ k
  simp only [execOp, ho, resolve, hx, Deferred.ofValue]
  simpa [invoke] using hr
theorem invoke_method (P : Program) (r : Value) (name : String) (args : List Value) (w : World) : (Go.invoke (.fn (.method name) #[]) (#[r] ++ args.toArray)).run P w = (callMethod r name args.toArray).run P w := by
  have h : (#[r] ++ args.toArray).extract 1 (#[r] ++ args.toArray).size = args.toArray := by
    apply Array.toList_inj.1
    simp
  simp only [Go.invoke]
  rw [h]
  simp
theorem O.invoke {x : Operand} {as : List Operand} {ts : Array TypeId} {name : String} {r : Value} {args : List Value} {v : Value} {w' : World} (ho : o.op = .call { callee := .invoke x name, args := as.toArray, argTypes := ts }) (hx : evF g x = r)
    (has : as.map (evF g) = args) (hr : (callMethod r name args.toArray).run P w = .ok (.value v) w') (k : K v w') : OpT P o g w K := by
  subst has hx
  refine OpT.run (v := v) (w' := w') ?_ k
  have h := invoke_method P (evF g x) name (as.map (evF g)) w
  rw [hr] at h
  simp only [execOp, ho, resolve]
  simpa using h
theorem O.invokeC {x : Operand} {as : List Operand} {ts : Array TypeId} {name : String} {r : Value} {args : List Value} {fid : FuncId} {cargs : Array Value} (ho : o.op = .call { callee := .invoke x name, args := as.toArray, argTypes := ts }) (hx : evF g x = r)
    (has : as.map (evF g) = args) (hr : (callMethod r name args.toArray).run P w = .ok (.enter fid cargs) w) (k : Calls P fid cargs w fun e w'' => ∃ v, e = .returned v ∧ K v w'') : OpT P o g w K := by
  subst has hx
  refine OpT.enter (w' := w) (fn := fid) (args := cargs) ?_ k
  have h := invoke_method P (evF g x) name (as.map (evF g)) w
  rw [hr] at h
  simp only [execOp, ho, resolve]
  simpa using h
theorem O.typeAssert {x : Operand} {T1 T2 : TypeId} {u r : Value} (ho : o.op = .typeAssert x T1 T2 true) (hx : evF g x = u) (hr : (Instr.typeAssert u T1 T2 true).run P w = .ok r w) (k : K r w) : OpT P o g w K := by
  subst hx
  exact OpT.run (v := r) (w' := w) (by simp [execOp, ho, hr]) k
theorem O.ifaceEq {op : BinOp} {T T' t1 t2 : TypeId} {x y : Operand} {v1 v2 r : Value} (ho : o.op = .binOp op T x y T') (hx : evF g x = .iface t1 v1) (hy : evF g y = .iface t2 v2) (hop : op = .eql) (hr : (binOp op T (.iface t1 v1) (.iface t2 v2)).run P w = .ok r w) (k : K r w) : OpT P o g w K := by
  subst hop
  refine OpT.run (v := r) (w' := w) ?_ k
  simp [execOp, ho, hx, hy, hr, eqGuard]
end
end Go.Proofs.YtddpmpbngcbokaaGreatDoor

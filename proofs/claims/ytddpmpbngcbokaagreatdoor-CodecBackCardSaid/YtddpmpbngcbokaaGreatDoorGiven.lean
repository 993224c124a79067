/- What the rows' lists and arguments give the walks. -/
import Derived.Test.YtddpmpbngcbokaaGreatDoorTold
import Derived.Test.YtddpmpbngcbokaaGreatDoorRows
import Derived.ProofKit
import Derived.OpenShut
import Derived.SizedLaws
import Derived.LaidMore
import Derived.LaidHandle
import Derived.Stop.LaidTwo
import Derived.Deep.DeepHandedRow
import Derived.Deep.DeepWitnessRowRef
namespace Go.Proofs.YtddpmpbngcbokaaGreatDoor
open Go Go.ChangeShapes Go.WideShapes Go.ChangeAt Go.RowKit
set_option maxRecDepth 100000

theorem gOwn : ownKnob Tryz.prog.godebug = none := by kernel_rfl
theorem gLaidOut : laidOutB Tryz.prog = true := by kernel_rfl
theorem gErrT : Tryz.prog.globalNamed "errors.errorType" = some 2 := by kernel_rfl
theorem gErrF : Tryz.prog.globalNamed "wapentake/codec.errForm" = some 1 := by kernel_rfl
theorem gErrB : Tryz.prog.globalNamed "wapentake/codec.errBytes" = some 0 := by kernel_rfl
theorem gErrFType : (Tryz.prog.globals[1]?).map (·.type) = some 162 := by kernel_rfl
theorem gErrBType : (Tryz.prog.globals[0]?).map (·.type) = some 162 := by kernel_rfl
theorem gStar : "*" ++ "errors.errorString" = "*errors.errorString" := by decide
theorem gRow (u : TypeId) (h : Tryz.prog.typeName? 3 u = some "*errors.errorString") : u = 248 :=
  typeName_ptr_named (nm := "errors.errorString") (by rw [gStar]; kernel_rfl) (by kernel_rfl) (by decide) u (by rw [gStar]; exact h)
theorem gRtype : (Tryz.prog.cutTypes.find? (·.1 == "internal/reflectlite.rtype")).map (·.2) = some 233 := by kernel_rfl
theorem gTypes : Tryz.prog.types.size = 281 := by kernel_rfl
theorem gOneRow : ((List.range 281).filter fun t => Tryz.prog.rowNamed t [101, 114, 114, 111, 114]) = [162] := by kernel_rfl
theorem gCells8 : Tryz.prog.cellsOf 5 = 1 := by kernel_rfl
theorem gCellsS : Tryz.prog.cellsOf 9 = 1 := by kernel_rfl
theorem gCellsE : Tryz.prog.cellsOf 269 = 1 := by kernel_rfl
theorem gBytes8 : Tryz.prog.bytesOf 5 = 1 := by kernel_rfl

/-- What the list gives: the cells of the three variables. -/
theorem globs_of_laid {W : World} (h : laidMetH Tryz.prog [("errors.errorType", Rows.laid_errors_errorType), ("wapentake/codec.errForm", Rows.laid_wapentake_codec_errForm), ("wapentake/codec.errBytes", Rows.laid_wapentake_codec_errBytes)] W) : ∃ aF aB, Globs aF aB (hfOf W) := by
  have h' : laidMet Tryz.prog [("wapentake/codec.errForm", Rows.laid_wapentake_codec_errForm), ("wapentake/codec.errBytes", Rows.laid_wapentake_codec_errBytes)] W ∧ handlesMet Tryz.prog [("errors.errorType", Rows.laid_errors_errorType)] W := h
  obtain ⟨name, u, ty, e1, e2, e3, e4, e5⟩ := h'.2 _ (List.mem_singleton.2 rfl)
  have en : name = [101, 114, 114, 111, 114] := (Option.some.inj e1).symm
  subst en
  obtain rfl := Option.some.inj (gRtype.symm.trans e2)
  have hm : ty ∈ (List.range 281).filter fun t => Tryz.prog.rowNamed t [101, 114, 114, 111, 114] := List.mem_filter.2 ⟨List.mem_range.2 (by rw [← gTypes]; exact e3), e4⟩
  rw [gOneRow] at hm
  obtain rfl := List.mem_singleton.1 hm
  have hh : typeHandle Tryz.prog 162 = .pointer (some ⟨3, 162, none⟩) := by kernel_rfl
  rw [hh] at e5
  obtain ⟨aF, aB, s0, s1, c0, c1, t0, t1, hv0, hv1, _, _, _, _, _, _, hne, hb0, hb1⟩ := laid_sentinels2 h'.1 gErrF gErrFType gErrB gErrBType Tryz.underlying162 gRow Tryz.underlying248 Tryz.underlying269 rfl rfl Tryz.underlying9 gCellsE gCellsS
  exact ⟨aF, aB, by rw [hcell_hf]; simpa using World.var?_cell gErrF hv0 0, by rw [hcell_hf]; simpa using World.var?_cell gErrB hv1 0, by rw [hcell_hf]; simpa using World.var?_cell gErrT e5 0, hne, ⟨c0, t0, hb0⟩, ⟨c1, t1, hb1⟩⟩

/-- An argument that is a slice of bytes. -/
theorem bytes_of_trod {H : Type} {enc : TypeId × Value → H} {W : World} {base : Nat} {v : Value} {d : DataW H} {p : List MemPlace} (hok : Value.okWide Tryz.prog W .any base 22 v) (h : DataW.Trod enc Tryz.prog W 0 (fun _ => true) true 22 v d p) :
    ∃ bs : List UInt8, RB (hfOf W) v bs ∧ ((d = .nil ∧ bs = []) ∨ ∃ (zs : List Int) (rest : List (DataW H)), d = .slice (lits .u8 zs) rest ∧ zs.length = bs.length) := by
  obtain ⟨a0, len, cap, rfl⟩ := okWide_slice Tryz.underlying22 hok
  obtain ⟨fuel, hf⟩ := h
  rcases open_ints Tryz.underlying22 Tryz.underlying5 gCells8 hf with ⟨hcs, hx⟩ | ⟨a, len', cap', zs, hcs, _, hl, hm, hz, hx, hcell, hwz⟩
  · simp [Value.cells] at hcs
    obtain ⟨rfl, rfl, rfl⟩ := hcs
    simp only [Prod.mk.injEq] at hx
    exact ⟨[], RS.nil _, .inl ⟨hx.1, rfl⟩⟩
  · simp [Value.cells] at hcs
    obtain ⟨rfl, rfl, rfl⟩ := hcs
    simp only [Prod.mk.injEq] at hx
    simp only [if_true] at hz
    have hlen : (zs.take len).length = len := by simp; omega
    refine ⟨(zs.take len).map fun z => UInt8.ofNat z.toNat, ?_, .inr ⟨zs.take len, lits .u8 (zs.drop len), hx.1, by simp⟩⟩
    unfold RB
    rw [List.length_map, hlen]
    refine ⟨some a, cap, rfl, hl, hm, (fun e => by cases e), ?_, ?_⟩
    · intro u hu
      obtain ⟨b, _, rfl⟩ := List.mem_map.1 hu
      rfl
    · intro j u hu
      have hj : j < len := by
        have := (List.getElem?_eq_some_iff.1 hu).1
        simp only [bcs, List.length_map] at this
        omega
      refine ⟨a, rfl, ?_⟩
      rw [hcell_hf, hcell j (by omega)]
      have hzj : zs[j]? = some (zs.getD j 0) := by simp [List.getElem?_eq_getElem (show j < zs.length by omega)]
      have hw := hwz (zs.getD j 0) (List.mem_of_getElem? hzj)
      have hu' : u = bc (UInt8.ofNat (zs.getD j 0).toNat) := by
        simp only [bcs, List.getElem?_map, List.getElem?_take, hj, if_true, hzj, Option.map_some, Option.some.injEq] at hu
        exact hu.symm
      rw [hu']
      have hr : 0 ≤ zs.getD j 0 ∧ zs.getD j 0 < 256 := by
        generalize zs.getD j 0 = z at hw ⊢
        simp only [Lit.wf, IntKind.min, IntKind.max, IntKind.bits, IntKind.signed, Bool.and_eq_true, decide_eq_true_eq] at hw
        simp at hw
        omega
      unfold bc
      rw [UInt8.toNat_ofNat']
      congr 2
      omega
end Go.Proofs.YtddpmpbngcbokaaGreatDoor

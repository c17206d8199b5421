import Derived.Test.YtdpnnglfaofjeaaDoorSL
import Derived.Test.YtdpnnglfaofjeaaDoorRows
import Derived.Lib.LaidU8
import Derived.Lib.LaidTab
import Derived.Shelf.Vars
import Derived.Deep.DeepHandedRow
import Derived.LaidSub
import Derived.Lay
import Derived.OpenShut
namespace Go.Proofs.YtdpnnglfaofjeaaDoor.Z
open Go.RowKit Go.Proofs.YtdpnnglfaofjeaaDoorW.PrintWords
set_option linter.unusedVariables false
set_option linter.unusedSimpArgs false
set_option maxRecDepth 1000000

theorem n4 : Tryd.prog.globalNamed "unicode/utf8.first" = some 4 := by kernel_rfl
theorem y4 : (Tryd.prog.globals[4]?).map (·.type) = some 136 := by kernel_rfl
theorem n5 : Tryd.prog.globalNamed "unicode/utf8.acceptRanges" = some 5 := by kernel_rfl
theorem y5 : (Tryd.prog.globals[5]?).map (·.type) = some 139 := by kernel_rfl
theorem c5 : Tryd.prog.cellsOf 5 = 1 := by kernel_rfl
theorem c136 : Tryd.prog.cellsOf 136 = 256 := by kernel_rfl
theorem c138 : Tryd.prog.cellsOf 138 = 2 := by kernel_rfl
theorem first_data : (Rows.laid_unicode_utf8_first : DataW Unit) = Lib.firstData := by kernel_rfl
theorem accept_data : (Rows.laid_unicode_utf8_acceptRanges : DataW Unit) = Lib.acceptData := by kernel_rfl
theorem first_same : ∀ p : Nat, p < 256 → (Lib.firstTab)[p]? = some (Z.firstT p) := by decide +kernel
theorem acc_same : ∀ i : Nat, i < 5 → ((Lib.accLo i : Nat) : Int) = Z.loT i ∧ ((Lib.accHi i : Nat) : Int) = Z.hiT i := by decide +kernel
theorem schOK {W : World} (hL : laidMetH Tryd.prog [("unicode/utf8.acceptRanges", Rows.laid_unicode_utf8_acceptRanges), ("unicode/utf8.first", Rows.laid_unicode_utf8_first)] W) (hsh : W.ShapedOpen Tryd.prog) : Z.SchOK W := by
  have h1 : laidMet Tryd.prog [("unicode/utf8.acceptRanges", Rows.laid_unicode_utf8_acceptRanges), ("unicode/utf8.first", Rows.laid_unicode_utf8_first)] W := (laidMetH_iff.1 hL).1
  have h3 := Lib.laidMet.reads h1 (n := "unicode/utf8.first") (d := Rows.laid_unicode_utf8_first) (by simp)
  have h4 := Lib.laidMet.reads h1 (n := "unicode/utf8.acceptRanges") (d := Rows.laid_unicode_utf8_acceptRanges) (by simp)
  rw [first_data] at h3
  rw [accept_data] at h4
  refine ⟨⟨fun p hp => ?_, fun i hi => ?_⟩, Go.Proofs.cell_of_shapedOpen_int (zero := #[.int .i64 0]) (t := 3) hsh (of_decide_eq_true (by kernel_rfl)) (by kernel_rfl) rfl (by kernel_rfl) (by kernel_rfl) Tryd.underlying3⟩
  · obtain ⟨g, t, cs, fuel, p', hg, hty, hvar, hd⟩ := h3
    obtain rfl := Option.some.inj (n4.symm.trans hg)
    obtain rfl := Option.some.inj (y4.symm.trans hty)
    have hcs := Lib.cells_of_tab Tryd.underlying136 Tryd.underlying5 c5 c136 hd
    have := World.var?_cell hg hvar p
    rw [this, ← Array.getElem?_toList, hcs]
    rw [List.getElem?_map, first_same p hp]
    rfl
  · obtain ⟨g, t, cs, fuel, p', hg, hty, hvar, hd⟩ := h4
    obtain rfl := Option.some.inj (n5.symm.trans hg)
    obtain rfl := Option.some.inj (y5.symm.trans hty)
    obtain ⟨fuel', d, q, hdi, he⟩ := Lib.array_elem Tryd.underlying139 hd i (by omega)
    simp only [List.getElem?_map, List.getElem?_range (show i < 16 by omega), Option.map_some, Option.some.injEq] at hdi
    subst hdi
    rw [c138] at he
    have hcs := Lib.ints_of_struct Tryd.underlying138 (fun j f hj => by
      match j, hj with
      | 0, hj => simp at hj; subst hj; exact ⟨Tryd.underlying5, rfl, c5⟩
      | 1, hj => simp at hj; subst hj; exact ⟨Tryd.underlying5, rfl, c5⟩
      | j + 2, hj => simp at hj) (by rw [c138]; rfl) he
    have e0 := congrArg (·[0]?) hcs
    have e1 := congrArg (·[1]?) hcs
    simp only [List.getElem?_take, List.getElem?_drop] at e0 e1
    obtain ⟨a0, a1⟩ := acc_same i hi
    rw [← a0, ← a1]
    constructor
    · rw [World.var?_cell hg hvar (i * 2), ← Array.getElem?_toList]
      simpa [Nat.mul_comm] using e0
    · rw [World.var?_cell hg hvar (i * 2 + 1), ← Array.getElem?_toList]
      simpa [Nat.mul_comm] using e1
end Go.Proofs.YtdpnnglfaofjeaaDoor.Z

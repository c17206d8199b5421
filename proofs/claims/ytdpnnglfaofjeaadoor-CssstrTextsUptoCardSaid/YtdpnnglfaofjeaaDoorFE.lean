import Derived.Test.YtdpnnglfaofjeaaDoorFD
namespace Go.Proofs.YtdpnnglfaofjeaaDoor.U
open Go.RowKit Go.Proofs.YtdpnnglfaofjeaaDoorW.PrintWords Go.Proofs.YtdpnnglfaofjeaaDoorW.PrintLast Go.Proofs.YtdpnnglfaofjeaaDoorW.PrintMore
set_option linter.unusedVariables false
set_option linter.unusedSimpArgs false
set_option maxRecDepth 100000

theorem rb_string {B : Nat} {W : World} {A : Option Addr} {n c : Nat} {l : List Int} (h : Kd.C (Kd.int .u8) W A n l) : (convert 22 9 (.slice A n c)).run Tryd.prog W = .ok (.string (strOfNums l)) W := Kd.C_string (P := Tryd.prog) Tryd.underlying22 Tryd.underlying5 Tryd.underlying9 h
set_option maxHeartbeats 4000000 in
theorem units_calls (w : World) (h : TabOK w) : Calls Tryd.prog 3 #[] w fun e w' => e = .returned (.bool true) ∧ Below w.heap.size w w' := by
  go_enter Tryd.func3, Tryd.ntmps3
  go_wp2_with fail
  go_loopw [1] (fun v1 wr => ∃ i : Nat, v1 = .int .i64 (i : Int) ∧ i ≤ 256 ∧ Below w.heap.size w wr) (fun v1 _ => match v1 with | .int _ i => 256 - i.toNat | _ => 0)
  case atStart => exact ⟨0, rfl, by omega, Below.refl _ _⟩
  case round =>
    obtain ⟨i, rfl, hi, hb⟩ := hrel
    by_cases hlt : i < 256
    · have hw : IntKind.u8.wrap (i : Int) = (i : Int) := by rw [IntKind.wrap_u8]; omega
      have hir : 0 ≤ (i : Int) ∧ (i : Int) ≤ 255 := by omega
      have hil : (i : Int) < 256 := by omega
      have hbd := below_drew hb
      have hun := fun W hW => unit_calls (i : Int) hir W hW
      have hru := fun W => ref_unit_calls (i : Int) hir W
      have hub : Hid (∀ W : World, TabOK W → Calls Tryd.prog 24 #[.int .u8 (i : Int)] W (UnitIs W (i : Int))) := Lib.hid hun
      clear hun
      go_wp2_with fail
      go_region_with (first
        | (go_at_call 24; go_loud (
            refine (unit_calls (i : Int) hir _ (h.below hbd)).mono ?_
            rintro e w1 ⟨v1, rfl, hr1, hb1⟩
            obtain ⟨A1, c1, rfl, hc1, hC1⟩ := hr1.reads
            have hs1 := rb_string (B := 0) (c := c1) hC1
            have hb1' := below_then hbd hbd.size hb1))
        | (go_at_call 25; go_loud (
            refine (ref_unit_calls (i : Int) hir w1).mono ?_
            rintro e w2 ⟨rfl, hb2⟩
            have hs2 := rb_string (B := 0) (c := c1) (Kd.C_below hC1 hb2)
            have hb2' := below_then hb1' hb1'.size hb2)))
      all_goals go_wp2
      all_goals go_roundw
      all_goals first
        | exact ⟨i + 1, rfl, by omega, hb2'⟩
        | (simp; omega)
    · have hil : ¬ (i : Int) < 256 := by omega
      go_wp2
      go_ret
      exact ⟨rfl, hb⟩
end Go.Proofs.YtdpnnglfaofjeaaDoor.U

import Derived.Test.YtdpnnglfaofjeaaDoorSK
import Derived.Lib.SlBytesConst
namespace Go.Proofs.YtdpnnglfaofjeaaDoor.Z
open Go.RowKit Go.Lib Go.Proofs.YtdpnnglfaofjeaaDoorW.PrintWords Go.Proofs.YtdpnnglfaofjeaaDoorW.PrintLast Go.Proofs.YtdpnnglfaofjeaaDoorW.PrintMore Go.Proofs.YtdpnnglfaofjeaaDoor.PSc
open Go.Proofs.YtdpnnglfaofjeaaDoor.V (RB RB.of_OB RB.lit)
set_option linter.unusedVariables false
set_option linter.unusedSimpArgs false
set_option maxRecDepth 1000000

theorem z_string {W : World} {A : Option Addr} {n c : Nat} {l : List Int} (h : Kd.C (Kd.int .u8) W A n l) : (convert 22 9 (.slice A n c)).run Tryd.prog W = .ok (.string (strOfNums l)) W := Kd.C_string (P := Tryd.prog) Tryd.underlying22 Tryd.underlying5 Tryd.underlying9 h
/-- data:x -/
def dataL : List Int := [100, 97, 116, 97, 58, 120]
theorem pass_data : passL dataL = blockedL := by decide +kernel
theorem bytes_small (l : List Int) (h : ∀ x ∈ l, 0 ≤ x ∧ x ≤ 255) : ∀ j : Nat, 0 ≤ l.getD j 0 ∧ l.getD j 0 ≤ 255 := by
  intro j
  by_cases hj : j < l.length
  · rw [List.getD_eq_getElem?_getD, List.getElem?_eq_getElem hj]
    exact h _ (List.getElem_mem hj)
  · rw [List.getD_eq_getElem?_getD, List.getElem?_eq_none (by omega)]
    simp
set_option maxHeartbeats 4000000 in
theorem awake5_calls (w : World) (hS : SchOK w) : Calls Tryd.prog 37 #[] w fun e w' => e = .returned (.bool true) ∧ Below w.heap.size w w' := by
  have kc := Lib.run_convert_bytes_const (P := Tryd.prog) w 22 5 #[.int .u8 100, .int .u8 97, .int .u8 116, .int .u8 97, .int .u8 58, .int .u8 120] 6 6 Tryd.underlying22 Tryd.underlying5
  have hn := heap_alloc_new w (.cells #[.int .u8 100, .int .u8 97, .int .u8 116, .int .u8 97, .int .u8 58, .int .u8 120] 5 (6, 7))
  obtain ⟨A0, c0, he, hc0, hF⟩ := RB.lit (B := 0) (l := dataL) (c := 6) (by exact hn) (Nat.zero_le _) (by decide) (Nat.le_refl _)
  injection he with h1 h2 h3
  subst h1
  subst h3
  have hC := Kd.F_now hF
  have hb0 := (Below.refl w.heap.size w).alloc (Nat.le_refl _) (.cells #[.int .u8 100, .int .u8 97, .int .u8 116, .int .u8 97, .int .u8 58, .int .u8 120] 5 (6, 7))
  go_enter Tryd.func37, Tryd.ntmps37
  go_wp2_with fail
  refine (pass_calls dataL _ _ _ hC (bytes_small _ (by decide)) (by decide) (hS.below hb0)).mono ?_
  rintro e w1 ⟨v1, rfl, ho1, hb1⟩
  rw [pass_data] at ho1
  obtain ⟨A1, c1, rfl, hc1, hC1⟩ := ho1.reads
  have hs1 := z_string (c := c1) hC1
  have hs2 : (convert 22 9 (.slice A1 blockedL.length c1)).run Tryd.prog w1 = .ok (.string ⟨#[35, 98, 108, 111, 99, 107, 101, 100]⟩) w1 := hs1
  clear hs1
  have hb1' := below_then hb0 hb0.size hb1
  go_wp2
  go_ret
  exact ⟨rfl, hb1'⟩
set_option maxHeartbeats 4000000 in
theorem passes_calls (l : List Int) (A : Option Addr) (c : Nat) (w : World) (hp : Kd.C (Kd.int .u8) w A l.length l) (hc : l.length ≤ c) (hB : ∀ j : Nat, 0 ≤ l.getD j 0 ∧ l.getD j 0 ≤ 255) (hN : l.length ≤ 1099511627776) (hS : SchOK w) :
    Calls Tryd.prog 11 #[.slice A l.length c] w fun e w' => e = .returned (.bool true) ∧ Below w.heap.size w w' := by
  have e1 := pass5_ev l hB (by omega) (l.length + 1) (by omega)
  have e2 := allowed_ev l hB (by omega) (l.length + 1) (by omega)
  have e3 := allowed5_ev l hB (by omega) (l.length + 1) (by omega)
  have e4 : strOfNums (passL l) = if stopped l = true then blockedB else strOfNums l := by
    unfold passL
    split <;> rfl
  rw [← e4] at e1
  have HS := Lib.hid hS
  clear hS e4
  go_enter Tryd.func11, Tryd.ntmps11
  go_wp2_with fail
  go_region_with (first
    | (go_at_call 37; go_loud (
        refine (awake5_calls _ (HS.out.below (below_drew (Below.refl _ _)))).mono ?_
        rintro e w1 ⟨rfl, hb1⟩
        have hb1' := below_then (below_drew (Below.refl w.heap.size w)) (Nat.le_refl _) hb1
        have hp1 := Kd.C_below hp hb1'))
    | (go_at_call 38; go_loud (
        refine (pass_calls l A c w1 hp1 hB hN (HS.out.below hb1')).mono ?_
        rintro e w2 ⟨v2, rfl, ho2, hb2⟩
        obtain ⟨A2, c2, rfl, hc2, hC2⟩ := ho2.reads
        have hs2 := z_string (c := c2) hC2
        have hb2' := below_then hb1' hb1'.size hb2
        have hp2 := Kd.C_below hp hb2'))
    | (go_at_call 39; go_loud (
        refine (bobbinref05_Pass.calls (l.length + 1) A c l (strOfNums (passL l)) w2 hp2 hc e1).mono ?_
        rintro e w3 ⟨rfl, hb3⟩
        have hs3 := z_string (c := c2) (Kd.C_below hC2 hb3)
        have hb3' := below_then hb2' hb2'.size hb3
        have hp3 := Kd.C_below hp hb3'))
    | (go_at_call 40; go_loud (
        refine (scheme_Allowed.calls (l.length + 1) A c l (allowed l) w3 hp3 hc e2).mono ?_
        rintro e w4 ⟨rfl, hb4⟩
        have hb4' := below_then hb3' hb3'.size hb4
        have hp4 := Kd.C_below hp hb4'))
    | (go_at_call 41; go_loud (
        refine (bobbinref05_Allowed.calls (l.length + 1) A c l (allowed l) w4 hp4 hc e3).mono ?_
        rintro e w5 ⟨rfl, hb5⟩
        have hb5' := below_then hb4' hb4'.size hb5)))
  all_goals go_wp2
  all_goals go_ret
  all_goals exact ⟨by first | rfl | simp, hb5'⟩
end Go.Proofs.YtdpnnglfaofjeaaDoor.Z

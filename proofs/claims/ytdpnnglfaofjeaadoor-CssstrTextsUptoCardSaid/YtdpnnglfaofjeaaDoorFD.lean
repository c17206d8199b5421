import Derived.Test.YtdpnnglfaofjeaaDoorFC
import Derived.Deep.RegionWith
namespace Go.Proofs.YtdpnnglfaofjeaaDoor.U
open Go.RowKit Go.Proofs.YtdpnnglfaofjeaaDoorW.PrintWords Go.Proofs.YtdpnnglfaofjeaaDoorW.PrintLast Go.Proofs.YtdpnnglfaofjeaaDoorW.PrintMore
set_option linter.unusedVariables false
set_option linter.unusedSimpArgs false
set_option maxRecDepth 100000

def plainL : List Int := [97, 98, 99, 100, 101, 102, 103, 104, 105, 106, 107, 108, 109, 110, 111, 112, 113, 114, 115, 116, 117, 118, 119, 120, 121, 122, 65, 66, 67, 68, 69, 70, 71, 72, 73, 74, 75, 76, 77, 78, 79, 80, 81, 82, 83, 84, 85, 86, 87, 88, 89, 90, 48, 49, 50, 51, 52, 53, 54, 55, 56, 57, 32, 45, 95, 46, 44]
theorem plain_simple : ∀ x ∈ plainL, simpleB x = true := by decide +kernel
theorem plain_all : ∀ n : Nat, n < 128 → simpleB (n : Int) = true → (n : Int) ∈ plainL := by decide +kernel
theorem plain_at (i : Nat) (h : i < (⟨#[97, 98, 99, 100, 101, 102, 103, 104, 105, 106, 107, 108, 109, 110, 111, 112, 113, 114, 115, 116, 117, 118, 119, 120, 121, 122, 65, 66, 67, 68, 69, 70, 71, 72, 73, 74, 75, 76, 77, 78, 79, 80, 81, 82, 83, 84, 85, 86, 87, 88, 89, 90, 48, 49, 50, 51, 52, 53, 54, 55, 56, 57, 32, 45, 95, 46, 44]⟩ : ByteArray).size) : ((((⟨#[97, 98, 99, 100, 101, 102, 103, 104, 105, 106, 107, 108, 109, 110, 111, 112, 113, 114, 115, 116, 117, 118, 119, 120, 121, 122, 65, 66, 67, 68, 69, 70, 71, 72, 73, 74, 75, 76, 77, 78, 79, 80, 81, 82, 83, 84, 85, 86, 87, 88, 89, 90, 48, 49, 50, 51, 52, 53, 54, 55, 56, 57, 32, 45, 95, 46, 44]⟩ : ByteArray)[i]'h).toNat : Nat) : Int) = plainL.getD i 0 := by
  have h1 : ∀ i : Fin 67, ((((⟨#[97, 98, 99, 100, 101, 102, 103, 104, 105, 106, 107, 108, 109, 110, 111, 112, 113, 114, 115, 116, 117, 118, 119, 120, 121, 122, 65, 66, 67, 68, 69, 70, 71, 72, 73, 74, 75, 76, 77, 78, 79, 80, 81, 82, 83, 84, 85, 86, 87, 88, 89, 90, 48, 49, 50, 51, 52, 53, 54, 55, 56, 57, 32, 45, 95, 46, 44]⟩ : ByteArray)[i.1]'i.2).toNat : Nat) : Int) = plainL.getD i.1 0 := by decide +kernel
  exact h1 ⟨i, h⟩
theorem digs16 (d : Nat) (h : d < (⟨#[48, 49, 50, 51, 52, 53, 54, 55, 56, 57, 97, 98, 99, 100, 101, 102]⟩ : ByteArray).size) : ((((⟨#[48, 49, 50, 51, 52, 53, 54, 55, 56, 57, 97, 98, 99, 100, 101, 102]⟩ : ByteArray)[d]'h).toNat : Nat) : Int) = dig d := by
  have h1 : ∀ i : Fin 16, ((((⟨#[48, 49, 50, 51, 52, 53, 54, 55, 56, 57, 97, 98, 99, 100, 101, 102]⟩ : ByteArray)[i.1]'i.2).toNat : Nat) : Int) = dig i.1 := by decide +kernel
  exact h1 ⟨d, h⟩
theorem str_back (l : List Int) : ({ data := #[92] } : ByteArray) ++ strOfNums l = strOfNums ([92] ++ l) := by
  apply ByteArray.ext
  apply Array.toList_inj.1
  simp [strOfNums]
theorem lit_str (W : World) (l : List Int) (C : Array Value) (hC : C = (nums .u8 l).toArray) (n : Nat) (hn : n = l.length) (hl : l.length ≤ 9223372036854775807) :
    (convert 22 9 (.slice (some ⟨W.heap.size, 0, none⟩) n n)).run Tryd.prog (W.alloc (.cells C 5)) = .ok (.string (strOfNums l)) (W.alloc (.cells C 5)) := by
  subst hC
  subst hn
  obtain ⟨A, c, he, hc, hF⟩ := RB.lit (B := 0) (c := l.length) (heap_alloc_new W (.cells (nums .u8 l).toArray 5)) (Nat.zero_le _) hl (Nat.le_refl _)
  injection he with h1 h2 h3
  subst h1
  subst h3
  exact Kd.C_string (P := Tryd.prog) Tryd.underlying22 Tryd.underlying5 Tryd.underlying9 (Kd.F_now hF)
set_option maxHeartbeats 4000000 in
theorem ref_unit_calls (b : Int) (hb : 0 ≤ b ∧ b ≤ 255) (w : World) : Calls Tryd.prog 25 #[.int .u8 b] w fun e w' => e = .returned (.string (strOfNums (unitL b))) ∧ Below w.heap.size w w' := by
  by_cases h0 : b = 0
  · subst h0
    go_enter Tryd.func25, Tryd.ntmps25
    go_wp2
    go_ret
    exact ⟨rfl, Below.refl _ _⟩
  · by_cases h1 : 128 ≤ b
    · have hstr := lit_str w [b] #[.int .u8 b] rfl 1 rfl (by simp)
      go_enter Tryd.func25, Tryd.ntmps25
      go_wp2
      go_ret
      have e1 : unitL b = [b] := by unfold unitL; rw [if_neg h0, if_pos (by unfold simpleB; simp; omega)]
      rw [e1]
      exact ⟨rfl, (Below.refl _ _).alloc (Nat.le_refl _) _⟩
    · go_enter Tryd.func25, Tryd.ntmps25
      go_wp2
      go_loopw [3] (fun v3 wr => ∃ i : Nat, v3 = .int .i64 (i : Int) ∧ i ≤ 67 ∧ wr = w ∧ ∀ j : Nat, j < i → plainL.getD j 0 ≠ b) (fun v3 _ => match v3 with | .int _ i => 67 - i.toNat | _ => 0)
      case atStart => exact ⟨0, rfl, by omega, rfl, fun j hj => by omega⟩
      case round =>
        obtain ⟨i, rfl, hi, rfl, hne⟩ := hrel
        by_cases hlt : i < 67
        · have hli : (i : Int) < 67 := by omega
          have hpi := plain_at i (show i < 67 from hlt)
          have hmem : plainL.getD i 0 ∈ plainL := by
            have : i < plainL.length := hlt
            rw [List.getD_eq_getElem?_getD, List.getElem?_eq_getElem this]
            exact List.getElem_mem this
          have hne2 : plainL.getD i 0 ≠ b → ∀ j : Nat, j < i + 1 → plainL.getD j 0 ≠ b := fun h j hj => by
            rcases Nat.lt_or_ge j i with h1 | h1
            · exact hne j h1
            · obtain rfl : j = i := by omega
              exact h
          generalize plainL.getD i 0 = cc at hpi hmem hne2
          by_cases hcb : cc = b
          · subst hcb
            have e1 : unitL cc = [cc] := by unfold unitL; rw [if_neg h0, if_pos (plain_simple _ hmem)]
            have hstr := lit_str wr [cc] #[.int .u8 cc] rfl 1 rfl (by simp)
            go_wp2
            go_ret
            exact ⟨rfl, (Below.refl _ _).alloc (Nat.le_refl _) _⟩
          · have hcq : (cc == b) = false := beq_eq_false_iff_ne.2 hcb
            go_wp2
            go_roundw
            case rel => exact ⟨i + 1, rfl, by omega, trivial, hne2 hcb⟩
            case measure => simp; omega
        · obtain rfl : i = 67 := by omega
          obtain ⟨n, rfl⟩ := Int.eq_ofNat_of_zero_le hb.1
          have hns : simpleB (n : Int) = false := by
            cases h : simpleB (n : Int) with
            | false => rfl
            | true =>
              exfalso
              obtain ⟨j, hj, hje⟩ := List.getElem_of_mem (plain_all n (by omega) h)
              exact hne j hj (by rw [List.getD_eq_getElem?_getD, List.getElem?_eq_getElem hj]; exact hje)
          have e1 : unitL (n : Int) = [92] ++ (hexN n ++ [32]) := by unfold unitL; rw [if_neg h0, if_neg (by simp [hns])]; simp
          clear hne
          by_cases h16 : n < 16
          · have hd := digs16 n (show n < 16 from h16)
            have h16' : (n : Int) < 16 := by omega
            rw [hexN_small n h16] at e1
            generalize dig n = dn at hd e1
            have hstr := lit_str wr [dn, 32] #[.int .u8 dn, .int .u8 32] rfl 2 rfl (by simp)
            go_wp2
            go_ret
            rw [e1]
            exact ⟨by rw [← str_back]; rfl, (Below.refl _ _).alloc (Nat.le_refl _) _⟩
          · have hx1 : ¬ (n : Int) < 16 := by omega
            rw [hexN_big n h16, hexN_small (n / 16) (by omega)] at e1
            obtain ⟨m1, hm1, hl1, hl1'⟩ : ∃ m1 : Nat, n / 16 = m1 ∧ m1 < 16 ∧ (m1 : Int) < 16 := ⟨_, rfl, by omega, by omega⟩
            obtain ⟨m2, hm2, hl2, hl2'⟩ : ∃ m2 : Nat, n % 16 = m2 ∧ m2 < 16 ∧ (m2 : Int) < 16 := ⟨_, rfl, by omega, by omega⟩
            rw [hm1, hm2] at e1
            have hq0 : (n : Int).tdiv 16 = (m1 : Int) := by rw [Int.tdiv_eq_ediv_of_nonneg (by omega)]; omega
            have hq1 : IntKind.u8.wrap ((n : Int).tdiv 16) = (m1 : Int) := by rw [hq0, IntKind.wrap_u8]; omega
            have hq1' : IntKind.u8.wrap (m1 : Int) = (m1 : Int) := by rw [IntKind.wrap_u8]; omega
            have hq1'' : (n : Int) / 16 = (m1 : Int) := by omega
            have hq2 : (n : Int).tmod 16 = (m2 : Int) := by rw [Int.tmod_eq_emod_of_nonneg (by omega)]; omega
            have hq2' : IntKind.u8.wrap ((n : Int).tmod 16) = (m2 : Int) := by rw [hq2, IntKind.wrap_u8]; omega
            have hq2'' : (n : Int) % 16 = (m2 : Int) := by omega
            have hd1 := digs16 m1 (show m1 < 16 by omega)
            have hd2 := digs16 m2 (show m2 < 16 by omega)
            generalize dig m1 = d1 at hd1 e1
            generalize dig m2 = d2 at hd2 e1
            have hstr := lit_str wr.drew [d1, d2, 32] #[.int .u8 d1, .int .u8 d2, .int .u8 32] rfl 3 rfl (by simp)
            have hstr2 : (convert 22 9 (.slice (some ⟨wr.heap.size, 0, none⟩) 3 3)).run Tryd.prog (wr.alloc (.cells #[.int .u8 d1, .int .u8 d2, .int .u8 32] 5)).drew = .ok (.string (strOfNums [d1, d2, 32])) (wr.alloc (.cells #[.int .u8 d1, .int .u8 d2, .int .u8 32] 5)).drew := hstr
            have e2 := str_back [d1, d2, 32]
            have hszz : (strOfNums [d1, d2, 32]).size = 3 := by rw [strOfNums_size]; rfl
            clear hm1 hm2
            go_wp2
            go_region_with (fail)
            all_goals go_wp2
            all_goals go_ret
            all_goals exact ⟨by first | rfl | (rw [e1]; rfl), (((Below.refl _ _).alloc (Nat.le_refl _) _).drew)⟩
end Go.Proofs.YtdpnnglfaofjeaaDoor.U

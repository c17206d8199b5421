import Derived.Test.YtdpnnglfaofjeaaDoorFE
namespace Go.Proofs.YtdpnnglfaofjeaaDoor.U
open Go.RowKit Go.Proofs.YtdpnnglfaofjeaaDoorW.PrintWords Go.Proofs.YtdpnnglfaofjeaaDoorW.PrintLast Go.Proofs.YtdpnnglfaofjeaaDoorW.PrintMore
set_option linter.unusedVariables false
set_option linter.unusedSimpArgs false
set_option maxRecDepth 100000

theorem bytesOf_str (l : List Int) (h : ∀ x ∈ l, 0 ≤ x ∧ x ≤ 255) : bytesOf (strOfNums l) = l := by
  unfold bytesOf
  rw [strOfNums_data, List.map_map]
  conv => rhs; rw [← List.map_id l]
  apply List.map_congr_left
  intro x hx
  have := h x hx
  simp
  omega
theorem unitL_range (b : Int) (hb : 0 ≤ b ∧ b ≤ 255) : ∀ x ∈ unitL b, 0 ≤ x ∧ x ≤ 255 := by
  intro x hx
  unfold unitL at hx
  split at hx
  · simp at hx; omega
  · split at hx
    · simp at hx; omega
    · simp only [List.mem_append, List.mem_singleton] at hx
      rcases hx with (rfl | hx) | rfl
      · omega
      · exact hexN_range _ x hx
      · omega
set_option maxHeartbeats 4000000 in
theorem ref_text_calls (l : List Int) (A : Option Addr) (c : Nat) (w : World) (hp : Kd.C (Kd.int .u8) w A l.length l) (hc : l.length ≤ c) (hB : ∀ x ∈ l, 0 ≤ x ∧ x ≤ 255) (hN : l.length ≤ 1099511627776) :
    Calls Tryd.prog 28 #[.slice A l.length c] w fun e w' => e = .returned (.string (strOfNums (textL l))) ∧ Below w.heap.size w w' := by
  go_enter Tryd.func28, Tryd.ntmps28
  go_wp2_with fail
  go_loopw [3, 4] (fun v3 v4 wr => ∃ (i : Nat), v4 = .int .i64 (i : Int) ∧ i ≤ l.length ∧ OB w wr v3 (textL (l.take i)) ∧ (textL (l.take i)).length ≤ 6 * i ∧ Below w.heap.size w wr) (fun _ v4 _ => match v4 with | .int _ i => l.length - i.toNat | _ => 0)
  case atStart => exact ⟨0, rfl, Nat.zero_le _, Kd.R_nil _ _ _ _ _, by simp [textL], Below.refl _ _⟩
  case round =>
    obtain ⟨i, rfl, hi, ho, hlen, hb⟩ := hrel
    by_cases hlt : i < l.length
    · obtain ⟨ad, rfl, hcell⟩ := Kd.at_int (Kd.C_below hp hb) (i : Int) (by omega) (by omega)
      rw [Int.toNat_natCast] at hcell
      have hx : 0 ≤ rd l (i : Int) ∧ rd l (i : Int) ≤ 255 := by
        have : rd l (i : Int) = l[i] := by simp [rd, List.getD_eq_getElem?_getD, hlt]
        rw [this]
        exact hB _ (List.getElem_mem hlt)
      have hts := textL_take l i hlt
      have hul := unitL_le _ hx
      have hbo := bytesOf_str _ (unitL_range _ hx)
      generalize rd l (i : Int) = b at hcell hx hts hul hbo
      have HT := Lib.hid hts
      have hlen2 : (textL (l.take (i + 1))).length ≤ 6 * (i + 1) := by rw [hts, List.length_append]; omega
      clear hts
      have hss : (strOfNums (unitL b)).size ≤ 6 := by rw [strOfNums_size]; exact hul
      go_wp2_with fail
      refine (ref_unit_calls b hx wr).mono ?_
      rintro e w1 ⟨rfl, hb1⟩
      have ho1 := Kd.R_below ho hb1
      have hb1' := below_then hb hb.size hb1
      generalize textL (l.take i) = tx at ho1 ho hlen HT
      generalize strOfNums (unitL b) = su at hss hbo
      go_wp2_with (at_builtin; refine appS (w0 := w) rfl _ _ rfl u3 _ su rfl rfl ho1 hb1' (by omega) ?_; intro v2 w2 ho2 hb2 _ _)
      go_roundw
      case rel => exact ⟨i + 1, rfl, by omega, by rw [HT.out]; rw [hbo] at ho2; exact ho2, hlen2, hb2⟩
      case measure => simp; omega
    · have hie : i = l.length := by omega
      subst hie
      rw [List.take_length] at ho
      obtain ⟨A3, c3, rfl, hc3, hC3⟩ := Kd.R_reads ho
      have hs3 := rb_string (B := 0) (c := c3) hC3
      go_wp2
      go_ret
      exact ⟨rfl, hb⟩
theorem text34 : textL [34] = [92, 50, 50, 32] := by
  have h1 : hexN 34 = [50, 50] := by rw [hexN_big 34 (by omega), hexN_small (34 / 16) (by omega)]; rfl
  have h2 : unitL 34 = [92] ++ hexN (34 : Int).toNat ++ [32] := by unfold unitL; rw [if_neg (by omega), if_neg (by decide)]
  unfold textL
  rw [List.flatMap_cons, List.flatMap_nil, h2, show (34 : Int).toNat = 34 from rfl, h1]
  rfl
set_option maxHeartbeats 4000000 in
theorem awake_calls (w : World) (h : TabOK w) : Calls Tryd.prog 26 #[] w fun e w' => e = .returned (.bool true) ∧ Below w.heap.size w w' := by
  have kc := Lib.run_convert_bytes_const (P := Tryd.prog) w 22 5 #[.int .u8 34] 1 1 Tryd.underlying22 Tryd.underlying5
  have hn := heap_alloc_new w (.cells #[.int .u8 34] 5 (1, 2))
  obtain ⟨A0, c0, he, hc0, hF⟩ := RB.lit (B := 0) (l := [34]) (c := 1) (by exact hn) (Nat.zero_le _) (by decide) (Nat.le_refl _)
  injection he with h1 h2 h3
  subst h1
  subst h3
  have hC := Kd.F_now hF
  have hb0 := (Below.refl w.heap.size w).alloc (Nat.le_refl _) (.cells #[.int .u8 34] 5 (1, 2))
  go_enter Tryd.func26, Tryd.ntmps26
  go_wp2_with fail
  refine (text_calls [34] _ _ _ hC hc0 (by intro x hx; simp at hx; omega) (by simp) (h.below hb0)).mono ?_
  rintro e w1 ⟨v1, rfl, ho1, hb1⟩
  rw [text34] at ho1
  obtain ⟨A1, c1, rfl, hc1, hC1⟩ := Kd.R_reads ho1
  have hs1 := rb_string (B := 0) (c := c1) hC1
  have hsl : strOfNums [92, 50, 50, 32] = ⟨#[92, 50, 50, 32]⟩ := rfl
  rw [hsl] at hs1
  have hs2 : (convert 22 9 (.slice A1 4 c1)).run Tryd.prog w1 = .ok (.string ⟨#[92, 50, 50, 32]⟩) w1 := hs1
  have hb1' := below_then hb0 hb0.size hb1
  go_wp2
  go_ret
  exact ⟨rfl, hb1'⟩
set_option maxHeartbeats 4000000 in
theorem texts_calls (l : List Int) (A : Option Addr) (c : Nat) (w : World) (hp : Kd.C (Kd.int .u8) w A l.length l) (hc : l.length ≤ c) (hB : ∀ x ∈ l, 0 ≤ x ∧ x ≤ 255) (hN : l.length ≤ 1099511627776) (h : TabOK w) :
    Calls Tryd.prog 4 #[.slice A l.length c] w fun e w' => e = .returned (.bool true) ∧ Below w.heap.size w w' := by
  go_enter Tryd.func4, Tryd.ntmps4
  go_wp2_with fail
  go_region_with (first
    | (go_at_call 26; go_loud (
        refine (awake_calls _ (h.below (below_drew (Below.refl _ _)))).mono ?_
        rintro e w1 ⟨rfl, hb1⟩
        have hb1' := below_then (below_drew (Below.refl w.heap.size w)) (Nat.le_refl _) hb1
        have hp1 := Kd.C_below hp hb1'))
    | (go_at_call 27; go_loud (
        refine (text_calls l A c w1 hp1 hc hB hN (h.below hb1')).mono ?_
        rintro e w2 ⟨v2, rfl, ho2, hb2⟩
        obtain ⟨A2, c2, rfl, hc2, hC2⟩ := Kd.R_reads ho2
        have hs2 := rb_string (B := 0) (c := c2) hC2
        have hb2' := below_then hb1' hb1'.size hb2
        have hp2 := Kd.C_below hp hb2'))
    | (go_at_call 28; go_loud (
        refine (ref_text_calls l A c w2 hp2 hc hB hN).mono ?_
        rintro e w3 ⟨rfl, hb3⟩
        have hs3 := rb_string (B := 0) (c := c2) (Kd.C_below hC2 hb3)
        have hb3' := below_then hb2' hb2'.size hb3)))
  all_goals go_wp2
  all_goals go_ret
  all_goals exact ⟨by first | rfl | simp, hb3'⟩
end Go.Proofs.YtdpnnglfaofjeaaDoor.U

import Derived.Test.YtdpnnglfaofjeaaDoorSL
namespace Go.Proofs.YtdpnnglfaofjeaaDoor.Z
open Go.RowKit Go.Lib Go.Proofs.YtdpnnglfaofjeaaDoorW.PrintWords Go.Proofs.YtdpnnglfaofjeaaDoorW.PrintLast Go.Proofs.YtdpnnglfaofjeaaDoorW.PrintMore Go.Proofs.YtdpnnglfaofjeaaDoor.PSc
open Go.Proofs.YtdpnnglfaofjeaaDoor.V (RB RB.of_OB RB.lit)
set_option linter.unusedVariables false
set_option linter.unusedSimpArgs false
set_option maxRecDepth 1000000

theorem stopped_blocked : stopped blockedL = false := by decide +kernel
theorem pass_free (p : List Int) : stopped (passL p) = false := by
  unfold passL
  cases h : stopped p
  · simpa using h
  · simpa using stopped_blocked
theorem pass_pass (p : List Int) : passL (passL p) = passL p := by
  have h := pass_free p
  generalize passL p = q at h
  unfold passL
  rw [h]; rfl
theorem pass_bytes (p : List Int) (hB : ∀ j : Nat, 0 ≤ p.getD j 0 ∧ p.getD j 0 ≤ 255) : ∀ j : Nat, 0 ≤ (passL p).getD j 0 ∧ (passL p).getD j 0 ≤ 255 := by
  unfold passL
  split
  · exact bytes_small _ (by decide)
  · exact hB
theorem pass_length (p : List Int) : (passL p).length ≤ p.length + 8 := by
  unfold passL
  split
  · simp [blockedL]
  · omega
/-- A value that is not stopped: in front of its first mark, where it is a :, stands an allowed name. -/
theorem free_name {q : List Int} (h : stopped q = false) {i : Nat} (hi : i < q.length) (hn : ∀ j : Nat, j < i → ¬ stop (q.getD j 0)) (h58 : q.getD i 0 = 58) : allowed (q.take i) = true := by
  have hm : mark q = (i : Int) := ((mark_is q).unique (.inr ⟨i, rfl, hi, .inl h58, hn⟩))
  unfold stopped at h
  rw [hm, if_neg (by omega), Int.toNat_natCast, h58] at h
  by_cases h16 : (i : Int) > 16
  · rw [if_pos h16] at h; cases h
  · rw [if_neg h16, if_pos rfl] at h
    simpa using h
set_option maxHeartbeats 16000000 in
theorem safe_calls (l : List Int) (A : Option Addr) (c : Nat) (w : World) (hp : Kd.C (Kd.int .u8) w A l.length l) (hc : l.length ≤ c) (hB : ∀ j : Nat, 0 ≤ l.getD j 0 ∧ l.getD j 0 ≤ 255) (hN : l.length ≤ 2097152) (hS : SchOK w) :
    Calls Tryd.prog 12 #[.slice A l.length c] w fun e w' => e = .returned (.bool true) ∧ Below w.heap.size w w' := by
  have hq1 := pass_bytes l hB
  have hq2 := pass_length l
  have hq3 := pass_pass l
  have hq4 := pass_free l
  have cP := fun (w1 : World) (hb : Below w.heap.size w w1) => pass_calls l A c w1 (Kd.C_below hp hb) hB (by omega) (hS.below hb)
  go_enter Tryd.func12, Tryd.ntmps12
  go_wp2_with fail
  refine (awake5_calls w hS).mono ?_
  rintro e w1 ⟨rfl, hb1⟩
  go_wp2_with fail
  refine (cP w1 hb1).mono ?_
  rintro e w2 ⟨u, rfl, ho2, hb2⟩
  have hb2' := below_then hb1 hb1.size hb2
  generalize passL l = q at *
  obtain ⟨A2, c2, rfl, hc2, hC2⟩ := ho2.reads
  have hS2 := hS.below hb2'
  clear cP hp hB
  have hs20 := z_string (c := c2) (Kd.C_drew hC2)
  have hb2d := below_then hb2' hb2'.size (below_drew (Below.refl w2.heap.size w2))
  have hS2d := hS2.below (below_drew (Below.refl w2.heap.size w2))
  go_wp2_with fail
  go_region_with (go_at_call 38; go_loud (
    refine (pass_calls q A2 c2 _ (Kd.C_drew hC2) hq1 (by omega) hS2d).mono ?_
    rintro e w3 ⟨u, rfl, ho3, hb3⟩
    rw [hq3] at ho3
    obtain ⟨A3, c3, rfl, hc3, hC3⟩ := ho3.reads
    have hs3 := z_string (c := c3) hC3
    have hC23 := Kd.C_below (Kd.C_drew hC2) hb3
    have hs2 := z_string (c := c2) hC23
    have hb3' := below_then hb2d hb2d.size hb3))
  all_goals (
    have HCA := Lib.hid (fun (n : Nat) (hn : n ≤ q.length) (w4 : World) (hb : Below w3.heap.size w3 w4) => take_fit hn (scheme_Allowed.calls (q.length + 1) A2 c2 (q.take n) (allowed (q.take n)) w4 (C_tk (Kd.C_below hC23 hb) n hn) (by rw [List.length_take]; omega) (allowed_ev _ (take_bytes hq1 n) (by rw [List.length_take]; omega) _ (by rw [List.length_take]; omega))))
    have HCR := Lib.hid (fun (n : Nat) (hn : n ≤ q.length) (w4 : World) (hb : Below w3.heap.size w3 w4) => take_fit hn (bobbinref05_Allowed.calls (q.length + 1) A2 c2 (q.take n) (allowed (q.take n)) w4 (C_tk (Kd.C_below hC23 hb) n hn) (by rw [List.length_take]; omega) (allowed5_ev _ (take_bytes hq1 n) (by rw [List.length_take]; omega) _ (by rw [List.length_take]; omega))))
    have HC := Lib.hid hC23
    have HF := Lib.hid hq4
    have hq5 : q.length ≤ 4194304 := by omega
    clear hC3 hC2 hC23 ho3 ho2 hq1 hq3 hq4 hS hS2 hb1 hb2 hb2' hb3 hs20 hb2d hS2d
    go_wp2
    clear hs2 hs3
    go_loopg [4] q.length (fun g s wx => ∃ i : Nat, i + g = q.length ∧ s = .int .i64 i ∧ wx = w3 ∧ ∀ j : Nat, j < i → ¬ stop (q.getD j 0))
    case atStart => exact ⟨0, by omega, rfl, rfl, fun j hj => by omega⟩
    case round =>
      obtain ⟨i, hig, rfl, rfl, hno⟩ := hrel
      have HN := Lib.hid hno
      clear hno
      cases gk with
      | zero =>
        obtain rfl : i = q.length := by omega
        have hiz : ¬ ((q.length : Int) < (q.length : Int)) := by omega
        go_wp2
        go_ret
        exact ⟨rfl, hb3'⟩
      | succ g =>
        have hi : i < q.length := by omega
        have hiz : (i : Int) < (q.length : Int) := by omega
        obtain ⟨ad, rfl, hx⟩ := cell_at HC.out i hi
        have hic : i ≤ c2 := by omega
        have HNAME := Lib.hid (fun h58 => free_name HF.out hi HN.out h58)
        obtain ⟨x, hxe⟩ : ∃ x, q.getD i 0 = x := ⟨_, rfl⟩
        rw [hxe] at hx
        have HXE := Lib.hid hxe
        clear hxe
        by_cases h58 : x = 58
        · have hnm := HNAME.out (HXE.out.trans h58)
          subst h58
          have c1 := HCA.out i (by omega)
          have c2' := HCR.out i (by omega)
          rw [hnm] at c1 c2'
          go_wp2_with (first
            | (go_at_call 40; go_loud (refine (c1 _ (Below.refl _ _)).mono ?_; rintro e w4 ⟨rfl, hb4⟩; have hb4' := below_then hb3' hb3'.size hb4))
            | (go_at_call 41; go_loud (refine (c2' w4 hb4).mono ?_; rintro e w5 ⟨rfl, hb5⟩; have hb5' := below_then hb4' hb4'.size hb5)))
          all_goals go_ret
          all_goals exact ⟨rfl, hb5'⟩
        · have h58' : (x == 58) = false := beq_eq_false_iff_ne.2 h58
          by_cases h47 : x = 47
          · subst h47
            go_wp2
            go_ret
            exact ⟨rfl, hb3'⟩
          · by_cases h63 : x = 63
            · subst h63
              go_wp2
              go_ret
              exact ⟨rfl, hb3'⟩
            · by_cases h35 : x = 35
              · subst h35
                go_wp2
                go_ret
                exact ⟨rfl, hb3'⟩
              · have h47' : (x == 47) = false := beq_eq_false_iff_ne.2 h47
                have h63' : (x == 63) = false := beq_eq_false_iff_ne.2 h63
                have h35' : (x == 35) = false := beq_eq_false_iff_ne.2 h35
                go_wp2
                go_roundg g
                case measure => omega
                case rel => exact ⟨i + 1, by omega, by first | rfl | simp, rfl, fun j hj => by
                                     rcases (show j < i ∨ j = i by omega) with h | rfl
                                     · exact HN.out j h
                                     · rw [HXE.out]; unfold stop; omega⟩)
end Go.Proofs.YtdpnnglfaofjeaaDoor.Z

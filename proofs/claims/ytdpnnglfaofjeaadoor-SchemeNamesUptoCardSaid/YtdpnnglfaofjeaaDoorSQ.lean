import Derived.Test.YtdpnnglfaofjeaaDoorSP
import Derived.Test.YtdpnnglfaofjeaaDoorX0
namespace Go.Proofs.YtdpnnglfaofjeaaDoor.Z
open Go.RowKit Go.Lib Go.Proofs.YtdpnnglfaofjeaaDoorW.PrintWords Go.Proofs.YtdpnnglfaofjeaaDoorW.PrintLast Go.Proofs.YtdpnnglfaofjeaaDoorW.PrintMore Go.Proofs.YtdpnnglfaofjeaaDoor.PSc
open Go.Proofs.YtdpnnglfaofjeaaDoor.V (RB RB.of_OB RB.lit)
set_option linter.unusedVariables false
set_option linter.unusedSimpArgs false
set_option maxRecDepth 1000000

/-- A text made bytes, as a run. -/
theorem conv_sb (W : World) (y : ByteArray) (hy : y.size ≤ 9223372036854775807) : ∃ A c W1, (convert 9 22 (.string y)).run Tryd.prog W = .ok (.slice A (bytesOf y).length c) W1 ∧ (bytesOf y).length ≤ c ∧ Kd.C (Kd.int .u8) W1 A (bytesOf y).length (bytesOf y) ∧ Below W.heap.size W W1 := by
  have hr := run_bytes_of_string (P := Tryd.prog) W 9 22 5 y Tryd.underlying9 Tryd.underlying22 Tryd.underlying5
  have hn := heap_alloc_new W.drew (.cells (bytesRow y (grownCap W y.size 0 5)) 5 ((bytesRow y (grownCap W y.size 0 5)).size, (bytesRow y (grownCap W y.size 0 5)).size + 1))
  have hb : Below W.heap.size W (W.drew.alloc (.cells (bytesRow y (grownCap W y.size 0 5)) 5 ((bytesRow y (grownCap W y.size 0 5)).size, (bytesRow y (grownCap W y.size 0 5)).size + 1))) := (below_drew (Below.refl _ _)).alloc (Nat.le_refl _) _
  have hV := V_of_block (base := 0) (ok := fun _ => True) (c := grownCap W y.size 0 5) (l := bytesOf y) hn (fun i x hx => bytesRow_at y _ i x hx) trivial (by rw [bytesOf_length]; exact hy) (by rw [bytesOf_length]; exact grownCap_ge _ _ _ _)
  obtain ⟨A, c, he, hc, hF⟩ := hV
  rw [← bytesOf_length y] at hr
  refine ⟨A, c, _, ?_, hc, Kd.F_now hF, hb⟩
  rw [← he]
  rw [bytesOf_length] at hr ⊢
  exact hr
theorem bytesOf_nums (l : List Int) (hB : ∀ j : Nat, 0 ≤ l.getD j 0 ∧ l.getD j 0 ≤ 255) : bytesOf (strOfNums l) = l := by
  unfold bytesOf
  rw [strOfNums_data, List.map_map]
  conv => rhs; rw [← List.map_id l]
  apply List.map_congr_left
  intro x hx
  obtain ⟨i, hi, rfl⟩ := List.mem_iff_getElem.1 hx
  have := hB i
  rw [List.getD_eq_getElem?_getD, List.getElem?_eq_getElem hi] at this
  simp at this
  simp
  omega
theorem str_bytesOf (y : ByteArray) : strOfNums (bytesOf y) = y := by
  have h : (strOfNums (bytesOf y)).data.toList = y.data.toList := by
    rw [strOfNums_data]
    unfold bytesOf
    rw [List.map_map]
    conv => rhs; rw [← List.map_id y.data.toList]
    apply List.map_congr_left
    intro x _
    simp
  cases y with
  | mk d =>
    have h2 : (strOfNums (bytesOf ⟨d⟩)).data = d := Array.toList_inj.1 h
    cases h3 : strOfNums (bytesOf ⟨d⟩) with
    | mk d2 => rw [h3] at h2; simp at h2; rw [h2]
theorem bytesOf_app (a b : ByteArray) : bytesOf (a ++ b) = bytesOf a ++ bytesOf b := by
  unfold bytesOf
  simp [ByteArray.toList_data_append]
set_option maxHeartbeats 16000000 in
theorem names_calls (l t : List Int) (A D : Option Addr) (c d : Nat) (w : World) (hp : Kd.C (Kd.int .u8) w A l.length l) (hc : l.length ≤ c) (ht : Kd.C (Kd.int .u8) w D t.length t) (hd : t.length ≤ d)
    (hB : ∀ j : Nat, 0 ≤ l.getD j 0 ∧ l.getD j 0 ≤ 255) (hBt : ∀ j : Nat, 0 ≤ t.getD j 0 ∧ t.getD j 0 ≤ 255) (hN : l.length ≤ 2097152) (hM : t.length ≤ 2097152) (hS : SchOK w) :
    Calls Tryd.prog 13 #[.slice A l.length c, .slice D t.length d] w fun e w' => e = .returned (.bool true) ∧ Below w.heap.size w w' := by
  have HP := Lib.hid hp
  have HT := Lib.hid ht
  have HB := Lib.hid hB
  have HBT := Lib.hid hBt
  have HS := Lib.hid hS
  go_enter Tryd.func13, Tryd.ntmps13
  go_wp2_with fail
  refine (awake5_calls w hS).mono ?_
  rintro e w1 ⟨rfl, hb1⟩
  have HP1 := Lib.hid (Kd.C_below hp hb1)
  clear hp ht hB hBt hS
  go_wp2_with fail
  go_loopg [5] l.length (fun g s wx => ∃ i : Nat, i + g = l.length ∧ s = .int .i64 i ∧ wx = w1 ∧ ∀ j : Nat, j < i → ¬ stop (l.getD j 0))
  case atStart => exact ⟨0, by omega, rfl, rfl, fun j hj => by omega⟩
  case round =>
    obtain ⟨i, hig, rfl, rfl, hno⟩ := hrel
    have HN := Lib.hid hno
    clear hno
    cases gk with
    | zero =>
      obtain rfl : i = l.length := by omega
      have hiz : ¬ ((l.length : Int) < (l.length : Int)) := by omega
      have hs1 := z_string (c := c) HP1.out
      have hs2 := z_string (c := d) (Kd.C_below HT.out hb1)
      obtain ⟨sl, hsl⟩ : ∃ s, strOfNums l = s := ⟨_, rfl⟩
      obtain ⟨st, hst⟩ : ∃ s, strOfNums t = s := ⟨_, rfl⟩
      have hz1 : sl.size = l.length := by rw [← hsl, strOfNums_size]
      have hz2 : st.size = t.length := by rw [← hst, strOfNums_size]
      rw [hsl] at hs1
      rw [hst] at hs2
      have HSL := Lib.hid hsl
      have HST := Lib.hid hst
      clear hsl hst
      have q1 : (9223372036854775807 < sl.size + 1) = False := eq_false (by omega)
      have q2 : (9223372036854775807 < sl.size + 1 + st.size) = False := eq_false (by omega)
      have q3 : (9223372036854775807 < 1 + (sl.size + 1 + st.size)) = False := eq_false (by omega)
      go_wp2_with fail
      have hbv : bytesOf (sl ++ ⟨#[58]⟩ ++ st) = l ++ 58 :: t := by
        rw [bytesOf_app, bytesOf_app, ← HSL.out, ← HST.out, bytesOf_nums l HB.out, bytesOf_nums t HBT.out, List.append_assoc]
        rfl
      have hbw : bytesOf (⟨#[47]⟩ ++ (sl ++ ⟨#[58]⟩ ++ st)) = 47 :: (l ++ 58 :: t) := by
        rw [bytesOf_app, hbv]
        rfl
      have hvs : (sl ++ ⟨#[58]⟩ ++ st).size ≤ 9223372036854775807 := by
        have := congrArg List.length hbv
        rw [bytesOf_length, List.length_append, List.length_cons] at this
        omega
      obtain ⟨Av, cv, wv, hcv, hlv, hCv, hbbv⟩ := conv_sb wr (sl ++ ⟨#[58]⟩ ++ st) hvs
      rw [hbv] at hcv hlv hCv
      have hb2 := below_then hb1 hb1.size hbbv
      have hvB : ∀ j : Nat, 0 ≤ (l ++ 58 :: t).getD j 0 ∧ (l ++ 58 :: t).getD j 0 ≤ 255 := by
        intro j
        by_cases h1 : j < l.length
        · rw [getD_app_left _ _ _ h1]; exact HB.out j
        · by_cases h2 : j = l.length
          · rw [h2, getD_app_mid]; omega
          · have e : (l ++ 58 :: t).getD j 0 = t.getD (j - l.length - 1) 0 := by
              rw [List.getD_eq_getElem?_getD, List.getElem?_append_right (by omega), show j - l.length = (j - l.length - 1) + 1 by omega, List.getElem?_cons_succ, ← List.getD_eq_getElem?_getD]
              rfl
            rw [e]; exact HBT.out _
      have hws : (⟨#[47]⟩ ++ (sl ++ ⟨#[58]⟩ ++ st)).size ≤ 9223372036854775807 := by
        have := congrArg List.length hbw
        rw [bytesOf_length, List.length_cons, List.length_append, List.length_cons] at this
        omega
      have hvlen : (l ++ 58 :: t).length ≤ 4194305 := by rw [List.length_append, List.length_cons]; omega
      have hsv := names_stopped l t HN.out
      have hsw := slash_free (l ++ 58 :: t)
      have e2 := allowed_ev l HB.out (by omega) (l.length + 1) (by omega)
      have cAl := fun (w1 : World) (hb : Below w.heap.size w w1) => scheme_Allowed.calls (l.length + 1) A c l (allowed l) w1 (Kd.C_below HP.out hb) hc e2
      have hvstr : strOfNums (l ++ 58 :: t) = sl ++ ⟨#[58]⟩ ++ st := by rw [← hbv, str_bytesOf]
      have hwstr : strOfNums (47 :: (l ++ 58 :: t)) = ⟨#[47]⟩ ++ (sl ++ ⟨#[58]⟩ ++ st) := by rw [← hbw, str_bytesOf]
      generalize l ++ 58 :: t = vl at *
      generalize sl ++ ⟨#[58]⟩ ++ st = sv at *
      have cP1 := pass_calls vl Av cv wv hCv hvB (by omega) (HS.out.below hb2)
      have HVB := Lib.hid hvB
      have HBW := Lib.hid hbw
      have HVS := Lib.hid hvstr
      have HWS := Lib.hid hwstr
      have HSV := Lib.hid hsv
      have HSW := Lib.hid hsw
      have HAL := Lib.hid cAl
      have HCP := Lib.hid cP1
      have HW := Lib.hid hws
      clear hCv hlv hs1 hs2 hbv q1 q2 q3 hvB hbw hvstr hwstr hsv hsw cAl cP1 hws e2 hz1 hz2 hvs
      rw [hcv]
      simp only [Result.andThen]
      rw [Oper.upon_value]
      go_wp2_with fail
      refine HCP.out.mono ?_
      rintro e w2 ⟨u, rfl, ho2, hb2'⟩
      obtain ⟨A2, c2, rfl, hc2, hC2⟩ := ho2.reads
      have hs3 := z_string (c := c2) hC2
      have hb3 := below_then hb2 hb2.size hb2'
      obtain ⟨Aw, cw, ww, hcw, hlw, hCw, hbbw⟩ := conv_sb w2 _ HW.out
      rw [HBW.out] at hcw hlw hCw
      have hb4 := below_then hb3 hb3.size hbbw
      have hwB : ∀ j : Nat, 0 ≤ (47 :: vl).getD j 0 ∧ (47 :: vl).getD j 0 ≤ 255 := by
        intro j
        cases j with
        | zero => simp
        | succ j => simpa using HVB.out j
      have cP2 := pass_calls (47 :: vl) Aw cw ww hCw hwB (by simp; omega) (HS.out.below hb4)
      rw [List.length_cons] at cP2
      have HCP2 := Lib.hid cP2
      clear hcv ho2 hC2 hlw hCw hwB cP2
      go_wp2_with fail
      refine HCP2.out.mono ?_
      rintro e w3 ⟨u, rfl, ho3, hb3'⟩
      have e3 : passL (47 :: vl) = 47 :: vl := by unfold passL; rw [HSW.out]; rfl
      rw [e3] at ho3
      obtain ⟨A3, c3, rfl, hc3, hC3⟩ := ho3.reads
      have hs4 := z_string (c := c3) hC3
      rw [HWS.out] at hs4
      rw [List.length_cons] at hs4
      have hb5 := below_then hb4 hb4.size hb3'
      have cA := HAL.out w3 hb5
      cases ha : allowed l
      · have e1 : passL vl = blockedL := by unfold passL; rw [HSV.out, ha]; rfl
        rw [ha] at cA
        rw [e1]
        have e4 : strOfNums blockedL = ⟨#[35, 98, 108, 111, 99, 107, 101, 100]⟩ := rfl
        rw [e4]
        clear hC3 ho3 hc3
        go_wp2_with (go_at_call 40; refine cA.mono ?_; rintro e w4 ⟨rfl, hb6⟩)
        go_ret
        exact ⟨by first | rfl | simp, below_then hb5 hb5.size hb6⟩
      · have e1 : passL vl = vl := by unfold passL; rw [HSV.out, ha]; rfl
        rw [ha] at cA
        rw [e1, HVS.out]
        clear hC3 ho3 hc3
        go_wp2_with (go_at_call 40; refine cA.mono ?_; rintro e w4 ⟨rfl, hb6⟩)
        go_ret
        exact ⟨by first | rfl | simp, below_then hb5 hb5.size hb6⟩
    | succ g =>
      have hi : i < l.length := by omega
      have hiz : (i : Int) < (l.length : Int) := by omega
      obtain ⟨ad, rfl, hx⟩ := cell_at HP1.out i hi
      obtain ⟨x, hxe⟩ : ∃ x, l.getD i 0 = x := ⟨_, rfl⟩
      rw [hxe] at hx
      have HXE := Lib.hid hxe
      clear hxe
      by_cases h58 : x = 58
      · subst h58
        go_wp2
        go_ret
        exact ⟨rfl, hb1⟩
      · by_cases h47 : x = 47
        · subst h47
          go_wp2
          go_ret
          exact ⟨rfl, hb1⟩
        · by_cases h63 : x = 63
          · subst h63
            go_wp2
            go_ret
            exact ⟨rfl, hb1⟩
          · by_cases h35 : x = 35
            · subst h35
              go_wp2
              go_ret
              exact ⟨rfl, hb1⟩
            · have h58' : (x == 58) = false := beq_eq_false_iff_ne.2 h58
              have h47' : (x == 47) = false := beq_eq_false_iff_ne.2 h47
              have h63' : (x == 63) = false := beq_eq_false_iff_ne.2 h63
              have h35' : (x == 35) = false := beq_eq_false_iff_ne.2 h35
              go_wp2
              go_roundg g
              case measure => omega
              case rel => exact ⟨i + 1, by omega, by first | rfl | simp, rfl, fun j hj => by
                                   rcases (show j < i ∨ j = i by omega) with h | rfl
                                   · exact HN.out j h
                                   · rw [HXE.out]; unfold stop; omega⟩
end Go.Proofs.YtdpnnglfaofjeaaDoor.Z

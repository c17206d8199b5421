-- PRINTED by print.py (a twelfth state) out of the translation. Not trusted: Lean checks it.
import Derived.Test.YtdpnnglfaofjeaaDoorPUtfx0
namespace Go.Proofs.YtdpnnglfaofjeaaDoor.PUtf
open Go.RowKit Go.Proofs.YtdpnnglfaofjeaaDoorW.PrintWords Go.Proofs.YtdpnnglfaofjeaaDoorW.PrintLast Go.Proofs.YtdpnnglfaofjeaaDoorW.PrintMore
attribute [local go_sem] max2_int min2_int max_two min_two max_three min_three max_four min_four   -- for this text's walks alone
set_option linter.unusedVariables false
set_option linter.unusedSimpArgs false

-- NOT PRINTED: function 90 (strconv_small)

-- NOT PRINTED: function 105 (strconv_log10Pow2)

-- NOT PRINTED: function 106 (bits_Len64)

-- NOT PRINTED: function 107 (strconv_bool2_int)

-- NOT PRINTED: function 91 (strconv_numDigits)

-- NOT PRINTED: function 92 (strconv_formatBase10)

-- NOT PRINTED: function 108 (strconv_isPowerOfTwo)

-- NOT PRINTED: function 123 (bits_TrailingZeros32)

-- NOT PRINTED: function 124 (bits_TrailingZeros64)

-- NOT PRINTED: function 109 (bits_TrailingZeros)

-- NOT PRINTED: function 93 (strconv_formatBits)

-- NOT PRINTED: function 80 (strconv_FormatUint_80)

-- NOT PRINTED: function 60 (strconv_FormatUint_60)

-- NOT PRINTED: function 63 (jsstr_hex)

-- NOT PRINTED: function 84 (utf8_appendRuneNonASCII)

-- NOT PRINTED: function 64 (utf8_AppendRune)

-- NOT PRINTED: function 33 (jsstr_Unit)

-- NOT PRINTED: function 72 (utf_New)

-- NOT PRINTED: function 101 (utf_tail)

-- NOT PRINTED: function 88 (utf_first)

-- NOT PRINTED: function 75 (utf_Decoder_Feed)

-- NOT PRINTED: function 76 (utf_Decoder_Finish)

-- NOT PRINTED: function 81 (utf_Clean)

-- NOT PRINTED: function 61 (utf_Each)

-- NOT PRINTED: function 31 (jsstr_Text)

-- NOT PRINTED: function 30 (bobbinlaw06_awake)

-- NOT PRINTED: function 65 (bobbinref06_UTF8)

-- NOT PRINTED: function 34 (bobbinref06_Unit)

/-! ### bobbinref01_Need: function 94 -/
def bobbinref01_Need.j0 : Nat → Int → Bool → Option (Int)
  | 0, _, _ => none
  | k + 1, x0, x10 => if x10 = true then (some 0) else (if x0 < 224 then (some 2) else (if x0 < 240 then (some 3) else (some 4)))
def bobbinref01_Need.f (k : Nat) (a0 : Int) : Option (Int) := if a0 < 128 then (some 1) else (if a0 < 194 then (bobbinref01_Need.j0 k a0 true) else (bobbinref01_Need.j0 k a0 (decide (a0 > 244))))
theorem bobbinref01_Need.mono_l : ∀ k, (∀ y0 y1, LeO (bobbinref01_Need.j0 k y0 y1) (bobbinref01_Need.j0 (k + 1) y0 y1))
  | 0 => fun _ _ r h => by simp [bobbinref01_Need.j0] at h
  | k + 1 => by
    have ih0 := bobbinref01_Need.mono_l k
    · intro y0 y1
      unfold bobbinref01_Need.j0
      repeat' first
      | (with_reducible exact ih0 _ _)
      | (with_reducible exact LeO.refl _)
      | (with_reducible exact LeO.none _)
      | (with_reducible refine LeO.ite ?_ ?_)
      | (with_reducible refine LeO.bind ?_ (fun _ => ?_))
      | exact ih0 _ _
      | exact LeO.none _
      | refine LeO.ite ?_ ?_
      | refine LeO.bind ?_ (fun _ => ?_)
theorem bobbinref01_Need.mono : ∀ a0 k, LeO (bobbinref01_Need.f k a0) (bobbinref01_Need.f (k + 1) a0) := by
  intro a0 k
  have ih0 := bobbinref01_Need.mono_l k
  unfold bobbinref01_Need.f
  repeat' first
      | (with_reducible exact ih0 _ _)
      | (with_reducible exact LeO.refl _)
      | (with_reducible exact LeO.none _)
      | (with_reducible refine LeO.ite ?_ ?_)
      | (with_reducible refine LeO.bind ?_ (fun _ => ?_))
      | exact ih0 _ _
      | exact LeO.none _
      | refine LeO.ite ?_ ?_
      | refine LeO.bind ?_ (fun _ => ?_)
set_option maxHeartbeats 8000000 in
set_option maxRecDepth 100000 in
theorem bobbinref01_Need.calls (k : Nat) (a0 : Int) (r : Int) (w : World) (h : bobbinref01_Need.f k a0 = some r) :
    Calls Tryd.prog 94 #[.int .u8 a0] w fun e w' => e = .returned (.int .i64 r) ∧ Drawn0 w w' := by
  have H : (if a0 < 128 then (some 1) else (if a0 < 194 then (bobbinref01_Need.j0 k a0 true) else (bobbinref01_Need.j0 k a0 (decide (a0 > 244))))) = some r := h
  clear h
  by_cases c2 : a0 < 128
  · rw [if_pos c2] at H
    have c2b0 : decide (a0 < 128) = true := decide_eq_true c2
    clear c2
    obtain rfl := Option.some.inj H
    go_enter Tryd.func94, Tryd.ntmps94
    go_wp2
    go_ret
    exact ⟨by first | rfl | (simp; done) | (simp [*]; done), by repeat (first | exact Drawn0.refl _ | apply Drawn0.step)⟩
  · rw [if_neg c2] at H
    have c2b0 : decide (a0 < 128) = false := decide_eq_false c2
    clear c2
    have HC3 := Aside0.mk H
    clear H
    go_enter Tryd.func94, Tryd.ntmps94
    go_upto_region 3 with (fail)
    go_cut [10] (fun v10 wc => ∃ (kq : Nat) (x10_2 : Bool), v10 = .bool x10_2 ∧ Aside0 (bobbinref01_Need.j0 kq a0 x10_2 = some r) ∧ Aside0 (kq ≤ k) ∧ Drawn0 w wc)
    case first =>
      have H := HC3.out
      clear HC3
      by_cases c4 : a0 < 194
      · rw [if_pos c4] at H
        have c4b0 : decide (a0 < 194) = true := decide_eq_true c4
        clear c4
        (first | rw [c4b0] | (simp only [i64_w, i32_w]; rw [c4b0]) | skip)
        have H' := Aside0.mk H
        clear H
        go_wp2
        go_meet
        case rel => exact ⟨_, (true), (by first | rfl | (simp; done) | (simp [*]; done)), H', ⟨by first | omega | exact Nat.le_refl _⟩, by repeat (first | exact Drawn0.refl _ | apply Drawn0.step)⟩
      · rw [if_neg c4] at H
        have c4b0 : decide (a0 < 194) = false := decide_eq_false c4
        clear c4
        (first | rw [c4b0] | (simp only [i64_w, i32_w]; rw [c4b0]) | skip)
        have H' := Aside0.mk H
        clear H
        go_wp2
        go_meet
        case rel => exact ⟨_, (decide (a0 > 244)), (by first | rfl | (simp; done) | (simp [*]; done)), H', ⟨by first | omega | exact Nat.le_refl _⟩, by repeat (first | exact Drawn0.refl _ | apply Drawn0.step)⟩
    case rest =>
      clear HC3
      try clear c2
      try clear c2b0
      try clear p2
      try clear c4
      try clear c4b0
      obtain ⟨kq, x10_2, rfl, HA, HJ2, ⟨mc2, rfl⟩⟩ := hcut
      cases kq with
      | zero => exact absurd HA.out (by simp [bobbinref01_Need.j0])
      | succ kj2 =>
        have H := HA.out
        clear HA
        simp only [bobbinref01_Need.j0] at H
        by_cases c5 : x10_2 = true
        · subst c5
          have H1 : (some 0) = some r := by rw [if_pos rfl] at H; exact H
          clear H
          have H := H1
          clear H1
          obtain rfl := Option.some.inj H
          go_wp2
          go_ret
          exact ⟨by first | rfl | (simp; done) | (simp [*]; done), by repeat (first | exact Drawn0.refl _ | apply Drawn0.step)⟩
        · replace c5 := Bool.eq_false_iff.mpr c5
          subst c5
          have H1 : (if a0 < 224 then (some 2) else (if a0 < 240 then (some 3) else (some 4))) = some r := by rw [if_neg (show ¬ (false = true) by decide)] at H; exact H
          clear H
          have H := H1
          clear H1
          by_cases c6 : a0 < 224
          · rw [if_pos c6] at H
            have c6b0 : decide (a0 < 224) = true := decide_eq_true c6
            clear c6
            obtain rfl := Option.some.inj H
            go_wp2
            go_ret
            exact ⟨by first | rfl | (simp; done) | (simp [*]; done), by repeat (first | exact Drawn0.refl _ | apply Drawn0.step)⟩
          · rw [if_neg c6] at H
            have c6b0 : decide (a0 < 224) = false := decide_eq_false c6
            clear c6
            by_cases c7 : a0 < 240
            · rw [if_pos c7] at H
              have c7b0 : decide (a0 < 240) = true := decide_eq_true c7
              clear c7
              obtain rfl := Option.some.inj H
              go_wp2
              go_ret
              exact ⟨by first | rfl | (simp; done) | (simp [*]; done), by repeat (first | exact Drawn0.refl _ | apply Drawn0.step)⟩
            · rw [if_neg c7] at H
              have c7b0 : decide (a0 < 240) = false := decide_eq_false c7
              clear c7
              obtain rfl := Option.some.inj H
              go_wp2
              go_ret
              exact ⟨by first | rfl | (simp; done) | (simp [*]; done), by repeat (first | exact Drawn0.refl _ | apply Drawn0.step)⟩

/-! ### bobbinref01_within: function 95 -/
def bobbinref01_within.j0 : Nat → Int → Int → Int → Bool → Option (Bool)
  | 0, _, _, _, _ => none
  | k + 1, x0, x1, x2, x20 => if x20 = true then (some false) else (if x1 > 1 then (some true) else (if x0 = 224 then (if x2 < 160 then (some (!true)) else (if x0 = 237 then (if x2 > 159 then (some (!true)) else (if x0 = 240 then (if x2 < 144 then (some (!true)) else (if x0 = 244 then (some (!(decide (x2 > 143)))) else (some (!false)))) else (if x0 = 244 then (some (!(decide (x2 > 143)))) else (some (!false))))) else (if x0 = 240 then (if x2 < 144 then (some (!true)) else (if x0 = 244 then (some (!(decide (x2 > 143)))) else (some (!false)))) else (if x0 = 244 then (some (!(decide (x2 > 143)))) else (some (!false)))))) else (if x0 = 237 then (if x2 > 159 then (some (!true)) else (if x0 = 240 then (if x2 < 144 then (some (!true)) else (if x0 = 244 then (some (!(decide (x2 > 143)))) else (some (!false)))) else (if x0 = 244 then (some (!(decide (x2 > 143)))) else (some (!false))))) else (if x0 = 240 then (if x2 < 144 then (some (!true)) else (if x0 = 244 then (some (!(decide (x2 > 143)))) else (some (!false)))) else (if x0 = 244 then (some (!(decide (x2 > 143)))) else (some (!false)))))))
def bobbinref01_within.f (k : Nat) (a0 : Int) (a1 : Int) (a2 : Int) : Option (Bool) := (bobbinref01_Need.f k a0).bind fun t101 => (if a1 ≥ t101 then (bobbinref01_within.j0 k a0 a1 a2 true) else (if a2 < 128 then (bobbinref01_within.j0 k a0 a1 a2 true) else (bobbinref01_within.j0 k a0 a1 a2 (decide (a2 > 191)))))
theorem bobbinref01_within.mono_l : ∀ k, (∀ y0 y1 y2 y3, LeO (bobbinref01_within.j0 k y0 y1 y2 y3) (bobbinref01_within.j0 (k + 1) y0 y1 y2 y3))
  | 0 => fun _ _ _ _ r h => by simp [bobbinref01_within.j0] at h
  | k + 1 => by
    have ih0 := bobbinref01_within.mono_l k
    · intro y0 y1 y2 y3
      unfold bobbinref01_within.j0
      repeat' first
      | (with_reducible exact ih0 _ _ _ _)
      | (with_reducible exact bobbinref01_Need.mono _ _)
      | (with_reducible exact LeO.refl _)
      | (with_reducible exact LeO.none _)
      | (with_reducible refine LeO.ite ?_ ?_)
      | (with_reducible refine LeO.bind ?_ (fun _ => ?_))
      | exact ih0 _ _ _ _
      | exact bobbinref01_Need.mono _ _
      | exact LeO.none _
      | refine LeO.ite ?_ ?_
      | refine LeO.bind ?_ (fun _ => ?_)
theorem bobbinref01_within.mono : ∀ a0 a1 a2 k, LeO (bobbinref01_within.f k a0 a1 a2) (bobbinref01_within.f (k + 1) a0 a1 a2) := by
  intro a0 a1 a2 k
  have ih0 := bobbinref01_within.mono_l k
  unfold bobbinref01_within.f
  repeat' first
      | (with_reducible exact ih0 _ _ _ _)
      | (with_reducible exact bobbinref01_Need.mono _ _)
      | (with_reducible exact LeO.refl _)
      | (with_reducible exact LeO.none _)
      | (with_reducible refine LeO.ite ?_ ?_)
      | (with_reducible refine LeO.bind ?_ (fun _ => ?_))
      | exact ih0 _ _ _ _
      | exact bobbinref01_Need.mono _ _
      | exact LeO.none _
      | refine LeO.ite ?_ ?_
      | refine LeO.bind ?_ (fun _ => ?_)
set_option maxHeartbeats 8000000 in
set_option maxRecDepth 100000 in
theorem bobbinref01_within.calls (k : Nat) (a0 : Int) (a1 : Int) (a2 : Int) (r : Bool) (w : World) (h : bobbinref01_within.f k a0 a1 a2 = some r) :
    Calls Tryd.prog 95 #[.int .u8 a0, .int .i64 a1, .int .u8 a2] w fun e w' => e = .returned (.bool r) ∧ Drawn0 w w' := by
  have H : ((bobbinref01_Need.f k a0).bind fun t101 => (if a1 ≥ t101 then (bobbinref01_within.j0 k a0 a1 a2 true) else (if a2 < 128 then (bobbinref01_within.j0 k a0 a1 a2 true) else (bobbinref01_within.j0 k a0 a1 a2 (decide (a2 > 191)))))) = some r := h
  clear h
  replace H := Option.bind_eq_some_iff.mp H
  obtain ⟨t101, A40, H⟩ := H
  replace H : (if a1 ≥ t101 then (bobbinref01_within.j0 k a0 a1 a2 true) else (if a2 < 128 then (bobbinref01_within.j0 k a0 a1 a2 true) else (bobbinref01_within.j0 k a0 a1 a2 (decide (a2 > 191))))) = some r := H
  have A4 := Aside0.mk A40
  clear A40
  have HC5 := Aside0.mk H
  clear H
  go_enter Tryd.func95, Tryd.ntmps95
  go_upto_region 2 with (first | ((with_reducible refine gate_callee (f := 94) rfl ?_); refine goesL_ (some 9) rfl rfl Tryd.func94 (by kernel_rfl) rfl #[.int .u8 a0] rfl (by (try simp only [List.map_toArray, List.map_cons, List.map_nil]); first | done | rfl | (simp only [List.length_drop, List.length_take]; rfl)) ?_; (with_reducible refine (bobbinref01_Need.calls k a0 t101 _ A4.out).mono ?_); rintro e w' ⟨rfl, ⟨nd, rfl⟩⟩; refine ⟨_, rfl, ?_⟩))
  (try simp only [Act.put, List.setIfInBounds_toArray, List.set_cons_zero, List.set_cons_succ])
  go_cut [20] (fun v20 wc => ∃ (kq : Nat) (x20_4 : Bool), v20 = .bool x20_4 ∧ Aside0 (bobbinref01_within.j0 kq a0 a1 a2 x20_4 = some r) ∧ Aside0 (kq ≤ k) ∧ Drawn0 w wc)
  case first =>
    have H := HC5.out
    clear HC5
    by_cases c6 : a1 ≥ t101
    · rw [if_pos c6] at H
      have c6b0 : decide (t101 ≤ a1) = true := decide_eq_true c6
      clear c6
      (first | rw [c6b0] | (simp only [i64_w, i32_w]; rw [c6b0]) | skip)
      have H' := Aside0.mk H
      clear H
      go_wp2
      go_meet
      case rel => exact ⟨_, (true), (by first | rfl | (simp; done) | (simp [*]; done)), H', ⟨by first | omega | exact Nat.le_refl _⟩, by repeat (first | exact Drawn0.refl _ | apply Drawn0.step)⟩
    · rw [if_neg c6] at H
      have c6b0 : decide (t101 ≤ a1) = false := decide_eq_false c6
      clear c6
      (first | rw [c6b0] | (simp only [i64_w, i32_w]; rw [c6b0]) | skip)
      by_cases c7 : a2 < 128
      · rw [if_pos c7] at H
        have c7b0 : decide (a2 < 128) = true := decide_eq_true c7
        clear c7
        have H' := Aside0.mk H
        clear H
        go_wp2
        go_meet
        case rel => exact ⟨_, (true), (by first | rfl | (simp; done) | (simp [*]; done)), H', ⟨by first | omega | exact Nat.le_refl _⟩, by repeat (first | exact Drawn0.refl _ | apply Drawn0.step)⟩
      · rw [if_neg c7] at H
        have c7b0 : decide (a2 < 128) = false := decide_eq_false c7
        clear c7
        have H' := Aside0.mk H
        clear H
        go_wp2
        go_meet
        case rel => exact ⟨_, (decide (a2 > 191)), (by first | rfl | (simp; done) | (simp [*]; done)), H', ⟨by first | omega | exact Nat.le_refl _⟩, by repeat (first | exact Drawn0.refl _ | apply Drawn0.step)⟩
  case rest =>
    clear HC5
    try clear p2
    try clear c6
    try clear c6b0
    try clear c7
    try clear c7b0
    obtain ⟨kq, x20_4, rfl, HA, HJ4, ⟨mc4, rfl⟩⟩ := hcut
    cases kq with
    | zero => exact absurd HA.out (by simp [bobbinref01_within.j0])
    | succ kj4 =>
      have H := HA.out
      clear HA
      simp only [bobbinref01_within.j0] at H
      by_cases c8 : x20_4 = true
      · subst c8
        have H1 : (some false) = some r := by rw [if_pos rfl] at H; exact H
        clear H
        have H := H1
        clear H1
        obtain rfl := Option.some.inj H
        go_wp2
        go_ret
        exact ⟨by first | rfl | (simp; done) | (simp [*]; done), by repeat (first | exact Drawn0.refl _ | apply Drawn0.step)⟩
      · replace c8 := Bool.eq_false_iff.mpr c8
        subst c8
        have H1 : (if a1 > 1 then (some true) else (if a0 = 224 then (if a2 < 160 then (some (!true)) else (if a0 = 237 then (if a2 > 159 then (some (!true)) else (if a0 = 240 then (if a2 < 144 then (some (!true)) else (if a0 = 244 then (some (!(decide (a2 > 143)))) else (some (!false)))) else (if a0 = 244 then (some (!(decide (a2 > 143)))) else (some (!false))))) else (if a0 = 240 then (if a2 < 144 then (some (!true)) else (if a0 = 244 then (some (!(decide (a2 > 143)))) else (some (!false)))) else (if a0 = 244 then (some (!(decide (a2 > 143)))) else (some (!false)))))) else (if a0 = 237 then (if a2 > 159 then (some (!true)) else (if a0 = 240 then (if a2 < 144 then (some (!true)) else (if a0 = 244 then (some (!(decide (a2 > 143)))) else (some (!false)))) else (if a0 = 244 then (some (!(decide (a2 > 143)))) else (some (!false))))) else (if a0 = 240 then (if a2 < 144 then (some (!true)) else (if a0 = 244 then (some (!(decide (a2 > 143)))) else (some (!false)))) else (if a0 = 244 then (some (!(decide (a2 > 143)))) else (some (!false))))))) = some r := by rw [if_neg (show ¬ (false = true) by decide)] at H; exact H
        clear H
        have H := H1
        clear H1
        by_cases c9 : a1 > 1
        · rw [if_pos c9] at H
          have c9b0 : decide (1 < a1) = true := decide_eq_true c9
          clear c9
          obtain rfl := Option.some.inj H
          go_wp2
          go_ret
          exact ⟨by first | rfl | (simp; done) | (simp [*]; done), by repeat (first | exact Drawn0.refl _ | apply Drawn0.step)⟩
        · rw [if_neg c9] at H
          have c9b0 : decide (1 < a1) = false := decide_eq_false c9
          clear c9
          by_cases c10 : a0 = 224
          · rw [if_pos c10] at H
            have c10b0 : (a0 == 224) = true := beq_iff_eq.mpr c10
            have c10b1 : (a0 != 224) = false := bne_eq_false_iff_eq.mpr c10
            clear c10
            by_cases c11 : a2 < 160
            · rw [if_pos c11] at H
              have c11b0 : decide (a2 < 160) = true := decide_eq_true c11
              clear c11
              obtain rfl := Option.some.inj H
              go_wp2
              go_ret
              exact ⟨by first | rfl | (simp; done) | (simp [*]; done), by repeat (first | exact Drawn0.refl _ | apply Drawn0.step)⟩
            · rw [if_neg c11] at H
              have c11b0 : decide (a2 < 160) = false := decide_eq_false c11
              clear c11
              by_cases c12 : a0 = 237
              · rw [if_pos c12] at H
                have c12b0 : (a0 == 237) = true := beq_iff_eq.mpr c12
                have c12b1 : (a0 != 237) = false := bne_eq_false_iff_eq.mpr c12
                clear c12
                by_cases c13 : a2 > 159
                · rw [if_pos c13] at H
                  have c13b0 : decide (159 < a2) = true := decide_eq_true c13
                  clear c13
                  obtain rfl := Option.some.inj H
                  go_wp2
                  go_ret
                  exact ⟨by first | rfl | (simp; done) | (simp [*]; done), by repeat (first | exact Drawn0.refl _ | apply Drawn0.step)⟩
                · rw [if_neg c13] at H
                  have c13b0 : decide (159 < a2) = false := decide_eq_false c13
                  clear c13
                  by_cases c14 : a0 = 240
                  · rw [if_pos c14] at H
                    have c14b0 : (a0 == 240) = true := beq_iff_eq.mpr c14
                    have c14b1 : (a0 != 240) = false := bne_eq_false_iff_eq.mpr c14
                    clear c14
                    by_cases c15 : a2 < 144
                    · rw [if_pos c15] at H
                      have c15b0 : decide (a2 < 144) = true := decide_eq_true c15
                      clear c15
                      obtain rfl := Option.some.inj H
                      go_wp2
                      go_ret
                      exact ⟨by first | rfl | (simp; done) | (simp [*]; done), by repeat (first | exact Drawn0.refl _ | apply Drawn0.step)⟩
                    · rw [if_neg c15] at H
                      have c15b0 : decide (a2 < 144) = false := decide_eq_false c15
                      clear c15
                      by_cases c16 : a0 = 244
                      · rw [if_pos c16] at H
                        have c16b0 : (a0 == 244) = true := beq_iff_eq.mpr c16
                        have c16b1 : (a0 != 244) = false := bne_eq_false_iff_eq.mpr c16
                        clear c16
                        obtain rfl := Option.some.inj H
                        go_wp2
                        go_ret
                        exact ⟨by first | rfl | (simp; done) | (simp [*]; done), by repeat (first | exact Drawn0.refl _ | apply Drawn0.step)⟩
                      · rw [if_neg c16] at H
                        have c16b0 : (a0 == 244) = false := beq_eq_false_iff_ne.mpr c16
                        have c16b1 : (a0 != 244) = true := bne_iff_ne.mpr c16
                        obtain rfl := Option.some.inj H
                        go_wp2
                        go_ret
                        exact ⟨by first | rfl | (simp; done) | (simp [*]; done), by repeat (first | exact Drawn0.refl _ | apply Drawn0.step)⟩
                  · rw [if_neg c14] at H
                    have c14b0 : (a0 == 240) = false := beq_eq_false_iff_ne.mpr c14
                    have c14b1 : (a0 != 240) = true := bne_iff_ne.mpr c14
                    by_cases c17 : a0 = 244
                    · rw [if_pos c17] at H
                      have c17b0 : (a0 == 244) = true := beq_iff_eq.mpr c17
                      have c17b1 : (a0 != 244) = false := bne_eq_false_iff_eq.mpr c17
                      clear c17
                      obtain rfl := Option.some.inj H
                      go_wp2
                      go_ret
                      exact ⟨by first | rfl | (simp; done) | (simp [*]; done), by repeat (first | exact Drawn0.refl _ | apply Drawn0.step)⟩
                    · rw [if_neg c17] at H
                      have c17b0 : (a0 == 244) = false := beq_eq_false_iff_ne.mpr c17
                      have c17b1 : (a0 != 244) = true := bne_iff_ne.mpr c17
                      obtain rfl := Option.some.inj H
                      go_wp2
                      go_ret
                      exact ⟨by first | rfl | (simp; done) | (simp [*]; done), by repeat (first | exact Drawn0.refl _ | apply Drawn0.step)⟩
              · rw [if_neg c12] at H
                have c12b0 : (a0 == 237) = false := beq_eq_false_iff_ne.mpr c12
                have c12b1 : (a0 != 237) = true := bne_iff_ne.mpr c12
                by_cases c18 : a0 = 240
                · rw [if_pos c18] at H
                  have c18b0 : (a0 == 240) = true := beq_iff_eq.mpr c18
                  have c18b1 : (a0 != 240) = false := bne_eq_false_iff_eq.mpr c18
                  clear c18
                  by_cases c19 : a2 < 144
                  · rw [if_pos c19] at H
                    have c19b0 : decide (a2 < 144) = true := decide_eq_true c19
                    clear c19
                    obtain rfl := Option.some.inj H
                    go_wp2
                    go_ret
                    exact ⟨by first | rfl | (simp; done) | (simp [*]; done), by repeat (first | exact Drawn0.refl _ | apply Drawn0.step)⟩
                  · rw [if_neg c19] at H
                    have c19b0 : decide (a2 < 144) = false := decide_eq_false c19
                    clear c19
                    by_cases c20 : a0 = 244
                    · rw [if_pos c20] at H
                      have c20b0 : (a0 == 244) = true := beq_iff_eq.mpr c20
                      have c20b1 : (a0 != 244) = false := bne_eq_false_iff_eq.mpr c20
                      clear c20
                      obtain rfl := Option.some.inj H
                      go_wp2
                      go_ret
                      exact ⟨by first | rfl | (simp; done) | (simp [*]; done), by repeat (first | exact Drawn0.refl _ | apply Drawn0.step)⟩
                    · rw [if_neg c20] at H
                      have c20b0 : (a0 == 244) = false := beq_eq_false_iff_ne.mpr c20
                      have c20b1 : (a0 != 244) = true := bne_iff_ne.mpr c20
                      obtain rfl := Option.some.inj H
                      go_wp2
                      go_ret
                      exact ⟨by first | rfl | (simp; done) | (simp [*]; done), by repeat (first | exact Drawn0.refl _ | apply Drawn0.step)⟩
                · rw [if_neg c18] at H
                  have c18b0 : (a0 == 240) = false := beq_eq_false_iff_ne.mpr c18
                  have c18b1 : (a0 != 240) = true := bne_iff_ne.mpr c18
                  by_cases c21 : a0 = 244
                  · rw [if_pos c21] at H
                    have c21b0 : (a0 == 244) = true := beq_iff_eq.mpr c21
                    have c21b1 : (a0 != 244) = false := bne_eq_false_iff_eq.mpr c21
                    clear c21
                    obtain rfl := Option.some.inj H
                    go_wp2
                    go_ret
                    exact ⟨by first | rfl | (simp; done) | (simp [*]; done), by repeat (first | exact Drawn0.refl _ | apply Drawn0.step)⟩
                  · rw [if_neg c21] at H
                    have c21b0 : (a0 == 244) = false := beq_eq_false_iff_ne.mpr c21
                    have c21b1 : (a0 != 244) = true := bne_iff_ne.mpr c21
                    obtain rfl := Option.some.inj H
                    go_wp2
                    go_ret
                    exact ⟨by first | rfl | (simp; done) | (simp [*]; done), by repeat (first | exact Drawn0.refl _ | apply Drawn0.step)⟩
          · rw [if_neg c10] at H
            have c10b0 : (a0 == 224) = false := beq_eq_false_iff_ne.mpr c10
            have c10b1 : (a0 != 224) = true := bne_iff_ne.mpr c10
            by_cases c22 : a0 = 237
            · rw [if_pos c22] at H
              have c22b0 : (a0 == 237) = true := beq_iff_eq.mpr c22
              have c22b1 : (a0 != 237) = false := bne_eq_false_iff_eq.mpr c22
              clear c22
              by_cases c23 : a2 > 159
              · rw [if_pos c23] at H
                have c23b0 : decide (159 < a2) = true := decide_eq_true c23
                clear c23
                obtain rfl := Option.some.inj H
                go_wp2
                go_ret
                exact ⟨by first | rfl | (simp; done) | (simp [*]; done), by repeat (first | exact Drawn0.refl _ | apply Drawn0.step)⟩
              · rw [if_neg c23] at H
                have c23b0 : decide (159 < a2) = false := decide_eq_false c23
                clear c23
                by_cases c24 : a0 = 240
                · rw [if_pos c24] at H
                  have c24b0 : (a0 == 240) = true := beq_iff_eq.mpr c24
                  have c24b1 : (a0 != 240) = false := bne_eq_false_iff_eq.mpr c24
                  clear c24
                  by_cases c25 : a2 < 144
                  · rw [if_pos c25] at H
                    have c25b0 : decide (a2 < 144) = true := decide_eq_true c25
                    clear c25
                    obtain rfl := Option.some.inj H
                    go_wp2
                    go_ret
                    exact ⟨by first | rfl | (simp; done) | (simp [*]; done), by repeat (first | exact Drawn0.refl _ | apply Drawn0.step)⟩
                  · rw [if_neg c25] at H
                    have c25b0 : decide (a2 < 144) = false := decide_eq_false c25
                    clear c25
                    by_cases c26 : a0 = 244
                    · rw [if_pos c26] at H
                      have c26b0 : (a0 == 244) = true := beq_iff_eq.mpr c26
                      have c26b1 : (a0 != 244) = false := bne_eq_false_iff_eq.mpr c26
                      clear c26
                      obtain rfl := Option.some.inj H
                      go_wp2
                      go_ret
                      exact ⟨by first | rfl | (simp; done) | (simp [*]; done), by repeat (first | exact Drawn0.refl _ | apply Drawn0.step)⟩
                    · rw [if_neg c26] at H
                      have c26b0 : (a0 == 244) = false := beq_eq_false_iff_ne.mpr c26
                      have c26b1 : (a0 != 244) = true := bne_iff_ne.mpr c26
                      obtain rfl := Option.some.inj H
                      go_wp2
                      go_ret
                      exact ⟨by first | rfl | (simp; done) | (simp [*]; done), by repeat (first | exact Drawn0.refl _ | apply Drawn0.step)⟩
                · rw [if_neg c24] at H
                  have c24b0 : (a0 == 240) = false := beq_eq_false_iff_ne.mpr c24
                  have c24b1 : (a0 != 240) = true := bne_iff_ne.mpr c24
                  by_cases c27 : a0 = 244
                  · rw [if_pos c27] at H
                    have c27b0 : (a0 == 244) = true := beq_iff_eq.mpr c27
                    have c27b1 : (a0 != 244) = false := bne_eq_false_iff_eq.mpr c27
                    clear c27
                    obtain rfl := Option.some.inj H
                    go_wp2
                    go_ret
                    exact ⟨by first | rfl | (simp; done) | (simp [*]; done), by repeat (first | exact Drawn0.refl _ | apply Drawn0.step)⟩
                  · rw [if_neg c27] at H
                    have c27b0 : (a0 == 244) = false := beq_eq_false_iff_ne.mpr c27
                    have c27b1 : (a0 != 244) = true := bne_iff_ne.mpr c27
                    obtain rfl := Option.some.inj H
                    go_wp2
                    go_ret
                    exact ⟨by first | rfl | (simp; done) | (simp [*]; done), by repeat (first | exact Drawn0.refl _ | apply Drawn0.step)⟩
            · rw [if_neg c22] at H
              have c22b0 : (a0 == 237) = false := beq_eq_false_iff_ne.mpr c22
              have c22b1 : (a0 != 237) = true := bne_iff_ne.mpr c22
              by_cases c28 : a0 = 240
              · rw [if_pos c28] at H
                have c28b0 : (a0 == 240) = true := beq_iff_eq.mpr c28
                have c28b1 : (a0 != 240) = false := bne_eq_false_iff_eq.mpr c28
                clear c28
                by_cases c29 : a2 < 144
                · rw [if_pos c29] at H
                  have c29b0 : decide (a2 < 144) = true := decide_eq_true c29
                  clear c29
                  obtain rfl := Option.some.inj H
                  go_wp2
                  go_ret
                  exact ⟨by first | rfl | (simp; done) | (simp [*]; done), by repeat (first | exact Drawn0.refl _ | apply Drawn0.step)⟩
                · rw [if_neg c29] at H
                  have c29b0 : decide (a2 < 144) = false := decide_eq_false c29
                  clear c29
                  by_cases c30 : a0 = 244
                  · rw [if_pos c30] at H
                    have c30b0 : (a0 == 244) = true := beq_iff_eq.mpr c30
                    have c30b1 : (a0 != 244) = false := bne_eq_false_iff_eq.mpr c30
                    clear c30
                    obtain rfl := Option.some.inj H
                    go_wp2
                    go_ret
                    exact ⟨by first | rfl | (simp; done) | (simp [*]; done), by repeat (first | exact Drawn0.refl _ | apply Drawn0.step)⟩
                  · rw [if_neg c30] at H
                    have c30b0 : (a0 == 244) = false := beq_eq_false_iff_ne.mpr c30
                    have c30b1 : (a0 != 244) = true := bne_iff_ne.mpr c30
                    obtain rfl := Option.some.inj H
                    go_wp2
                    go_ret
                    exact ⟨by first | rfl | (simp; done) | (simp [*]; done), by repeat (first | exact Drawn0.refl _ | apply Drawn0.step)⟩
              · rw [if_neg c28] at H
                have c28b0 : (a0 == 240) = false := beq_eq_false_iff_ne.mpr c28
                have c28b1 : (a0 != 240) = true := bne_iff_ne.mpr c28
                by_cases c31 : a0 = 244
                · rw [if_pos c31] at H
                  have c31b0 : (a0 == 244) = true := beq_iff_eq.mpr c31
                  have c31b1 : (a0 != 244) = false := bne_eq_false_iff_eq.mpr c31
                  clear c31
                  obtain rfl := Option.some.inj H
                  go_wp2
                  go_ret
                  exact ⟨by first | rfl | (simp; done) | (simp [*]; done), by repeat (first | exact Drawn0.refl _ | apply Drawn0.step)⟩
                · rw [if_neg c31] at H
                  have c31b0 : (a0 == 244) = false := beq_eq_false_iff_ne.mpr c31
                  have c31b1 : (a0 != 244) = true := bne_iff_ne.mpr c31
                  obtain rfl := Option.some.inj H
                  go_wp2
                  go_ret
                  exact ⟨by first | rfl | (simp; done) | (simp [*]; done), by repeat (first | exact Drawn0.refl _ | apply Drawn0.step)⟩

/-! ### bobbinref01_Piece: function 85 -/
def bobbinref01_Piece.l0 : Nat → List Int → Int → Int → Option (Int × Bool × Bool)
  | 0, _, _, _ => none
  | k + 1, x0, x5, x6 => if x6 < x5 then (if x6 < (x0.length : Int) then (if 0 < (x0.length : Int) then (if 0 ≤ x6 then ((bobbinref01_within.f k (rd x0 0) x6 (rd x0 x6)).bind fun t106 => (if t106 = true then (bobbinref01_Piece.l0 k x0 x5 (wrap64 (x6 + 1))) else (some (x6, (x6 == x5), (x6 == (x0.length : Int)))))) else (none)) else (none)) else (some (x6, (x6 == x5), (x6 == (x0.length : Int))))) else (some (x6, (x6 == x5), false))
def bobbinref01_Piece.f (k : Nat) (l0 : List Int) : Option (Int × Bool × Bool) := if 0 < (l0.length : Int) then ((bobbinref01_Need.f k (rd l0 0)).bind fun t103 => (if t103 = 0 then (some (1, false, false)) else (bobbinref01_Piece.l0 k l0 t103 1))) else (none)
theorem bobbinref01_Piece.mono_l : ∀ k, (∀ y0 y1 y2, LeO (bobbinref01_Piece.l0 k y0 y1 y2) (bobbinref01_Piece.l0 (k + 1) y0 y1 y2))
  | 0 => fun _ _ _ r h => by simp [bobbinref01_Piece.l0] at h
  | k + 1 => by
    have ih0 := bobbinref01_Piece.mono_l k
    · intro y0 y1 y2
      unfold bobbinref01_Piece.l0
      repeat' first
      | (with_reducible exact ih0 _ _ _)
      | (with_reducible exact bobbinref01_Need.mono _ _)
      | (with_reducible exact bobbinref01_within.mono _ _ _ _)
      | (with_reducible exact LeO.refl _)
      | (with_reducible exact LeO.none _)
      | (with_reducible refine LeO.ite ?_ ?_)
      | (with_reducible refine LeO.bind ?_ (fun _ => ?_))
      | exact ih0 _ _ _
      | exact bobbinref01_Need.mono _ _
      | exact bobbinref01_within.mono _ _ _ _
      | exact LeO.none _
      | refine LeO.ite ?_ ?_
      | refine LeO.bind ?_ (fun _ => ?_)
theorem bobbinref01_Piece.mono : ∀ a0 k, LeO (bobbinref01_Piece.f k a0) (bobbinref01_Piece.f (k + 1) a0) := by
  intro a0 k
  have ih0 := bobbinref01_Piece.mono_l k
  unfold bobbinref01_Piece.f
  repeat' first
      | (with_reducible exact ih0 _ _ _)
      | (with_reducible exact bobbinref01_Need.mono _ _)
      | (with_reducible exact bobbinref01_within.mono _ _ _ _)
      | (with_reducible exact LeO.refl _)
      | (with_reducible exact LeO.none _)
      | (with_reducible refine LeO.ite ?_ ?_)
      | (with_reducible refine LeO.bind ?_ (fun _ => ?_))
      | exact ih0 _ _ _
      | exact bobbinref01_Need.mono _ _
      | exact bobbinref01_within.mono _ _ _ _
      | exact LeO.none _
      | refine LeO.ite ?_ ?_
      | refine LeO.bind ?_ (fun _ => ?_)
set_option maxHeartbeats 8000000 in
set_option maxRecDepth 100000 in
theorem bobbinref01_Piece.calls (k : Nat) (A0 : Option Addr) (c0 : Nat) (l0 : List Int) (r1 : Int) (r2 : Bool) (r3 : Bool) (w : World) (hr0 : Kd.C (Kd.int .u8) w A0 l0.length l0) (hc0 : l0.length ≤ c0) (h : bobbinref01_Piece.f k l0 = some (r1, r2, r3)) :
    Calls Tryd.prog 85 #[.slice A0 l0.length c0] w fun e w' => e = .returned (.tuple #[.int .i64 r1, .bool r2, .bool r3]) ∧ Drawn0 w w' := by
  have HR0 := Aside0.mk hr0
  have HC0 := Aside0.mk hc0
  clear hr0 hc0
  have H : (if 0 < (l0.length : Int) then ((bobbinref01_Need.f k (rd l0 0)).bind fun t103 => (if t103 = 0 then (some (1, false, false)) else (bobbinref01_Piece.l0 k l0 t103 1))) else (none)) = some (r1, r2, r3) := h
  clear h
  by_cases c2 : 0 < (l0.length : Int)
  · rw [if_pos c2] at H
    have c2b0 : decide (0 < (l0.length : Int)) = true := decide_eq_true c2
    have c2b1 : decide (0 < l0.length) = true := decide_eq_true (by omega)
    clear c2
    replace H := Option.bind_eq_some_iff.mp H
    obtain ⟨t103, A30, H⟩ := H
    replace H : (if t103 = 0 then (some (1, false, false)) else (bobbinref01_Piece.l0 k l0 t103 1)) = some (r1, r2, r3) := H
    have A3 := Aside0.mk A30
    clear A30
    by_cases c4 : t103 = 0
    · rw [if_pos c4] at H
      have c4b0 : (t103 == 0) = true := beq_iff_eq.mpr c4
      have c4b1 : (t103 != 0) = false := bne_eq_false_iff_eq.mpr c4
      clear c4
      simp only [Option.some.injEq, Prod.mk.injEq] at H
      obtain ⟨rfl, rfl, rfl⟩ := H
      have p102 : 0 ≤ (0 : Int) := (by omega)
      have q102 : 0 < (l0.length : Int) := of_decide_eq_true (by first | (with_reducible assumption) | assumption)
      obtain ⟨ad102, e102, hx102_0⟩ := Kd.at_int HR0.out 0 p102 q102
      cases e102
      have qi102 : (0 < l0.length) = True := eq_true (by omega)
      (try rw [show ((0 : Int)).toNat = 0 from rfl] at hx102_0)
      (try rw [Addr.add_zero'] at hx102_0)
      replace p102 := eq_true p102
      replace q102 := eq_true q102
      go_enter Tryd.func85, Tryd.ntmps85
      go_wp2_with (first | (go_at_call 94; (with_reducible refine (bobbinref01_Need.calls k (rd l0 0) t103 _ A3.out).mono ?_); rintro e w' ⟨rfl, ⟨nd, rfl⟩⟩; (try first | exact ⟨rfl, _, World.drewN_drewN _ _ _⟩ | exact ⟨rfl, _, Eq.trans (World.drewN_drewN _ _ _) (congrArg (World.drewN _) (Nat.add_assoc _ _ _))⟩)))
      repeat (go_quiet (first | (go_at_call 94; (with_reducible refine (bobbinref01_Need.calls k (rd l0 0) t103 _ A3.out).mono ?_); rintro e w' ⟨rfl, ⟨nd, rfl⟩⟩; (try first | exact ⟨rfl, _, World.drewN_drewN _ _ _⟩ | exact ⟨rfl, _, Eq.trans (World.drewN_drewN _ _ _) (congrArg (World.drewN _) (Nat.add_assoc _ _ _))⟩))); try go_wp2_with (first | (go_at_call 94; (with_reducible refine (bobbinref01_Need.calls k (rd l0 0) t103 _ A3.out).mono ?_); rintro e w' ⟨rfl, ⟨nd, rfl⟩⟩; (try first | exact ⟨rfl, _, World.drewN_drewN _ _ _⟩ | exact ⟨rfl, _, Eq.trans (World.drewN_drewN _ _ _) (congrArg (World.drewN _) (Nat.add_assoc _ _ _))⟩))))
      go_ret3
      exact ⟨by first | rfl | (simp; done) | (simp [*]; done), by repeat (first | exact Drawn0.refl _ | apply Drawn0.step)⟩
    · rw [if_neg c4] at H
      have c4b0 : (t103 == 0) = false := beq_eq_false_iff_ne.mpr c4
      have c4b1 : (t103 != 0) = true := bne_iff_ne.mpr c4
      have H' := Aside0.mk H
      clear H
      have p102 : 0 ≤ (0 : Int) := (by omega)
      have q102 : 0 < (l0.length : Int) := of_decide_eq_true (by first | (with_reducible assumption) | assumption)
      obtain ⟨ad102, e102, hx102_0⟩ := Kd.at_int HR0.out 0 p102 q102
      cases e102
      have qi102 : (0 < l0.length) = True := eq_true (by omega)
      (try rw [show ((0 : Int)).toNat = 0 from rfl] at hx102_0)
      (try rw [Addr.add_zero'] at hx102_0)
      replace p102 := eq_true p102
      replace q102 := eq_true q102
      go_enter Tryd.func85, Tryd.ntmps85
      go_wp2_with (first | (go_at_call 94; (with_reducible refine (bobbinref01_Need.calls k (rd l0 0) t103 _ A3.out).mono ?_); rintro e w' ⟨rfl, ⟨nd, rfl⟩⟩; (try first | exact ⟨rfl, _, World.drewN_drewN _ _ _⟩ | exact ⟨rfl, _, Eq.trans (World.drewN_drewN _ _ _) (congrArg (World.drewN _) (Nat.add_assoc _ _ _))⟩)))
      repeat (go_quiet (first | (go_at_call 94; (with_reducible refine (bobbinref01_Need.calls k (rd l0 0) t103 _ A3.out).mono ?_); rintro e w' ⟨rfl, ⟨nd, rfl⟩⟩; (try first | exact ⟨rfl, _, World.drewN_drewN _ _ _⟩ | exact ⟨rfl, _, Eq.trans (World.drewN_drewN _ _ _) (congrArg (World.drewN _) (Nat.add_assoc _ _ _))⟩))); try go_wp2_with (first | (go_at_call 94; (with_reducible refine (bobbinref01_Need.calls k (rd l0 0) t103 _ A3.out).mono ?_); rintro e w' ⟨rfl, ⟨nd, rfl⟩⟩; (try first | exact ⟨rfl, _, World.drewN_drewN _ _ _⟩ | exact ⟨rfl, _, Eq.trans (World.drewN_drewN _ _ _) (congrArg (World.drewN _) (Nat.add_assoc _ _ _))⟩))))
      go_loopg [6] k (fun kq v6 w' => ∃ (x6_1 : Int), v6 = .int .i64 x6_1 ∧ Aside0 (bobbinref01_Piece.l0 kq l0 t103 x6_1 = some (r1, r2, r3)) ∧ Aside0 (kq ≤ k) ∧ Drawn0 w w')
      case atStart => exact ⟨(1), (by first | rfl | (simp; done) | (simp [*]; done)), H', ⟨Nat.le_refl _⟩, by repeat (first | exact Drawn0.refl _ | apply Drawn0.step)⟩
      case round =>
        clear H'
        try clear p1
        try clear q1
        try clear hx1
        try clear qi1
        try clear c2
        try clear c2b0
        try clear c2b1
        try clear p2
        try clear c4
        try clear c4b0
        try clear c4b1
        try clear hx102_0
        try clear p102
        try clear q102
        obtain ⟨x6_1, rfl, HA, HK1, ⟨m1, rfl⟩⟩ := hrel
        cases gk with
        | zero => exact absurd HA.out (by simp [bobbinref01_Piece.l0])
        | succ k1 =>
          have H := HA.out
          clear HA
          simp only [bobbinref01_Piece.l0] at H
          by_cases c5 : x6_1 < t103
          · rw [if_pos c5] at H
            have c5b0 : decide (x6_1 < t103) = true := decide_eq_true c5
            clear c5
            by_cases c6 : x6_1 < (l0.length : Int)
            · rw [if_pos c6] at H
              have c6b0 : decide (x6_1 < (l0.length : Int)) = true := decide_eq_true c6
              clear c6
              by_cases c7 : 0 < (l0.length : Int)
              · rw [if_pos c7] at H
                have c7b0 : decide (0 < (l0.length : Int)) = true := decide_eq_true c7
                have c7b1 : decide (0 < l0.length) = true := decide_eq_true (by omega)
                clear c7
                by_cases c8 : 0 ≤ x6_1
                · rw [if_pos c8] at H
                  have c8b0 : decide (0 ≤ x6_1) = true := decide_eq_true c8
                  clear c8
                  replace H := Option.bind_eq_some_iff.mp H
                  obtain ⟨t106, A90, H⟩ := H
                  replace H : (if t106 = true then (bobbinref01_Piece.l0 k1 l0 t103 (wrap64 (x6_1 + 1))) else (some (x6_1, (x6_1 == t103), (x6_1 == (l0.length : Int))))) = some (r1, r2, r3) := H
                  have A9 := Aside0.mk A90
                  clear A90
                  by_cases c10 : t106 = true
                  · subst c10
                    have H1 : (bobbinref01_Piece.l0 k1 l0 t103 (wrap64 (x6_1 + 1))) = some (r1, r2, r3) := by rw [if_pos rfl] at H; exact H
                    clear H
                    have H := H1
                    clear H1
                    have H' := Aside0.mk H
                    clear H
                    have p104 : 0 ≤ (0 : Int) := (by omega)
                    have q104 : 0 < (l0.length : Int) := of_decide_eq_true (by first | (with_reducible assumption) | assumption)
                    obtain ⟨ad104, e104, hx104_0⟩ := Kd.at_int HR0.out 0 p104 q104
                    obtain rfl : ad102 = ad104 := (by injection e104)
                    have qi104 : (0 < l0.length) = True := eq_true (by omega)
                    (try rw [show ((0 : Int)).toNat = 0 from rfl] at hx104_0)
                    (try rw [Addr.add_zero'] at hx104_0)
                    replace p104 := eq_true p104
                    replace q104 := eq_true q104
                    have p105 : 0 ≤ (x6_1 : Int) := of_decide_eq_true (by first | (with_reducible assumption) | assumption)
                    have q105 : x6_1 < (l0.length : Int) := of_decide_eq_true (by first | (with_reducible assumption) | assumption)
                    obtain ⟨ad105, e105, hx105_0⟩ := Kd.at_int HR0.out x6_1 p105 q105
                    obtain rfl : ad102 = ad105 := (by injection e105)
                    replace p105 := eq_true p105
                    replace q105 := eq_true q105
                    go_wp2_with (first | (go_at_call 95; (with_reducible refine (bobbinref01_within.calls k1 (rd l0 0) x6_1 (rd l0 x6_1) true _ A9.out).mono ?_); rintro e w' ⟨rfl, ⟨nd, rfl⟩⟩; (try first | exact ⟨rfl, _, World.drewN_drewN _ _ _⟩ | exact ⟨rfl, _, Eq.trans (World.drewN_drewN _ _ _) (congrArg (World.drewN _) (Nat.add_assoc _ _ _))⟩)))
                    repeat (go_quiet (first | (go_at_call 95; (with_reducible refine (bobbinref01_within.calls k1 (rd l0 0) x6_1 (rd l0 x6_1) true _ A9.out).mono ?_); rintro e w' ⟨rfl, ⟨nd, rfl⟩⟩; (try first | exact ⟨rfl, _, World.drewN_drewN _ _ _⟩ | exact ⟨rfl, _, Eq.trans (World.drewN_drewN _ _ _) (congrArg (World.drewN _) (Nat.add_assoc _ _ _))⟩))); try go_wp2_with (first | (go_at_call 95; (with_reducible refine (bobbinref01_within.calls k1 (rd l0 0) x6_1 (rd l0 x6_1) true _ A9.out).mono ?_); rintro e w' ⟨rfl, ⟨nd, rfl⟩⟩; (try first | exact ⟨rfl, _, World.drewN_drewN _ _ _⟩ | exact ⟨rfl, _, Eq.trans (World.drewN_drewN _ _ _) (congrArg (World.drewN _) (Nat.add_assoc _ _ _))⟩))))
                    go_roundg k1
                    case measure => have := HK1.out; omega
                    case rel => exact ⟨(wrap64 (x6_1 + 1)), (by first | rfl | (simp; done) | (simp [*]; done)), H', ⟨by have := HK1.out; omega⟩, by repeat (first | exact Drawn0.refl _ | apply Drawn0.step)⟩
                  · replace c10 := Bool.eq_false_iff.mpr c10
                    subst c10
                    have H1 : (some (x6_1, (x6_1 == t103), (x6_1 == (l0.length : Int)))) = some (r1, r2, r3) := by rw [if_neg (show ¬ (false = true) by decide)] at H; exact H
                    clear H
                    have H := H1
                    clear H1
                    simp only [Option.some.injEq, Prod.mk.injEq] at H
                    obtain ⟨rfl, rfl, rfl⟩ := H
                    have p104 : 0 ≤ (0 : Int) := (by omega)
                    have q104 : 0 < (l0.length : Int) := of_decide_eq_true (by first | (with_reducible assumption) | assumption)
                    obtain ⟨ad104, e104, hx104_0⟩ := Kd.at_int HR0.out 0 p104 q104
                    obtain rfl : ad102 = ad104 := (by injection e104)
                    have qi104 : (0 < l0.length) = True := eq_true (by omega)
                    (try rw [show ((0 : Int)).toNat = 0 from rfl] at hx104_0)
                    (try rw [Addr.add_zero'] at hx104_0)
                    replace p104 := eq_true p104
                    replace q104 := eq_true q104
                    have p105 : 0 ≤ (x6_1 : Int) := of_decide_eq_true (by first | (with_reducible assumption) | assumption)
                    have q105 : x6_1 < (l0.length : Int) := of_decide_eq_true (by first | (with_reducible assumption) | assumption)
                    obtain ⟨ad105, e105, hx105_0⟩ := Kd.at_int HR0.out x6_1 p105 q105
                    obtain rfl : ad102 = ad105 := (by injection e105)
                    replace p105 := eq_true p105
                    replace q105 := eq_true q105
                    go_wp2_with (first | (go_at_call 95; (with_reducible refine (bobbinref01_within.calls k1 (rd l0 0) x6_1 (rd l0 x6_1) false _ A9.out).mono ?_); rintro e w' ⟨rfl, ⟨nd, rfl⟩⟩; (try first | exact ⟨rfl, _, World.drewN_drewN _ _ _⟩ | exact ⟨rfl, _, Eq.trans (World.drewN_drewN _ _ _) (congrArg (World.drewN _) (Nat.add_assoc _ _ _))⟩)))
                    repeat (go_quiet (first | (go_at_call 95; (with_reducible refine (bobbinref01_within.calls k1 (rd l0 0) x6_1 (rd l0 x6_1) false _ A9.out).mono ?_); rintro e w' ⟨rfl, ⟨nd, rfl⟩⟩; (try first | exact ⟨rfl, _, World.drewN_drewN _ _ _⟩ | exact ⟨rfl, _, Eq.trans (World.drewN_drewN _ _ _) (congrArg (World.drewN _) (Nat.add_assoc _ _ _))⟩))); try go_wp2_with (first | (go_at_call 95; (with_reducible refine (bobbinref01_within.calls k1 (rd l0 0) x6_1 (rd l0 x6_1) false _ A9.out).mono ?_); rintro e w' ⟨rfl, ⟨nd, rfl⟩⟩; (try first | exact ⟨rfl, _, World.drewN_drewN _ _ _⟩ | exact ⟨rfl, _, Eq.trans (World.drewN_drewN _ _ _) (congrArg (World.drewN _) (Nat.add_assoc _ _ _))⟩))))
                    go_ret3
                    exact ⟨by first | rfl | (simp; done) | (simp [*]; done), by repeat (first | exact Drawn0.refl _ | apply Drawn0.step)⟩
                · rw [if_neg c8] at H
                  exact absurd H (by simp)
              · rw [if_neg c7] at H
                exact absurd H (by simp)
            · rw [if_neg c6] at H
              have c6b0 : decide (x6_1 < (l0.length : Int)) = false := decide_eq_false c6
              clear c6
              simp only [Option.some.injEq, Prod.mk.injEq] at H
              obtain ⟨rfl, rfl, rfl⟩ := H
              go_wp2
              repeat (go_quiet (fail); try go_wp2)
              go_ret3
              exact ⟨by first | rfl | (simp; done) | (simp [*]; done), by repeat (first | exact Drawn0.refl _ | apply Drawn0.step)⟩
          · rw [if_neg c5] at H
            have c5b0 : decide (x6_1 < t103) = false := decide_eq_false c5
            clear c5
            simp only [Option.some.injEq, Prod.mk.injEq] at H
            obtain ⟨rfl, rfl, rfl⟩ := H
            go_wp2
            repeat (go_quiet (fail); try go_wp2)
            go_ret3
            exact ⟨by first | rfl | (simp; done) | (simp [*]; done), by repeat (first | exact Drawn0.refl _ | apply Drawn0.step)⟩
  · rw [if_neg c2] at H
    exact absurd H (by simp)

end Go.Proofs.YtdpnnglfaofjeaaDoor.PUtf

import Derived.WalkLawsBesides
import Derived.WalkSpells
import Derived.Outline
import Derived.Lib.Hide
import Derived.Lib.SlBytesConst
import Derived.Lib.RuneBytes
import Derived.Test.YtdpnnglfaofjeaaDoorZF3
namespace Go.Proofs.YtdpnnglfaofjeaaDoor.PEp
open Go.RowKit Go.Proofs.YtdpnnglfaofjeaaDoorW.PrintWords Go.Proofs.YtdpnnglfaofjeaaDoorW.PrintLast Go.Proofs.YtdpnnglfaofjeaaDoorW.PrintMore
attribute [local go_sem] max2_int min2_int max_two min_two max_three min_three max_four min_four   -- for this text's walks alone
set_option linter.unusedVariables false
set_option linter.unusedSimpArgs false
def errW : Option Int → Value
  | none => .nilIface
  | some c => .iface 0 (.int .i64 c)
theorem errW_none : errW none = .nilIface := rfl
theorem errW_some (c : Int) : errW (some c) = .iface 0 (.int .i64 c) := rfl
theorem info5 : (Tryd.prog.info? 5).map (fun i => (i.zero, i.size, i.bytes)) = some (some (.int .u8 0), 1, 1) := by kernel_rfl
end Go.Proofs.YtdpnnglfaofjeaaDoor.PEp
namespace Go.Proofs.YtdpnnglfaofjeaaDoor.PEp
open Go.RowKit Go.Proofs.YtdpnnglfaofjeaaDoorW.PrintWords Go.Proofs.YtdpnnglfaofjeaaDoorW.PrintLast Go.Proofs.YtdpnnglfaofjeaaDoorW.PrintMore
attribute [local go_sem] max2_int min2_int max_two min_two max_three min_three max_four min_four   -- for this text's walks alone
set_option linter.unusedVariables false
set_option linter.unusedSimpArgs false
def strings_IndexByte.f (a0 : ByteArray) (a1 : Int) : Option Int := some (Lib.indexByte a0.data.toList a1.toNat.toUInt8)
theorem strings_IndexByte.calls (a0 : ByteArray) (a1 : Int) (r : Int) (w : World) (h : strings_IndexByte.f a0 a1 = some r) :
    Calls Tryd.prog 117 #[.string a0, .int .u8 a1] w fun e w' => e = .returned (.int .i64 r) ∧ Drawn0 w w' := by
  unfold strings_IndexByte.f at h
  injection h with h; subst h; exact (Tryd.strings_IndexByte a0 a1 w).mono fun e w' ⟨h1, h2⟩ => ⟨h1, by subst h2; exact Drawn0.refl _⟩
def percent_simple.f (a0 : Int) : Option (Bool) := if a0 ≥ 97 then (if a0 ≤ 122 then (some true) else (if a0 ≥ 65 then (if a0 ≤ 90 then (some true) else (if a0 ≥ 48 then (if a0 ≤ 57 then (some true) else (if a0 = 0 then (some false) else ((strings_IndexByte.f (⟨#[45, 46, 95, 126]⟩ : ByteArray) a0).bind fun t101 => (some (decide (t101 ≥ 0)))))) else (if a0 = 0 then (some false) else ((strings_IndexByte.f (⟨#[45, 46, 95, 126]⟩ : ByteArray) a0).bind fun t102 => (some (decide (t102 ≥ 0))))))) else (if a0 ≥ 48 then (if a0 ≤ 57 then (some true) else (if a0 = 0 then (some false) else ((strings_IndexByte.f (⟨#[45, 46, 95, 126]⟩ : ByteArray) a0).bind fun t103 => (some (decide (t103 ≥ 0)))))) else (if a0 = 0 then (some false) else ((strings_IndexByte.f (⟨#[45, 46, 95, 126]⟩ : ByteArray) a0).bind fun t104 => (some (decide (t104 ≥ 0)))))))) else (if a0 ≥ 65 then (if a0 ≤ 90 then (some true) else (if a0 ≥ 48 then (if a0 ≤ 57 then (some true) else (if a0 = 0 then (some false) else ((strings_IndexByte.f (⟨#[45, 46, 95, 126]⟩ : ByteArray) a0).bind fun t105 => (some (decide (t105 ≥ 0)))))) else (if a0 = 0 then (some false) else ((strings_IndexByte.f (⟨#[45, 46, 95, 126]⟩ : ByteArray) a0).bind fun t106 => (some (decide (t106 ≥ 0))))))) else (if a0 ≥ 48 then (if a0 ≤ 57 then (some true) else (if a0 = 0 then (some false) else ((strings_IndexByte.f (⟨#[45, 46, 95, 126]⟩ : ByteArray) a0).bind fun t107 => (some (decide (t107 ≥ 0)))))) else (if a0 = 0 then (some false) else ((strings_IndexByte.f (⟨#[45, 46, 95, 126]⟩ : ByteArray) a0).bind fun t108 => (some (decide (t108 ≥ 0)))))))
set_option maxHeartbeats 8000000 in
set_option maxRecDepth 100000 in
theorem percent_simple.calls (a0 : Int) (r : Bool) (w : World) (h : percent_simple.f a0 = some r) :
    Calls Tryd.prog 118 #[.int .u8 a0] w fun e w' => e = .returned (.bool r) ∧ Drawn0 w w' := by
  have H : (if a0 ≥ 97 then (if a0 ≤ 122 then (some true) else (if a0 ≥ 65 then (if a0 ≤ 90 then (some true) else (if a0 ≥ 48 then (if a0 ≤ 57 then (some true) else (if a0 = 0 then (some false) else ((strings_IndexByte.f (⟨#[45, 46, 95, 126]⟩ : ByteArray) a0).bind fun t101 => (some (decide (t101 ≥ 0)))))) else (if a0 = 0 then (some false) else ((strings_IndexByte.f (⟨#[45, 46, 95, 126]⟩ : ByteArray) a0).bind fun t102 => (some (decide (t102 ≥ 0))))))) else (if a0 ≥ 48 then (if a0 ≤ 57 then (some true) else (if a0 = 0 then (some false) else ((strings_IndexByte.f (⟨#[45, 46, 95, 126]⟩ : ByteArray) a0).bind fun t103 => (some (decide (t103 ≥ 0)))))) else (if a0 = 0 then (some false) else ((strings_IndexByte.f (⟨#[45, 46, 95, 126]⟩ : ByteArray) a0).bind fun t104 => (some (decide (t104 ≥ 0)))))))) else (if a0 ≥ 65 then (if a0 ≤ 90 then (some true) else (if a0 ≥ 48 then (if a0 ≤ 57 then (some true) else (if a0 = 0 then (some false) else ((strings_IndexByte.f (⟨#[45, 46, 95, 126]⟩ : ByteArray) a0).bind fun t105 => (some (decide (t105 ≥ 0)))))) else (if a0 = 0 then (some false) else ((strings_IndexByte.f (⟨#[45, 46, 95, 126]⟩ : ByteArray) a0).bind fun t106 => (some (decide (t106 ≥ 0))))))) else (if a0 ≥ 48 then (if a0 ≤ 57 then (some true) else (if a0 = 0 then (some false) else ((strings_IndexByte.f (⟨#[45, 46, 95, 126]⟩ : ByteArray) a0).bind fun t107 => (some (decide (t107 ≥ 0)))))) else (if a0 = 0 then (some false) else ((strings_IndexByte.f (⟨#[45, 46, 95, 126]⟩ : ByteArray) a0).bind fun t108 => (some (decide (t108 ≥ 0)))))))) = some r := h
  clear h
  by_cases c2 : a0 ≥ 97
  · rw [if_pos c2] at H
    have c2b0 : decide (97 ≤ a0) = true := decide_eq_true c2
    clear c2
    by_cases c3 : a0 ≤ 122
    · rw [if_pos c3] at H
      have c3b0 : decide (a0 ≤ 122) = true := decide_eq_true c3
      clear c3
      obtain rfl := Option.some.inj H
      go_enter Tryd.func118, Tryd.ntmps118
      go_wp2
      go_ret
      exact ⟨by first | rfl | (simp; done) | (simp [*]; done), by repeat (first | exact Drawn0.refl _ | apply Drawn0.step)⟩
    · rw [if_neg c3] at H
      have c3b0 : decide (a0 ≤ 122) = false := decide_eq_false c3
      clear c3
      by_cases c4 : a0 ≥ 65
      · rw [if_pos c4] at H
        have c4b0 : decide (65 ≤ a0) = true := decide_eq_true c4
        clear c4
        by_cases c5 : a0 ≤ 90
        · rw [if_pos c5] at H
          have c5b0 : decide (a0 ≤ 90) = true := decide_eq_true c5
          clear c5
          obtain rfl := Option.some.inj H
          go_enter Tryd.func118, Tryd.ntmps118
          go_wp2
          go_ret
          exact ⟨by first | rfl | (simp; done) | (simp [*]; done), by repeat (first | exact Drawn0.refl _ | apply Drawn0.step)⟩
        · rw [if_neg c5] at H
          have c5b0 : decide (a0 ≤ 90) = false := decide_eq_false c5
          clear c5
          by_cases c6 : a0 ≥ 48
          · rw [if_pos c6] at H
            have c6b0 : decide (48 ≤ a0) = true := decide_eq_true c6
            clear c6
            by_cases c7 : a0 ≤ 57
            · rw [if_pos c7] at H
              have c7b0 : decide (a0 ≤ 57) = true := decide_eq_true c7
              clear c7
              obtain rfl := Option.some.inj H
              go_enter Tryd.func118, Tryd.ntmps118
              go_wp2
              go_ret
              exact ⟨by first | rfl | (simp; done) | (simp [*]; done), by repeat (first | exact Drawn0.refl _ | apply Drawn0.step)⟩
            · rw [if_neg c7] at H
              have c7b0 : decide (a0 ≤ 57) = false := decide_eq_false c7
              clear c7
              by_cases c8 : a0 = 0
              · rw [if_pos c8] at H
                have c8b0 : (a0 == 0) = true := beq_iff_eq.mpr c8
                have c8b1 : (a0 != 0) = false := bne_eq_false_iff_eq.mpr c8
                clear c8
                obtain rfl := Option.some.inj H
                go_enter Tryd.func118, Tryd.ntmps118
                go_wp2
                go_ret
                exact ⟨by first | rfl | (simp; done) | (simp [*]; done), by repeat (first | exact Drawn0.refl _ | apply Drawn0.step)⟩
              · rw [if_neg c8] at H
                have c8b0 : (a0 == 0) = false := beq_eq_false_iff_ne.mpr c8
                have c8b1 : (a0 != 0) = true := bne_iff_ne.mpr c8
                replace H := Option.bind_eq_some_iff.mp H
                obtain ⟨t101, A90, H⟩ := H
                replace H : (some (decide (t101 ≥ 0))) = some r := H
                have A9 := Aside0.mk A90
                clear A90
                obtain rfl := Option.some.inj H
                go_enter Tryd.func118, Tryd.ntmps118
                go_wp2_with (first | (go_at_call 117; (with_reducible refine (strings_IndexByte.calls (⟨#[45, 46, 95, 126]⟩ : ByteArray) a0 t101 _ A9.out).mono ?_); rintro e w' ⟨rfl, ⟨nd, rfl⟩⟩))
                go_ret
                exact ⟨by first | rfl | (simp; done) | (simp [*]; done), by repeat (first | exact Drawn0.refl _ | apply Drawn0.step)⟩
          · rw [if_neg c6] at H
            have c6b0 : decide (48 ≤ a0) = false := decide_eq_false c6
            clear c6
            by_cases c10 : a0 = 0
            · rw [if_pos c10] at H
              have c10b0 : (a0 == 0) = true := beq_iff_eq.mpr c10
              have c10b1 : (a0 != 0) = false := bne_eq_false_iff_eq.mpr c10
              clear c10
              obtain rfl := Option.some.inj H
              go_enter Tryd.func118, Tryd.ntmps118
              go_wp2
              go_ret
              exact ⟨by first | rfl | (simp; done) | (simp [*]; done), by repeat (first | exact Drawn0.refl _ | apply Drawn0.step)⟩
            · rw [if_neg c10] at H
              have c10b0 : (a0 == 0) = false := beq_eq_false_iff_ne.mpr c10
              have c10b1 : (a0 != 0) = true := bne_iff_ne.mpr c10
              replace H := Option.bind_eq_some_iff.mp H
              obtain ⟨t102, A110, H⟩ := H
              replace H : (some (decide (t102 ≥ 0))) = some r := H
              have A11 := Aside0.mk A110
              clear A110
              obtain rfl := Option.some.inj H
              go_enter Tryd.func118, Tryd.ntmps118
              go_wp2_with (first | (go_at_call 117; (with_reducible refine (strings_IndexByte.calls (⟨#[45, 46, 95, 126]⟩ : ByteArray) a0 t102 _ A11.out).mono ?_); rintro e w' ⟨rfl, ⟨nd, rfl⟩⟩))
              go_ret
              exact ⟨by first | rfl | (simp; done) | (simp [*]; done), by repeat (first | exact Drawn0.refl _ | apply Drawn0.step)⟩
      · rw [if_neg c4] at H
        have c4b0 : decide (65 ≤ a0) = false := decide_eq_false c4
        clear c4
        by_cases c12 : a0 ≥ 48
        · rw [if_pos c12] at H
          have c12b0 : decide (48 ≤ a0) = true := decide_eq_true c12
          clear c12
          by_cases c13 : a0 ≤ 57
          · rw [if_pos c13] at H
            have c13b0 : decide (a0 ≤ 57) = true := decide_eq_true c13
            clear c13
            obtain rfl := Option.some.inj H
            go_enter Tryd.func118, Tryd.ntmps118
            go_wp2
            go_ret
            exact ⟨by first | rfl | (simp; done) | (simp [*]; done), by repeat (first | exact Drawn0.refl _ | apply Drawn0.step)⟩
          · rw [if_neg c13] at H
            have c13b0 : decide (a0 ≤ 57) = false := decide_eq_false c13
            clear c13
            by_cases c14 : a0 = 0
            · rw [if_pos c14] at H
              have c14b0 : (a0 == 0) = true := beq_iff_eq.mpr c14
              have c14b1 : (a0 != 0) = false := bne_eq_false_iff_eq.mpr c14
              clear c14
              obtain rfl := Option.some.inj H
              go_enter Tryd.func118, Tryd.ntmps118
              go_wp2
              go_ret
              exact ⟨by first | rfl | (simp; done) | (simp [*]; done), by repeat (first | exact Drawn0.refl _ | apply Drawn0.step)⟩
            · rw [if_neg c14] at H
              have c14b0 : (a0 == 0) = false := beq_eq_false_iff_ne.mpr c14
              have c14b1 : (a0 != 0) = true := bne_iff_ne.mpr c14
              replace H := Option.bind_eq_some_iff.mp H
              obtain ⟨t103, A150, H⟩ := H
              replace H : (some (decide (t103 ≥ 0))) = some r := H
              have A15 := Aside0.mk A150
              clear A150
              obtain rfl := Option.some.inj H
              go_enter Tryd.func118, Tryd.ntmps118
              go_wp2_with (first | (go_at_call 117; (with_reducible refine (strings_IndexByte.calls (⟨#[45, 46, 95, 126]⟩ : ByteArray) a0 t103 _ A15.out).mono ?_); rintro e w' ⟨rfl, ⟨nd, rfl⟩⟩))
              go_ret
              exact ⟨by first | rfl | (simp; done) | (simp [*]; done), by repeat (first | exact Drawn0.refl _ | apply Drawn0.step)⟩
        · rw [if_neg c12] at H
          have c12b0 : decide (48 ≤ a0) = false := decide_eq_false c12
          clear c12
          by_cases c16 : a0 = 0
          · rw [if_pos c16] at H
            have c16b0 : (a0 == 0) = true := beq_iff_eq.mpr c16
            have c16b1 : (a0 != 0) = false := bne_eq_false_iff_eq.mpr c16
            clear c16
            obtain rfl := Option.some.inj H
            go_enter Tryd.func118, Tryd.ntmps118
            go_wp2
            go_ret
            exact ⟨by first | rfl | (simp; done) | (simp [*]; done), by repeat (first | exact Drawn0.refl _ | apply Drawn0.step)⟩
          · rw [if_neg c16] at H
            have c16b0 : (a0 == 0) = false := beq_eq_false_iff_ne.mpr c16
            have c16b1 : (a0 != 0) = true := bne_iff_ne.mpr c16
            replace H := Option.bind_eq_some_iff.mp H
            obtain ⟨t104, A170, H⟩ := H
            replace H : (some (decide (t104 ≥ 0))) = some r := H
            have A17 := Aside0.mk A170
            clear A170
            obtain rfl := Option.some.inj H
            go_enter Tryd.func118, Tryd.ntmps118
            go_wp2_with (first | (go_at_call 117; (with_reducible refine (strings_IndexByte.calls (⟨#[45, 46, 95, 126]⟩ : ByteArray) a0 t104 _ A17.out).mono ?_); rintro e w' ⟨rfl, ⟨nd, rfl⟩⟩))
            go_ret
            exact ⟨by first | rfl | (simp; done) | (simp [*]; done), by repeat (first | exact Drawn0.refl _ | apply Drawn0.step)⟩
  · rw [if_neg c2] at H
    have c2b0 : decide (97 ≤ a0) = false := decide_eq_false c2
    clear c2
    by_cases c18 : a0 ≥ 65
    · rw [if_pos c18] at H
      have c18b0 : decide (65 ≤ a0) = true := decide_eq_true c18
      clear c18
      by_cases c19 : a0 ≤ 90
      · rw [if_pos c19] at H
        have c19b0 : decide (a0 ≤ 90) = true := decide_eq_true c19
        clear c19
        obtain rfl := Option.some.inj H
        go_enter Tryd.func118, Tryd.ntmps118
        go_wp2
        go_ret
        exact ⟨by first | rfl | (simp; done) | (simp [*]; done), by repeat (first | exact Drawn0.refl _ | apply Drawn0.step)⟩
      · rw [if_neg c19] at H
        have c19b0 : decide (a0 ≤ 90) = false := decide_eq_false c19
        clear c19
        by_cases c20 : a0 ≥ 48
        · rw [if_pos c20] at H
          have c20b0 : decide (48 ≤ a0) = true := decide_eq_true c20
          clear c20
          by_cases c21 : a0 ≤ 57
          · rw [if_pos c21] at H
            have c21b0 : decide (a0 ≤ 57) = true := decide_eq_true c21
            clear c21
            obtain rfl := Option.some.inj H
            go_enter Tryd.func118, Tryd.ntmps118
            go_wp2
            go_ret
            exact ⟨by first | rfl | (simp; done) | (simp [*]; done), by repeat (first | exact Drawn0.refl _ | apply Drawn0.step)⟩
          · rw [if_neg c21] at H
            have c21b0 : decide (a0 ≤ 57) = false := decide_eq_false c21
            clear c21
            by_cases c22 : a0 = 0
            · rw [if_pos c22] at H
              have c22b0 : (a0 == 0) = true := beq_iff_eq.mpr c22
              have c22b1 : (a0 != 0) = false := bne_eq_false_iff_eq.mpr c22
              clear c22
              obtain rfl := Option.some.inj H
              go_enter Tryd.func118, Tryd.ntmps118
              go_wp2
              go_ret
              exact ⟨by first | rfl | (simp; done) | (simp [*]; done), by repeat (first | exact Drawn0.refl _ | apply Drawn0.step)⟩
            · rw [if_neg c22] at H
              have c22b0 : (a0 == 0) = false := beq_eq_false_iff_ne.mpr c22
              have c22b1 : (a0 != 0) = true := bne_iff_ne.mpr c22
              replace H := Option.bind_eq_some_iff.mp H
              obtain ⟨t105, A230, H⟩ := H
              replace H : (some (decide (t105 ≥ 0))) = some r := H
              have A23 := Aside0.mk A230
              clear A230
              obtain rfl := Option.some.inj H
              go_enter Tryd.func118, Tryd.ntmps118
              go_wp2_with (first | (go_at_call 117; (with_reducible refine (strings_IndexByte.calls (⟨#[45, 46, 95, 126]⟩ : ByteArray) a0 t105 _ A23.out).mono ?_); rintro e w' ⟨rfl, ⟨nd, rfl⟩⟩))
              go_ret
              exact ⟨by first | rfl | (simp; done) | (simp [*]; done), by repeat (first | exact Drawn0.refl _ | apply Drawn0.step)⟩
        · rw [if_neg c20] at H
          have c20b0 : decide (48 ≤ a0) = false := decide_eq_false c20
          clear c20
          by_cases c24 : a0 = 0
          · rw [if_pos c24] at H
            have c24b0 : (a0 == 0) = true := beq_iff_eq.mpr c24
            have c24b1 : (a0 != 0) = false := bne_eq_false_iff_eq.mpr c24
            clear c24
            obtain rfl := Option.some.inj H
            go_enter Tryd.func118, Tryd.ntmps118
            go_wp2
            go_ret
            exact ⟨by first | rfl | (simp; done) | (simp [*]; done), by repeat (first | exact Drawn0.refl _ | apply Drawn0.step)⟩
          · rw [if_neg c24] at H
            have c24b0 : (a0 == 0) = false := beq_eq_false_iff_ne.mpr c24
            have c24b1 : (a0 != 0) = true := bne_iff_ne.mpr c24
            replace H := Option.bind_eq_some_iff.mp H
            obtain ⟨t106, A250, H⟩ := H
            replace H : (some (decide (t106 ≥ 0))) = some r := H
            have A25 := Aside0.mk A250
            clear A250
            obtain rfl := Option.some.inj H
            go_enter Tryd.func118, Tryd.ntmps118
            go_wp2_with (first | (go_at_call 117; (with_reducible refine (strings_IndexByte.calls (⟨#[45, 46, 95, 126]⟩ : ByteArray) a0 t106 _ A25.out).mono ?_); rintro e w' ⟨rfl, ⟨nd, rfl⟩⟩))
            go_ret
            exact ⟨by first | rfl | (simp; done) | (simp [*]; done), by repeat (first | exact Drawn0.refl _ | apply Drawn0.step)⟩
    · rw [if_neg c18] at H
      have c18b0 : decide (65 ≤ a0) = false := decide_eq_false c18
      clear c18
      by_cases c26 : a0 ≥ 48
      · rw [if_pos c26] at H
        have c26b0 : decide (48 ≤ a0) = true := decide_eq_true c26
        clear c26
        by_cases c27 : a0 ≤ 57
        · rw [if_pos c27] at H
          have c27b0 : decide (a0 ≤ 57) = true := decide_eq_true c27
          clear c27
          obtain rfl := Option.some.inj H
          go_enter Tryd.func118, Tryd.ntmps118
          go_wp2
          go_ret
          exact ⟨by first | rfl | (simp; done) | (simp [*]; done), by repeat (first | exact Drawn0.refl _ | apply Drawn0.step)⟩
        · rw [if_neg c27] at H
          have c27b0 : decide (a0 ≤ 57) = false := decide_eq_false c27
          clear c27
          by_cases c28 : a0 = 0
          · rw [if_pos c28] at H
            have c28b0 : (a0 == 0) = true := beq_iff_eq.mpr c28
            have c28b1 : (a0 != 0) = false := bne_eq_false_iff_eq.mpr c28
            clear c28
            obtain rfl := Option.some.inj H
            go_enter Tryd.func118, Tryd.ntmps118
            go_wp2
            go_ret
            exact ⟨by first | rfl | (simp; done) | (simp [*]; done), by repeat (first | exact Drawn0.refl _ | apply Drawn0.step)⟩
          · rw [if_neg c28] at H
            have c28b0 : (a0 == 0) = false := beq_eq_false_iff_ne.mpr c28
            have c28b1 : (a0 != 0) = true := bne_iff_ne.mpr c28
            replace H := Option.bind_eq_some_iff.mp H
            obtain ⟨t107, A290, H⟩ := H
            replace H : (some (decide (t107 ≥ 0))) = some r := H
            have A29 := Aside0.mk A290
            clear A290
            obtain rfl := Option.some.inj H
            go_enter Tryd.func118, Tryd.ntmps118
            go_wp2_with (first | (go_at_call 117; (with_reducible refine (strings_IndexByte.calls (⟨#[45, 46, 95, 126]⟩ : ByteArray) a0 t107 _ A29.out).mono ?_); rintro e w' ⟨rfl, ⟨nd, rfl⟩⟩))
            go_ret
            exact ⟨by first | rfl | (simp; done) | (simp [*]; done), by repeat (first | exact Drawn0.refl _ | apply Drawn0.step)⟩
      · rw [if_neg c26] at H
        have c26b0 : decide (48 ≤ a0) = false := decide_eq_false c26
        clear c26
        by_cases c30 : a0 = 0
        · rw [if_pos c30] at H
          have c30b0 : (a0 == 0) = true := beq_iff_eq.mpr c30
          have c30b1 : (a0 != 0) = false := bne_eq_false_iff_eq.mpr c30
          clear c30
          obtain rfl := Option.some.inj H
          go_enter Tryd.func118, Tryd.ntmps118
          go_wp2
          go_ret
          exact ⟨by first | rfl | (simp; done) | (simp [*]; done), by repeat (first | exact Drawn0.refl _ | apply Drawn0.step)⟩
        · rw [if_neg c30] at H
          have c30b0 : (a0 == 0) = false := beq_eq_false_iff_ne.mpr c30
          have c30b1 : (a0 != 0) = true := bne_iff_ne.mpr c30
          replace H := Option.bind_eq_some_iff.mp H
          obtain ⟨t108, A310, H⟩ := H
          replace H : (some (decide (t108 ≥ 0))) = some r := H
          have A31 := Aside0.mk A310
          clear A310
          obtain rfl := Option.some.inj H
          go_enter Tryd.func118, Tryd.ntmps118
          go_wp2_with (first | (go_at_call 117; (with_reducible refine (strings_IndexByte.calls (⟨#[45, 46, 95, 126]⟩ : ByteArray) a0 t108 _ A31.out).mono ?_); rintro e w' ⟨rfl, ⟨nd, rfl⟩⟩))
          go_ret
          exact ⟨by first | rfl | (simp; done) | (simp [*]; done), by repeat (first | exact Drawn0.refl _ | apply Drawn0.step)⟩
def html_named.f (a0 : Int) : Option (ByteArray) := if a0 = 0 then (some (⟨#[239, 191, 189]⟩ : ByteArray)) else (if a0 = 38 then (some (⟨#[38, 97, 109, 112, 59]⟩ : ByteArray)) else (if a0 = 60 then (some (⟨#[38, 108, 116, 59]⟩ : ByteArray)) else (if a0 = 62 then (some (⟨#[38, 103, 116, 59]⟩ : ByteArray)) else (if a0 = 34 then (some (⟨#[38, 35, 51, 52, 59]⟩ : ByteArray)) else (if a0 = 39 then (some (⟨#[38, 35, 51, 57, 59]⟩ : ByteArray)) else (some (⟨#[]⟩ : ByteArray)))))))
set_option maxHeartbeats 8000000 in
set_option maxRecDepth 100000 in
theorem html_named.calls (a0 : Int) (r : ByteArray) (w : World) (h : html_named.f a0 = some r) :
    Calls Tryd.prog 119 #[.int .u8 a0] w fun e w' => e = .returned (.string r) ∧ Drawn0 w w' := by
  have H : (if a0 = 0 then (some (⟨#[239, 191, 189]⟩ : ByteArray)) else (if a0 = 38 then (some (⟨#[38, 97, 109, 112, 59]⟩ : ByteArray)) else (if a0 = 60 then (some (⟨#[38, 108, 116, 59]⟩ : ByteArray)) else (if a0 = 62 then (some (⟨#[38, 103, 116, 59]⟩ : ByteArray)) else (if a0 = 34 then (some (⟨#[38, 35, 51, 52, 59]⟩ : ByteArray)) else (if a0 = 39 then (some (⟨#[38, 35, 51, 57, 59]⟩ : ByteArray)) else (some (⟨#[]⟩ : ByteArray)))))))) = some r := h
  clear h
  by_cases c2 : a0 = 0
  · rw [if_pos c2] at H
    have c2b0 : (a0 == 0) = true := beq_iff_eq.mpr c2
    have c2b1 : (a0 != 0) = false := bne_eq_false_iff_eq.mpr c2
    clear c2
    obtain rfl := Option.some.inj H
    go_enter Tryd.func119, Tryd.ntmps119
    go_wp2
    go_ret
    exact ⟨by first | rfl | (simp; done) | (simp [*]; done), by repeat (first | exact Drawn0.refl _ | apply Drawn0.step)⟩
  · rw [if_neg c2] at H
    have c2b0 : (a0 == 0) = false := beq_eq_false_iff_ne.mpr c2
    have c2b1 : (a0 != 0) = true := bne_iff_ne.mpr c2
    by_cases c3 : a0 = 38
    · rw [if_pos c3] at H
      have c3b0 : (a0 == 38) = true := beq_iff_eq.mpr c3
      have c3b1 : (a0 != 38) = false := bne_eq_false_iff_eq.mpr c3
      clear c3
      obtain rfl := Option.some.inj H
      go_enter Tryd.func119, Tryd.ntmps119
      go_wp2
      go_ret
      exact ⟨by first | rfl | (simp; done) | (simp [*]; done), by repeat (first | exact Drawn0.refl _ | apply Drawn0.step)⟩
    · rw [if_neg c3] at H
      have c3b0 : (a0 == 38) = false := beq_eq_false_iff_ne.mpr c3
      have c3b1 : (a0 != 38) = true := bne_iff_ne.mpr c3
      by_cases c4 : a0 = 60
      · rw [if_pos c4] at H
        have c4b0 : (a0 == 60) = true := beq_iff_eq.mpr c4
        have c4b1 : (a0 != 60) = false := bne_eq_false_iff_eq.mpr c4
        clear c4
        obtain rfl := Option.some.inj H
        go_enter Tryd.func119, Tryd.ntmps119
        go_wp2
        go_ret
        exact ⟨by first | rfl | (simp; done) | (simp [*]; done), by repeat (first | exact Drawn0.refl _ | apply Drawn0.step)⟩
      · rw [if_neg c4] at H
        have c4b0 : (a0 == 60) = false := beq_eq_false_iff_ne.mpr c4
        have c4b1 : (a0 != 60) = true := bne_iff_ne.mpr c4
        by_cases c5 : a0 = 62
        · rw [if_pos c5] at H
          have c5b0 : (a0 == 62) = true := beq_iff_eq.mpr c5
          have c5b1 : (a0 != 62) = false := bne_eq_false_iff_eq.mpr c5
          clear c5
          obtain rfl := Option.some.inj H
          go_enter Tryd.func119, Tryd.ntmps119
          go_wp2
          go_ret
          exact ⟨by first | rfl | (simp; done) | (simp [*]; done), by repeat (first | exact Drawn0.refl _ | apply Drawn0.step)⟩
        · rw [if_neg c5] at H
          have c5b0 : (a0 == 62) = false := beq_eq_false_iff_ne.mpr c5
          have c5b1 : (a0 != 62) = true := bne_iff_ne.mpr c5
          by_cases c6 : a0 = 34
          · rw [if_pos c6] at H
            have c6b0 : (a0 == 34) = true := beq_iff_eq.mpr c6
            have c6b1 : (a0 != 34) = false := bne_eq_false_iff_eq.mpr c6
            clear c6
            obtain rfl := Option.some.inj H
            go_enter Tryd.func119, Tryd.ntmps119
            go_wp2
            go_ret
            exact ⟨by first | rfl | (simp; done) | (simp [*]; done), by repeat (first | exact Drawn0.refl _ | apply Drawn0.step)⟩
          · rw [if_neg c6] at H
            have c6b0 : (a0 == 34) = false := beq_eq_false_iff_ne.mpr c6
            have c6b1 : (a0 != 34) = true := bne_iff_ne.mpr c6
            by_cases c7 : a0 = 39
            · rw [if_pos c7] at H
              have c7b0 : (a0 == 39) = true := beq_iff_eq.mpr c7
              have c7b1 : (a0 != 39) = false := bne_eq_false_iff_eq.mpr c7
              clear c7
              obtain rfl := Option.some.inj H
              go_enter Tryd.func119, Tryd.ntmps119
              go_wp2
              go_ret
              exact ⟨by first | rfl | (simp; done) | (simp [*]; done), by repeat (first | exact Drawn0.refl _ | apply Drawn0.step)⟩
            · rw [if_neg c7] at H
              have c7b0 : (a0 == 39) = false := beq_eq_false_iff_ne.mpr c7
              have c7b1 : (a0 != 39) = true := bne_iff_ne.mpr c7
              obtain rfl := Option.some.inj H
              go_enter Tryd.func119, Tryd.ntmps119
              go_wp2
              go_ret
              exact ⟨by first | rfl | (simp; done) | (simp [*]; done), by repeat (first | exact Drawn0.refl _ | apply Drawn0.step)⟩
def html_Unit.f (a0 : Int) : Option (List Int) := (html_named.f a0).bind fun t109 => (if t109.toList = ([] : List UInt8) then (some (([a0] : List Int))) else (if t109.size < 140737488355328 then (some (([] : List Int) ++ bytesOf t109)) else (none)))
set_option maxHeartbeats 8000000 in
set_option maxRecDepth 100000 in
theorem html_Unit.calls (a0 : Int) (r : List Int) (w : World) (h : html_Unit.f a0 = some r) :
    Calls Tryd.prog 100 #[.int .u8 a0] w fun e w' => ∃ v0_ : Value, e = .returned (v0_) ∧ Kd.V (Kd.int .u8) 5 w' w.heap.size (fun k_ => (w.heap.size ≤ k_)) v0_ r ∧ Below w.heap.size w w' := by
  have HB := Aside0.mk (Below.refl w.heap.size w)
  have H : ((html_named.f a0).bind fun t109 => (if t109.toList = ([] : List UInt8) then (some (([a0] : List Int))) else (if t109.size < 140737488355328 then (some (([] : List Int) ++ bytesOf t109)) else (none)))) = some r := h
  clear h
  replace H := Option.bind_eq_some_iff.mp H
  obtain ⟨t109, A20, H⟩ := H
  replace H : (if t109.toList = ([] : List UInt8) then (some (([a0] : List Int))) else (if t109.size < 140737488355328 then (some (([] : List Int) ++ bytesOf t109)) else (none))) = some r := H
  have A2 := Aside0.mk A20
  clear A20
  by_cases c3 : t109.toList = ([] : List UInt8)
  · rw [if_pos c3] at H
    have c3b0 : (t109.toList == ([] : List UInt8)) = true := beq_iff_eq.mpr c3
    have c3b1 : (t109.toList != ([] : List UInt8)) = false := bne_eq_false_iff_eq.mpr c3
    clear c3
    obtain ⟨y110, hy110⟩ : ∃ y_ : List Int, y_ = (([a0] : List Int)) := ⟨_, rfl⟩
    replace H : (some y110) = some r := by first | (rw [hy110]; with_reducible exact H) | (have H2_ := (Option.bind_some _ _).symm.trans H; rw [hy110]; with_reducible exact H2_) | (have H2_ := (Option.bind_some _ _).symm.trans H; with_reducible exact H2_) | with_reducible exact H | (rw [hy110]; exact H) | exact H
    have Ny110 := Aside0.mk hy110
    clear hy110
    obtain rfl := Option.some.inj H
    go_enter Tryd.func100, Tryd.ntmps100
    go_wp2_with (first | ((with_reducible refine gate_callee (f := 119) rfl ?_); refine goesL_ (some 5) rfl rfl Tryd.func119 (by kernel_rfl) rfl #[.int .u8 a0] rfl (by (try simp only [List.map_toArray, List.map_cons, List.map_nil]); first | done | rfl | (simp only [List.length_drop, List.length_take]; rfl)) ?_; (with_reducible refine (html_named.calls a0 t109 _ A2.out).mono ?_); rintro e w' ⟨rfl, ⟨nd, rfl⟩⟩; refine ⟨_, rfl, ?_⟩) | ((with_reducible refine gate_dst (N := 11) rfl ?_); refine Kd.R_lit (Kd.int .u8) _ 5 ?hg (N := 11) ?hd (xs := ([a0] : List Int)) (inner := [.int .u8 a0]) (ok := fun _ => True) (okp := fun _ => True) ?hr ?hp (fun _ hk => hk) trivial (Below.refl _ _) (Nat.le_refl _) (by simp) ?_; (case hd => rfl); (case hg => rfl); (case hr => first | (go_simp; done) | (go_simp; rfl)); (case hp => exact (Reps.one (show Kd.M (Kd.int .u8) _ _ _ a0 [.int .u8 a0] from rfl) (Reps.none _ _))); intro v111 w4 ho5 hb hg_ hnew_; clear hg_ hnew_; (first | rw [← Ny110.out] at ho5 | (simp only [Int.reduceToNat] at ho5; rw [← Ny110.out] at ho5)); have n0_ := Aside0.mk (Kd.R_lower (Kd.R_newM (M := fun k_ => (w.heap.size ≤ k_)) ho5 (below_size (by repeat (first | (with_reducible first | exact HB.out | apply below_alloc | apply pw_below_drewN | apply below_drew1) | exact HB.out))) (fun k_ h_ => h_)) (below_size (by repeat (first | (with_reducible first | exact HB.out | apply below_alloc | apply pw_below_drewN | apply below_drew1) | exact HB.out)))); have n1_ := Aside0.mk (below_step (by repeat (first | (with_reducible first | exact HB.out | apply below_alloc | apply pw_below_drewN | apply below_drew1) | exact HB.out)) hb); clear HB; have HO112 := n0_; have HB := n1_; clear n0_ n1_; clear hb ho5))
    go_ret
    exact ⟨_, by first | rfl | (simp [errW_none, errW_some] <;> rfl) | (simp [*, errW_none, errW_some] <;> rfl), Kd.R_V (by (with_reducible repeat (first | apply Kd.R_alloc | apply Kd.R_drewN | apply Kd.R_drew)); exact Kd.R_mono HO112.out (fun _ hk => hk.1)), by repeat (first | (with_reducible first | exact HB.out | apply below_alloc | apply pw_below_drewN | apply below_drew1) | exact HB.out)⟩
  · rw [if_neg c3] at H
    have c3b0 : (t109.toList == ([] : List UInt8)) = false := beq_eq_false_iff_ne.mpr c3
    have c3b1 : (t109.toList != ([] : List UInt8)) = true := bne_iff_ne.mpr c3
    by_cases c6 : t109.size < 140737488355328
    · rw [if_pos c6] at H
      have LMc6 := Aside0.mk c6
      clear c6
      obtain ⟨y113, hy113⟩ : ∃ y_ : List Int, y_ = (([] : List Int) ++ bytesOf t109) := ⟨_, rfl⟩
      replace H : (some y113) = some r := by first | (rw [hy113]; with_reducible exact H) | (have H2_ := (Option.bind_some _ _).symm.trans H; rw [hy113]; with_reducible exact H2_) | (have H2_ := (Option.bind_some _ _).symm.trans H; with_reducible exact H2_) | with_reducible exact H | (rw [hy113]; exact H) | exact H
      have Ny113 := Aside0.mk hy113
      clear hy113
      obtain rfl := Option.some.inj H
      go_enter Tryd.func100, Tryd.ntmps100
      go_wp2_with (first | ((with_reducible refine gate_callee (f := 119) rfl ?_); refine goesL_ (some 5) rfl rfl Tryd.func119 (by kernel_rfl) rfl #[.int .u8 a0] rfl (by (try simp only [List.map_toArray, List.map_cons, List.map_nil]); first | done | rfl | (simp only [List.length_drop, List.length_take]; rfl)) ?_; (with_reducible refine (html_named.calls a0 t109 _ A2.out).mono ?_); rintro e w' ⟨rfl, ⟨nd, rfl⟩⟩; refine ⟨_, rfl, ?_⟩) | ((with_reducible refine gate_dst (N := 9) rfl ?_); refine print_conv_str (w0 := w) w.heap.size rfl _ 22 9 5 rfl Tryd.underlying22 Tryd.underlying9 Tryd.underlying5 (fun k_ => (w.heap.size ≤ k_)) t109 rfl ?aL ?aF ?aB ?aS ?_; (case aB => exact (by repeat (first | (with_reducible first | exact HB.out | apply below_alloc | apply pw_below_drewN | apply below_drew1) | exact HB.out))); (case aF => exact (fun k_ hk => (Nat.le_trans (below_size (by repeat (first | (with_reducible first | exact HB.out | apply below_alloc | apply pw_below_drewN | apply below_drew1) | exact HB.out))) hk))); (case aS => exact (below_size (by repeat (first | (with_reducible first | exact HB.out | apply below_alloc | apply pw_below_drewN | apply below_drew1) | exact HB.out)))); (case aL => have := LMc6.out; first | omega | (simp only [ByteArray.size_append]; simp only [ByteArray.size, List.size_toArray, List.length_cons, List.length_nil] at this ⊢; omega)); intro v114 w7 ho hb hg hat; rw [← Ny113.out] at ho; have n0_ := Aside0.mk (hb); have n1_ := Aside0.mk (ho); clear HB; have HB := n0_; have HO115 := n1_; clear n0_ n1_; clear ho hb hg hat))
      go_ret
      exact ⟨_, by first | rfl | (simp [errW_none, errW_some] <;> rfl) | (simp [*, errW_none, errW_some] <;> rfl), by (with_reducible repeat (first | apply Kd.V_alloc | apply Kd.V_drewN | apply Kd.V_drew)); exact HO115.out, by repeat (first | (with_reducible first | exact HB.out | apply below_alloc | apply pw_below_drewN | apply below_drew1) | exact HB.out)⟩
    · rw [if_neg c6] at H
      exact absurd H (by simp)
def bobbinref04_among.l0 : Nat → Int → ByteArray → Int → Option (Bool)
  | 0, _, _, _ => none
  | k + 1, x0, x1, x5 => if x5 < (x1.size : Int) then (if 0 ≤ x5 then (if (bt x1 x5) = x0 then (some true) else (bobbinref04_among.l0 k x0 x1 (wrap64 (x5 + 1)))) else (none)) else (some false)
def bobbinref04_among.f (k : Nat) (a0 : Int) (a1 : ByteArray) : Option (Bool) := bobbinref04_among.l0 k a0 a1 0
theorem bobbinref04_among.mono_l : ∀ k, (∀ y0 y1 y2, LeO (bobbinref04_among.l0 k y0 y1 y2) (bobbinref04_among.l0 (k + 1) y0 y1 y2))
  | 0 => fun _ _ _ r h => by simp [bobbinref04_among.l0] at h
  | k + 1 => by
    have ih0 := bobbinref04_among.mono_l k
    · intro y0 y1 y2
      unfold bobbinref04_among.l0
      repeat' first
      | (with_reducible exact ih0 _ _ _)
      | (with_reducible exact LeO.refl _)
      | (with_reducible exact LeO.none _)
      | (with_reducible refine LeO.ite ?_ ?_)
      | (with_reducible refine LeO.bind ?_ (fun _ => ?_))
      | exact ih0 _ _ _
      | exact LeO.none _
      | refine LeO.ite ?_ ?_
      | refine LeO.bind ?_ (fun _ => ?_)
theorem bobbinref04_among.mono : ∀ a0 a1 k, LeO (bobbinref04_among.f k a0 a1) (bobbinref04_among.f (k + 1) a0 a1) := by
  intro a0 a1 k
  have ih0 := bobbinref04_among.mono_l k
  unfold bobbinref04_among.f
  repeat' first
      | (with_reducible exact ih0 _ _ _)
      | (with_reducible exact LeO.refl _)
      | (with_reducible exact LeO.none _)
      | (with_reducible refine LeO.ite ?_ ?_)
      | (with_reducible refine LeO.bind ?_ (fun _ => ?_))
      | exact ih0 _ _ _
      | exact LeO.none _
      | refine LeO.ite ?_ ?_
      | refine LeO.bind ?_ (fun _ => ?_)
set_option maxHeartbeats 8000000 in
set_option maxRecDepth 100000 in
theorem bobbinref04_among.calls (k : Nat) (a0 : Int) (a1 : ByteArray) (r : Bool) (w : World) (h : bobbinref04_among.f k a0 a1 = some r) :
    Calls Tryd.prog 132 #[.int .u8 a0, .string a1] w fun e w' => e = .returned (.bool r) ∧ Drawn0 w w' := by
  have H : (bobbinref04_among.l0 k a0 a1 0) = some r := h
  clear h
  have H' := Aside0.mk H
  clear H
  go_enter Tryd.func132, Tryd.ntmps132
  go_wp2
  go_loopg [5] k (fun kq v5 w' => ∃ (x5_1 : Int), v5 = .int .i64 x5_1 ∧ Aside0 (bobbinref04_among.l0 kq a0 a1 x5_1 = some r) ∧ Aside0 (kq ≤ k) ∧ Drawn0 w w')
  case atStart => exact ⟨(0), (by first | rfl | (simp; done) | (simp [*]; done)), H', ⟨Nat.le_refl _⟩, by repeat (first | exact Drawn0.refl _ | apply Drawn0.step)⟩
  case round =>
    clear H'
    try clear c1
    try clear p2
    obtain ⟨x5_1, rfl, HA, HK1, ⟨m1, rfl⟩⟩ := hrel
    cases gk with
    | zero => exact absurd HA.out (by simp [bobbinref04_among.l0])
    | succ k1 =>
      have H := HA.out
      clear HA
      simp only [bobbinref04_among.l0] at H
      by_cases c3 : x5_1 < (a1.size : Int)
      · rw [if_pos c3] at H
        have c3b0 : decide (x5_1 < (a1.size : Int)) = true := decide_eq_true c3
        clear c3
        by_cases c4 : 0 ≤ x5_1
        · rw [if_pos c4] at H
          have c4b0 : decide (0 ≤ x5_1) = true := decide_eq_true c4
          clear c4
          by_cases c6 : (bt a1 x5_1) = a0
          · rw [if_pos c6] at H
            have c6b0 : ((bt a1 x5_1) == a0) = true := beq_iff_eq.mpr c6
            have c6b1 : ((bt a1 x5_1) != a0) = false := bne_eq_false_iff_eq.mpr c6
            clear c6
            obtain rfl := Option.some.inj H
            have p5 : 0 ≤ (x5_1 : Int) := of_decide_eq_true (by first | (with_reducible assumption) | assumption)
            have q5 : x5_1 < (a1.size : Int) := of_decide_eq_true (by first | (with_reducible assumption) | assumption)
            have hx5 := bt_at a1 x5_1
            replace p5 := eq_true p5
            replace q5 := eq_true q5
            go_wp2
            go_ret
            exact ⟨by first | rfl | (simp; done) | (simp [*]; done), by repeat (first | exact Drawn0.refl _ | apply Drawn0.step)⟩
          · rw [if_neg c6] at H
            have c6b0 : ((bt a1 x5_1) == a0) = false := beq_eq_false_iff_ne.mpr c6
            have c6b1 : ((bt a1 x5_1) != a0) = true := bne_iff_ne.mpr c6
            have H' := Aside0.mk H
            clear H
            have p5 : 0 ≤ (x5_1 : Int) := of_decide_eq_true (by first | (with_reducible assumption) | assumption)
            have q5 : x5_1 < (a1.size : Int) := of_decide_eq_true (by first | (with_reducible assumption) | assumption)
            have hx5 := bt_at a1 x5_1
            replace p5 := eq_true p5
            replace q5 := eq_true q5
            go_wp2
            go_roundg k1
            case measure => have := HK1.out; omega
            case rel => exact ⟨(wrap64 (x5_1 + 1)), (by first | rfl | (simp; done) | (simp [*]; done)), H', ⟨by have := HK1.out; omega⟩, by repeat (first | exact Drawn0.refl _ | apply Drawn0.step)⟩
        · rw [if_neg c4] at H
          exact absurd H (by simp)
      · rw [if_neg c3] at H
        have c3b0 : decide (x5_1 < (a1.size : Int)) = false := decide_eq_false c3
        clear c3
        obtain rfl := Option.some.inj H
        go_wp2
        go_ret
        exact ⟨by first | rfl | (simp; done) | (simp [*]; done), by repeat (first | exact Drawn0.refl _ | apply Drawn0.step)⟩
def bobbinref03_Unit.f (a0 : Int) : Option (ByteArray) := if a0 = 0 then (some (⟨#[239, 191, 189]⟩ : ByteArray)) else (if a0 = 38 then (some (⟨#[38, 97, 109, 112, 59]⟩ : ByteArray)) else (if a0 = 60 then (some (⟨#[38, 108, 116, 59]⟩ : ByteArray)) else (if a0 = 62 then (some (⟨#[38, 103, 116, 59]⟩ : ByteArray)) else (if a0 = 34 then (some (⟨#[38, 35, 51, 52, 59]⟩ : ByteArray)) else (if a0 = 39 then (some (⟨#[38, 35, 51, 57, 59]⟩ : ByteArray)) else (some (strOfNums (([a0] : List Int)))))))))
set_option maxHeartbeats 8000000 in
set_option maxRecDepth 100000 in
theorem bobbinref03_Unit.calls (a0 : Int) (r : ByteArray) (w : World) (h : bobbinref03_Unit.f a0 = some r) :
    Calls Tryd.prog 122 #[.int .u8 a0] w fun e w' => e = .returned (.string r) ∧ Below w.heap.size w w' := by
  have HB := Aside0.mk (Below.refl w.heap.size w)
  have H : (if a0 = 0 then (some (⟨#[239, 191, 189]⟩ : ByteArray)) else (if a0 = 38 then (some (⟨#[38, 97, 109, 112, 59]⟩ : ByteArray)) else (if a0 = 60 then (some (⟨#[38, 108, 116, 59]⟩ : ByteArray)) else (if a0 = 62 then (some (⟨#[38, 103, 116, 59]⟩ : ByteArray)) else (if a0 = 34 then (some (⟨#[38, 35, 51, 52, 59]⟩ : ByteArray)) else (if a0 = 39 then (some (⟨#[38, 35, 51, 57, 59]⟩ : ByteArray)) else (some (strOfNums (([a0] : List Int)))))))))) = some r := h
  clear h
  by_cases c2 : a0 = 0
  · rw [if_pos c2] at H
    have c2b0 : (a0 == 0) = true := beq_iff_eq.mpr c2
    have c2b1 : (a0 != 0) = false := bne_eq_false_iff_eq.mpr c2
    clear c2
    obtain rfl := Option.some.inj H
    go_enter Tryd.func122, Tryd.ntmps122
    go_wp2
    go_ret
    exact ⟨by first | rfl | (simp [errW_none, errW_some] <;> rfl) | (simp [*, errW_none, errW_some] <;> rfl), by repeat (first | (with_reducible first | exact HB.out | apply below_alloc | apply pw_below_drewN | apply below_drew1) | exact HB.out)⟩
  · rw [if_neg c2] at H
    have c2b0 : (a0 == 0) = false := beq_eq_false_iff_ne.mpr c2
    have c2b1 : (a0 != 0) = true := bne_iff_ne.mpr c2
    by_cases c3 : a0 = 38
    · rw [if_pos c3] at H
      have c3b0 : (a0 == 38) = true := beq_iff_eq.mpr c3
      have c3b1 : (a0 != 38) = false := bne_eq_false_iff_eq.mpr c3
      clear c3
      obtain rfl := Option.some.inj H
      go_enter Tryd.func122, Tryd.ntmps122
      go_wp2
      go_ret
      exact ⟨by first | rfl | (simp [errW_none, errW_some] <;> rfl) | (simp [*, errW_none, errW_some] <;> rfl), by repeat (first | (with_reducible first | exact HB.out | apply below_alloc | apply pw_below_drewN | apply below_drew1) | exact HB.out)⟩
    · rw [if_neg c3] at H
      have c3b0 : (a0 == 38) = false := beq_eq_false_iff_ne.mpr c3
      have c3b1 : (a0 != 38) = true := bne_iff_ne.mpr c3
      by_cases c4 : a0 = 60
      · rw [if_pos c4] at H
        have c4b0 : (a0 == 60) = true := beq_iff_eq.mpr c4
        have c4b1 : (a0 != 60) = false := bne_eq_false_iff_eq.mpr c4
        clear c4
        obtain rfl := Option.some.inj H
        go_enter Tryd.func122, Tryd.ntmps122
        go_wp2
        go_ret
        exact ⟨by first | rfl | (simp [errW_none, errW_some] <;> rfl) | (simp [*, errW_none, errW_some] <;> rfl), by repeat (first | (with_reducible first | exact HB.out | apply below_alloc | apply pw_below_drewN | apply below_drew1) | exact HB.out)⟩
      · rw [if_neg c4] at H
        have c4b0 : (a0 == 60) = false := beq_eq_false_iff_ne.mpr c4
        have c4b1 : (a0 != 60) = true := bne_iff_ne.mpr c4
        by_cases c5 : a0 = 62
        · rw [if_pos c5] at H
          have c5b0 : (a0 == 62) = true := beq_iff_eq.mpr c5
          have c5b1 : (a0 != 62) = false := bne_eq_false_iff_eq.mpr c5
          clear c5
          obtain rfl := Option.some.inj H
          go_enter Tryd.func122, Tryd.ntmps122
          go_wp2
          go_ret
          exact ⟨by first | rfl | (simp [errW_none, errW_some] <;> rfl) | (simp [*, errW_none, errW_some] <;> rfl), by repeat (first | (with_reducible first | exact HB.out | apply below_alloc | apply pw_below_drewN | apply below_drew1) | exact HB.out)⟩
        · rw [if_neg c5] at H
          have c5b0 : (a0 == 62) = false := beq_eq_false_iff_ne.mpr c5
          have c5b1 : (a0 != 62) = true := bne_iff_ne.mpr c5
          by_cases c6 : a0 = 34
          · rw [if_pos c6] at H
            have c6b0 : (a0 == 34) = true := beq_iff_eq.mpr c6
            have c6b1 : (a0 != 34) = false := bne_eq_false_iff_eq.mpr c6
            clear c6
            obtain rfl := Option.some.inj H
            go_enter Tryd.func122, Tryd.ntmps122
            go_wp2
            go_ret
            exact ⟨by first | rfl | (simp [errW_none, errW_some] <;> rfl) | (simp [*, errW_none, errW_some] <;> rfl), by repeat (first | (with_reducible first | exact HB.out | apply below_alloc | apply pw_below_drewN | apply below_drew1) | exact HB.out)⟩
          · rw [if_neg c6] at H
            have c6b0 : (a0 == 34) = false := beq_eq_false_iff_ne.mpr c6
            have c6b1 : (a0 != 34) = true := bne_iff_ne.mpr c6
            by_cases c7 : a0 = 39
            · rw [if_pos c7] at H
              have c7b0 : (a0 == 39) = true := beq_iff_eq.mpr c7
              have c7b1 : (a0 != 39) = false := bne_eq_false_iff_eq.mpr c7
              clear c7
              obtain rfl := Option.some.inj H
              go_enter Tryd.func122, Tryd.ntmps122
              go_wp2
              go_ret
              exact ⟨by first | rfl | (simp [errW_none, errW_some] <;> rfl) | (simp [*, errW_none, errW_some] <;> rfl), by repeat (first | (with_reducible first | exact HB.out | apply below_alloc | apply pw_below_drewN | apply below_drew1) | exact HB.out)⟩
            · rw [if_neg c7] at H
              have c7b0 : (a0 == 39) = false := beq_eq_false_iff_ne.mpr c7
              have c7b1 : (a0 != 39) = true := bne_iff_ne.mpr c7
              obtain ⟨y116, hy116⟩ : ∃ y_ : List Int, y_ = (([a0] : List Int)) := ⟨_, rfl⟩
              replace H : (some (strOfNums y116)) = some r := by first | (rw [hy116]; with_reducible exact H) | (have H2_ := (Option.bind_some _ _).symm.trans H; rw [hy116]; with_reducible exact H2_) | (have H2_ := (Option.bind_some _ _).symm.trans H; with_reducible exact H2_) | with_reducible exact H | (rw [hy116]; exact H) | exact H
              have Ny116 := Aside0.mk hy116
              clear hy116
              obtain rfl := Option.some.inj H
              go_enter Tryd.func122, Tryd.ntmps122
              go_wp2_with (first | ((with_reducible refine gate_dst (N := 17) rfl ?_); refine Kd.R_lit (Kd.int .u8) _ 5 ?hg (N := 17) ?hd (xs := ([a0] : List Int)) (inner := [.int .u8 a0]) (ok := fun _ => True) (okp := fun _ => True) ?hr ?hp (fun _ hk => hk) trivial (Below.refl _ _) (Nat.le_refl _) (by simp) ?_; (case hd => rfl); (case hg => rfl); (case hr => first | (go_simp; done) | (go_simp; rfl)); (case hp => exact (Reps.one (show Kd.M (Kd.int .u8) _ _ _ a0 [.int .u8 a0] from rfl) (Reps.none _ _))); intro v117 w8 ho9 hb hg_ hnew_; clear hg_ hnew_; (first | rw [← Ny116.out] at ho9 | (simp only [Int.reduceToNat] at ho9; rw [← Ny116.out] at ho9)); have n0_ := Aside0.mk (Kd.R_lower ho9 (below_size (by repeat (first | (with_reducible first | exact HB.out | apply below_alloc | apply pw_below_drewN | apply below_drew1) | exact HB.out)))); have n1_ := Aside0.mk (below_step (by repeat (first | (with_reducible first | exact HB.out | apply below_alloc | apply pw_below_drewN | apply below_drew1) | exact HB.out)) hb); clear HB; have HO118 := n0_; have HB := n1_; clear n0_ n1_; clear hb ho9; have hcv10 := own_string (P := Tryd.prog) Tryd.underlying22 Tryd.underlying5 Tryd.underlying9 (Kd.own_of_R HO118.out)))
              go_ret
              exact ⟨by first | rfl | (simp [errW_none, errW_some] <;> rfl) | (simp [*, errW_none, errW_some] <;> rfl), by repeat (first | (with_reducible first | exact HB.out | apply below_alloc | apply pw_below_drewN | apply below_drew1) | exact HB.out)⟩
def bobbinref03_Text.l0 : Nat → List Int → List Int → Int → Option (ByteArray)
  | 0, _, _, _ => none
  | k + 1, x0, x3, x4 => if x4 < (x0.length : Int) then (if 0 ≤ x4 then ((bobbinref03_Unit.f (rd x0 x4)).bind fun t120 => (if x3.length + t120.size < 140737488355328 then (bobbinref03_Text.l0 k x0 (x3 ++ bytesOf t120) (wrap64 (x4 + 1))) else (none))) else (none)) else (some (strOfNums x3))
def bobbinref03_Text.f (k : Nat) (l0 : List Int) : Option (ByteArray) := bobbinref03_Text.l0 k l0 ([] : List Int) 0
set_option maxHeartbeats 8000000 in
set_option maxRecDepth 100000 in
theorem bobbinref03_Text.calls (k : Nat) (A0 : Option Addr) (c0 : Nat) (l0 : List Int) (r : ByteArray) (w : World) (hr0 : Kd.C (Kd.int .u8) w A0 l0.length l0) (hc0 : l0.length ≤ c0) (h : bobbinref03_Text.f k l0 = some r) :
    Calls Tryd.prog 104 #[.slice A0 l0.length c0] w fun e w' => e = .returned (.string r) ∧ Below w.heap.size w w' := by
  have HR0 := Aside0.mk hr0
  have HC0 := Aside0.mk hc0
  clear hr0 hc0
  have HB := Aside0.mk (Below.refl w.heap.size w)
  have H : (bobbinref03_Text.l0 k l0 ([] : List Int) 0) = some r := h
  clear h
  have H' := Aside0.mk H
  clear H
  go_enter Tryd.func104, Tryd.ntmps104
  go_wp2
  go_loopg [3, 4] k (fun kq v3 v4 w' => ∃ (x3_1 : List Int) (x4_1 : Int), v4 = .int .i64 x4_1 ∧ Aside0 (bobbinref03_Text.l0 kq l0 x3_1 x4_1 = some r) ∧ Aside0 (kq ≤ k) ∧ Aside0 (Kd.R (Kd.int .u8) 5 w' w.heap.size (fun _ => True) v3 x3_1) ∧ Aside0 (Below w.heap.size w w'))
  case atStart => exact ⟨(([] : List Int)), (0), (by first | rfl | (simp; done) | (simp [*]; done)), H', ⟨Nat.le_refl _⟩, ⟨by first | exact Kd.R_nil _ _ _ _ _ | exact Kd.N_nil _ _ _ _ _ | exact Kd.V_nil _ _ _ _ _ | exact Kd.Q_nil _ _ _ _ _ | exact Kd.S_nil _ _ _ _ _⟩, ⟨by repeat (first | (with_reducible first | exact HB.out | apply below_alloc | apply pw_below_drewN | apply below_drew1) | exact HB.out)⟩⟩
  case round =>
    clear H'
    try clear c1
    obtain ⟨x3_1, x4_1, rfl, HA, HK1, HO_3, HB⟩ := hrel
    cases gk with
    | zero => exact absurd HA.out (by simp [bobbinref03_Text.l0])
    | succ k1 =>
      have H := HA.out
      clear HA
      simp only [bobbinref03_Text.l0] at H
      by_cases c2 : x4_1 < (l0.length : Int)
      · rw [if_pos c2] at H
        have c2b0 : decide (x4_1 < (l0.length : Int)) = true := decide_eq_true c2
        clear c2
        by_cases c3 : 0 ≤ x4_1
        · rw [if_pos c3] at H
          have c3b0 : decide (0 ≤ x4_1) = true := decide_eq_true c3
          clear c3
          replace H := Option.bind_eq_some_iff.mp H
          obtain ⟨t120, A40, H⟩ := H
          replace H : (if x3_1.length + t120.size < 140737488355328 then (bobbinref03_Text.l0 k1 l0 (x3_1 ++ bytesOf t120) (wrap64 (x4_1 + 1))) else (none)) = some r := H
          have A4 := Aside0.mk A40
          clear A40
          by_cases c5 : x3_1.length + t120.size < 140737488355328
          · rw [if_pos c5] at H
            have LMc5 := Aside0.mk c5
            clear c5
            obtain ⟨y121, hy121⟩ : ∃ y_ : List Int, y_ = (x3_1 ++ bytesOf t120) := ⟨_, rfl⟩
            replace H : (bobbinref03_Text.l0 k1 l0 y121 (wrap64 (x4_1 + 1))) = some r := by first | (rw [hy121]; with_reducible exact H) | (have H2_ := (Option.bind_some _ _).symm.trans H; rw [hy121]; with_reducible exact H2_) | (have H2_ := (Option.bind_some _ _).symm.trans H; with_reducible exact H2_) | with_reducible exact H | (rw [hy121]; exact H) | exact H
            have Ny121 := Aside0.mk hy121
            clear hy121
            have H' := Aside0.mk H
            clear H
            have p119 : 0 ≤ (x4_1 : Int) := of_decide_eq_true (by first | (with_reducible assumption) | assumption)
            have q119 : x4_1 < (l0.length : Int) := of_decide_eq_true (by first | (with_reducible assumption) | assumption)
            obtain ⟨ad119, e119, hx119_0⟩ := Kd.at_int HR0.out x4_1 p119 q119
            cases e119
            replace hx119_0 := (HB.out.cell (World.block_lt_of_cell? w _ hx119_0)).trans hx119_0
            replace p119 := eq_true p119
            replace q119 := eq_true q119
            go_wp2_with (first | ((with_reducible refine gate_callee (f := 122) rfl ?_); refine goesL_ (some 16) rfl rfl Tryd.func122 (by kernel_rfl) rfl #[.int .u8 (rd l0 x4_1)] rfl (by (try simp only [List.map_toArray, List.map_cons, List.map_nil]); first | done | rfl | (simp only [List.length_drop, List.length_take]; rfl)) ?_; (with_reducible refine (bobbinref03_Unit.calls (rd l0 x4_1) t120 _ A4.out).mono ?_); rintro e w6 ⟨rfl, hb⟩; refine ⟨_, rfl, ?_⟩; have n0_ := Aside0.mk (Kd.R_below (by (with_reducible repeat (first | apply Kd.R_alloc | apply Kd.R_drewN | apply Kd.R_drew)); exact HO_3.out) hb); have n1_ := Aside0.mk (below_step (by repeat (first | (with_reducible first | exact HB.out | apply below_alloc | apply pw_below_drewN | apply below_drew1) | exact HB.out)) hb); clear HO_3; clear HB; have HO_3 := n0_; have HB := n1_; clear n0_ n1_; (try clear hb); (try clear hb2); (try clear hk); (try clear hi)) | (at_builtin; refine print_append_str (w0 := w) w.heap.size rfl (.tmp 11) _ 22 9 5 rfl Tryd.underlying22 Tryd.underlying9 info5 u3 x3_1 t120 rfl rfl ?aO ?aB ?aS ?aL ?_; (case aB => exact (by repeat (first | (with_reducible first | exact HB.out | apply below_alloc | apply pw_below_drewN | apply below_drew1) | exact HB.out))); (case aO => exact (Kd.own_of_R (by (with_reducible repeat (first | apply Kd.R_alloc | apply Kd.R_drewN | apply Kd.R_drew)); exact HO_3.out))); (case aS => exact (below_size (by repeat (first | (with_reducible first | exact HB.out | apply below_alloc | apply pw_below_drewN | apply below_drew1) | exact HB.out)))); (case aL => have := LMc5.out; first | omega | (simp only [ByteArray.size_append]; simp only [ByteArray.size, List.size_toArray, List.length_cons, List.length_nil] at this ⊢; omega)); intro v122 w7 ho0 hb hg; have ho := Kd.R_of_own (h1 := fun _ => rfl) (ok := fun _ => True) ho0 (fun _ _ => trivial); clear ho0; have hat := True.intro; rw [← Ny121.out] at ho; change Kd.R (Kd.int .u8) 5 w7 w.heap.size (fun _ => True) v122 y121 at ho; have n0_ := Aside0.mk (hb); have n1_ := Aside0.mk (ho); clear HB; clear HO_3; have HB := n0_; have HO123 := n1_; clear n0_ n1_; clear ho hb hg hat))
            go_roundg k1
            case measure => have := HK1.out; omega
            case rel => exact ⟨(y121), (wrap64 (x4_1 + 1)), (by first | rfl | (simp; done) | (simp [*]; done)), H', ⟨by have := HK1.out; omega⟩, ⟨by (with_reducible repeat (first | apply Kd.R_alloc | apply Kd.R_drewN | apply Kd.R_drew)); exact HO123.out⟩, ⟨by repeat (first | (with_reducible first | exact HB.out | apply below_alloc | apply pw_below_drewN | apply below_drew1) | exact HB.out)⟩⟩
          · rw [if_neg c5] at H
            exact absurd H (by simp)
        · rw [if_neg c3] at H
          exact absurd H (by simp)
      · rw [if_neg c2] at H
        have c2b0 : decide (x4_1 < (l0.length : Int)) = false := decide_eq_false c2
        clear c2
        obtain rfl := Option.some.inj H
        have hcv8 := own_string (P := Tryd.prog) Tryd.underlying22 Tryd.underlying5 Tryd.underlying9 (Kd.own_of_R HO_3.out)
        go_wp2
        go_ret
        exact ⟨by first | rfl | (simp [errW_none, errW_some] <;> rfl) | (simp [*, errW_none, errW_some] <;> rfl), by repeat (first | (with_reducible first | exact HB.out | apply below_alloc | apply pw_below_drewN | apply below_drew1) | exact HB.out)⟩
end Go.Proofs.YtdpnnglfaofjeaaDoor.PEp
namespace Go.Proofs.YtdpnnglfaofjeaaDoor.V
open Go.RowKit Go.Proofs.YtdpnnglfaofjeaaDoorW.PrintWords Go.Proofs.YtdpnnglfaofjeaaDoorW.PrintLast Go.Proofs.YtdpnnglfaofjeaaDoorW.PrintMore
set_option linter.unusedVariables false
set_option linter.unusedSimpArgs false
set_option maxRecDepth 100000
def tailL (b : Int) : List (Int × Int) :=
  if 194 ≤ b ∧ b ≤ 223 then [(128, 191)]
  else if b = 224 then [(160, 191), (128, 191)]
  else if b = 237 then [(128, 159), (128, 191)]
  else if 225 ≤ b ∧ b ≤ 239 then [(128, 191), (128, 191)]
  else if b = 240 then [(144, 191), (128, 191), (128, 191)]
  else if 241 ≤ b ∧ b ≤ 243 then [(128, 191), (128, 191), (128, 191)]
  else if b = 244 then [(128, 143), (128, 191), (128, 191)]
  else []
def spanCells (t : List (Int × Int)) : List Value := t.flatMap fun x => [.int .u8 x.1, .int .u8 x.2]
def TailIs (w w' : World) (v : Value) (t : List (Int × Int)) : Prop :=
  (t = [] ∧ v = .slice none 0 0) ∨ (t ≠ [] ∧ ∃ g, v = .slice (some ⟨g, 0, none⟩) t.length t.length ∧ w.heap.size ≤ g ∧ w'.heap[g]? = some (.cells (spanCells t).toArray 112 (0, 0)))
set_option maxHeartbeats 4000000 in
theorem tail_c2 (b : Int) (w : World) (h1 : 194 ≤ b) (h2 : b ≤ 223) :
    Calls Tryd.prog 101 #[.int .u8 b] w fun e w' => ∃ v, e = .returned v ∧ TailIs w w' v [(128, 191)] ∧ Below w.heap.size w w' := by
  go_enter Tryd.func101, Tryd.ntmps101
  go_wp2
  go_ret
  exact ⟨_, rfl, .inr ⟨by simp, _, rfl, by simp, by simpa [spanCells] using heap_alloc_new (w.alloc (.cells #[.int .u8 128, .int .u8 191] 112)) _⟩, ((Below.refl _ _).alloc (Nat.le_refl _) _).alloc (by simp) _⟩
set_option maxHeartbeats 4000000 in
theorem tail_e0 (b : Int) (w : World) (h1 : b = 224) :
    Calls Tryd.prog 101 #[.int .u8 b] w fun e w' => ∃ v, e = .returned v ∧ TailIs w w' v [(160, 191), (128, 191)] ∧ Below w.heap.size w w' := by
  subst h1
  go_enter Tryd.func101, Tryd.ntmps101
  go_wp2
  go_ret
  exact ⟨_, rfl, .inr ⟨by simp, _, rfl, by simp, by simpa [spanCells] using heap_alloc_new (w.alloc (.cells #[.int .u8 128, .int .u8 191] 112)) _⟩, ((Below.refl _ _).alloc (Nat.le_refl _) _).alloc (by simp) _⟩
set_option maxHeartbeats 4000000 in
theorem tail_ed (b : Int) (w : World) (h1 : b = 237) :
    Calls Tryd.prog 101 #[.int .u8 b] w fun e w' => ∃ v, e = .returned v ∧ TailIs w w' v [(128, 159), (128, 191)] ∧ Below w.heap.size w w' := by
  subst h1
  go_enter Tryd.func101, Tryd.ntmps101
  go_wp2
  go_ret
  exact ⟨_, rfl, .inr ⟨by simp, _, rfl, by simp, by simpa [spanCells] using heap_alloc_new (w.alloc (.cells #[.int .u8 128, .int .u8 191] 112)) _⟩, ((Below.refl _ _).alloc (Nat.le_refl _) _).alloc (by simp) _⟩
set_option maxHeartbeats 4000000 in
theorem tail_e1 (b : Int) (w : World) (h1 : 225 ≤ b) (h2 : b ≤ 239) (h3 : b ≠ 237) :
    Calls Tryd.prog 101 #[.int .u8 b] w fun e w' => ∃ v, e = .returned v ∧ TailIs w w' v [(128, 191), (128, 191)] ∧ Below w.heap.size w w' := by
  have h4 : (b == 237) = false := by simpa using h3
  go_enter Tryd.func101, Tryd.ntmps101
  go_wp2
  go_ret
  exact ⟨_, rfl, .inr ⟨by simp, _, rfl, by simp, by simpa [spanCells] using heap_alloc_new (w.alloc (.cells #[.int .u8 128, .int .u8 191] 112)) _⟩, ((Below.refl _ _).alloc (Nat.le_refl _) _).alloc (by simp) _⟩
set_option maxHeartbeats 4000000 in
theorem tail_f0 (b : Int) (w : World) (h1 : b = 240) :
    Calls Tryd.prog 101 #[.int .u8 b] w fun e w' => ∃ v, e = .returned v ∧ TailIs w w' v [(144, 191), (128, 191), (128, 191)] ∧ Below w.heap.size w w' := by
  subst h1
  go_enter Tryd.func101, Tryd.ntmps101
  go_wp2
  go_ret
  exact ⟨_, rfl, .inr ⟨by simp, _, rfl, by simp, by simpa [spanCells] using heap_alloc_new (w.alloc (.cells #[.int .u8 128, .int .u8 191] 112)) _⟩, ((Below.refl _ _).alloc (Nat.le_refl _) _).alloc (by simp) _⟩
set_option maxHeartbeats 4000000 in
theorem tail_f1 (b : Int) (w : World) (h1 : 241 ≤ b) (h2 : b ≤ 243) :
    Calls Tryd.prog 101 #[.int .u8 b] w fun e w' => ∃ v, e = .returned v ∧ TailIs w w' v [(128, 191), (128, 191), (128, 191)] ∧ Below w.heap.size w w' := by
  go_enter Tryd.func101, Tryd.ntmps101
  go_wp2
  go_ret
  exact ⟨_, rfl, .inr ⟨by simp, _, rfl, by simp, by simpa [spanCells] using heap_alloc_new (w.alloc (.cells #[.int .u8 128, .int .u8 191] 112)) _⟩, ((Below.refl _ _).alloc (Nat.le_refl _) _).alloc (by simp) _⟩
set_option maxHeartbeats 4000000 in
theorem tail_f4 (b : Int) (w : World) (h1 : b = 244) :
    Calls Tryd.prog 101 #[.int .u8 b] w fun e w' => ∃ v, e = .returned v ∧ TailIs w w' v [(128, 143), (128, 191), (128, 191)] ∧ Below w.heap.size w w' := by
  subst h1
  go_enter Tryd.func101, Tryd.ntmps101
  go_wp2
  go_ret
  exact ⟨_, rfl, .inr ⟨by simp, _, rfl, by simp, by simpa [spanCells] using heap_alloc_new (w.alloc (.cells #[.int .u8 128, .int .u8 191] 112)) _⟩, ((Below.refl _ _).alloc (Nat.le_refl _) _).alloc (by simp) _⟩
set_option maxHeartbeats 4000000 in
theorem tail_lo (b : Int) (w : World) (h1 : b < 194) :
    Calls Tryd.prog 101 #[.int .u8 b] w fun e w' => ∃ v, e = .returned v ∧ TailIs w w' v [] ∧ Below w.heap.size w w' := by
  go_enter Tryd.func101, Tryd.ntmps101
  go_wp2
  go_ret
  exact ⟨_, rfl, .inl ⟨rfl, rfl⟩, (Below.refl _ _).alloc (Nat.le_refl _) _⟩
set_option maxHeartbeats 4000000 in
theorem tail_hi (b : Int) (w : World) (h1 : 244 < b) :
    Calls Tryd.prog 101 #[.int .u8 b] w fun e w' => ∃ v, e = .returned v ∧ TailIs w w' v [] ∧ Below w.heap.size w w' := by
  go_enter Tryd.func101, Tryd.ntmps101
  go_wp2
  go_ret
  exact ⟨_, rfl, .inl ⟨rfl, rfl⟩, (Below.refl _ _).alloc (Nat.le_refl _) _⟩
theorem tail_calls (b : Int) (w : World) :
    Calls Tryd.prog 101 #[.int .u8 b] w fun e w' => ∃ v, e = .returned v ∧ TailIs w w' v (tailL b) ∧ Below w.heap.size w w' := by
  unfold tailL
  split
  · exact tail_c2 b w (by omega) (by omega)
  split
  · exact tail_e0 b w (by omega)
  split
  · exact tail_ed b w (by omega)
  split
  · exact tail_e1 b w (by omega) (by omega) (by omega)
  split
  · exact tail_f0 b w (by omega)
  split
  · exact tail_f1 b w (by omega) (by omega)
  split
  · exact tail_f4 b w (by omega)
  · by_cases h : b < 194
    · exact tail_lo b w h
    · exact tail_hi b w (by omega)
end Go.Proofs.YtdpnnglfaofjeaaDoor.V
namespace Go.Proofs.YtdpnnglfaofjeaaDoor.V
open Go.RowKit Go.Proofs.YtdpnnglfaofjeaaDoorW.PrintWords Go.Proofs.YtdpnnglfaofjeaaDoorW.PrintLast Go.Proofs.YtdpnnglfaofjeaaDoorW.PrintMore
set_option linter.unusedVariables false
set_option linter.unusedSimpArgs false
set_option maxRecDepth 100000
def firstGo (l : List Int) (t : List (Int × Int)) : List (Int × Int) → Nat → Int × Bool × Bool
  | [], _ => (1 + t.length, !t.isEmpty, false)
  | s :: r, i => if (l.length : Int) ≤ i + 1 then (l.length, false, true)
    else if rd l (i + 1) < s.1 then (i + 1, false, false) else if s.2 < rd l (i + 1) then (i + 1, false, false)
    else firstGo l t r (i + 1)
def firstL (l : List Int) : Int × Bool × Bool :=
  if rd l 0 < 128 then (1, true, false) else firstGo l (tailL (rd l 0)) (tailL (rd l 0)) 0
theorem tailL_length (b : Int) : (tailL b).length ≤ 3 := by
  unfold tailL
  (repeat' split) <;> simp
theorem cell_al {W : World} {a : Addr} {v : Value} (o : Obj) (h : W.cell? a = some v) : (W.alloc o).cell? a = some v :=
  (World.cell?_alloc_lt W o a (World.block_lt_of_cell? W a h)).trans h
def FirstIs (w : World) (r : Int × Bool × Bool) (e : Ending) (w' : World) : Prop :=
  e = .returned (.tuple #[.int .i64 r.1, .bool r.2.1, .bool r.2.2]) ∧ Below w.heap.size w w'
theorem span_cells {W : World} {g : Nat} {t : List (Int × Int)} (h : W.heap[g]? = some (.cells (spanCells t).toArray 112 (0, 0))) (n : Nat) (s : Int × Int) (hs : t[n]? = some s) :
    W.cell? ⟨g, n * 2, none⟩ = some (.int .u8 s.1) ∧ W.cell? ⟨g, n * 2 + 1, none⟩ = some (.int .u8 s.2) := by
  have key : ∀ (t : List (Int × Int)) (n : Nat), t[n]? = some s → (spanCells t)[n * 2]? = some (.int .u8 s.1) ∧ (spanCells t)[n * 2 + 1]? = some (.int .u8 s.2) := by
    intro t
    induction t with
    | nil => intro n h; simp at h
    | cons a t ih =>
      intro n h
      cases n with
      | zero =>
        simp at h
        subst h
        simp [spanCells]
      | succ n =>
        have := ih n (by simpa using h)
        have e1 : (n + 1) * 2 = n * 2 + 2 := by omega
        rw [e1]
        simpa [spanCells] using this
  obtain ⟨h1, h2⟩ := key t n hs
  rw [blk_cell h, blk_cell h]
  simpa using ⟨h1, h2⟩
set_option maxHeartbeats 8000000 in
theorem first_calls (A : Option Addr) (c : Nat) (l : List Int) (w : World) (hr : Kd.C (Kd.int .u8) w A l.length l) (hc : l.length ≤ c) (hp : 0 < l.length) :
    Calls Tryd.prog 88 #[.slice A l.length c] w (FirstIs w (firstL l)) := by
  have HM := Kd.C_max hr
  obtain ⟨ad, rfl, hx⟩ := Kd.at_int hr 0 (by omega) (by omega)
  rw [show ((0 : Int)).toNat = 0 from rfl, Addr.add_zero'] at hx
  by_cases h1 : rd l 0 < 128
  · have e : firstL l = (1, true, false) := by simp [firstL, h1]
    have E := Lib.hid e
    clear e
    go_enter Tryd.func88, Tryd.ntmps88
    go_wp2
    go_ret3
    exact ⟨by rw [E.out]; rfl, Below.refl _ _⟩
  · have e : firstL l = firstGo l (tailL (rd l 0)) (tailL (rd l 0)) 0 := by simp [firstL, h1]
    have HL := tailL_length (rd l 0)
    generalize ht : tailL (rd l 0) = t at e HL
    have HT := Lib.hid ht
    have E := Lib.hid e
    clear e ht
    go_enter Tryd.func88, Tryd.ntmps88
    go_wp2_with fail
    refine (tail_calls _ _).mono ?_
    rintro e w1 ⟨v, rfl, hv, hb⟩
    rw [HT.out] at hv
    rcases hv with ⟨rfl, rfl⟩ | ⟨hne, g, rfl, hg, hcell⟩
    · have e0 : firstGo l [] [] 0 = (1, false, false) := by simp [firstGo]
      have E0 := Lib.hid e0
      clear e0
      have hneq := Go.run_neq_slice_nil_any (P := Tryd.prog)
      go_wp2
      go_loopw [18] (fun i wr => i = .int .i64 0 ∧ wr = w1) (fun _ _ => 0)
      case atStart => exact ⟨rfl, rfl⟩
      case round =>
        obtain ⟨rfl, rfl⟩ := hrel
        go_wp2
        go_ret3
        exact ⟨by rw [E.out, E0.out]; rfl, hb⟩
    · go_wp2
      go_loopw [18] (fun i wr => ∃ n : Nat, i = .int .i64 n ∧ n ≤ t.length ∧ Hid (firstL l = firstGo l t (t.drop n) n) ∧ wr.heap[g]? = some (.cells (spanCells t).toArray 112 (0, 0)) ∧ Below w.heap.size w wr) (fun i _ => t.length - (intOf i).toNat)
      case atStart => exact ⟨0, rfl, Nat.zero_le _, E, hcell, hb⟩
      case round =>
        obtain ⟨n, rfl, hn, HE, hcl, hbr⟩ := hrel
        by_cases hlt : n < t.length
        · have hs : t[n]? = some t[n] := List.getElem?_eq_getElem hlt
          generalize t[n] = sp at hs
          obtain ⟨hc1, hc2⟩ := span_cells hcl n sp hs
          have hdr : t.drop n = sp :: t.drop (n + 1) := by
            rw [List.drop_eq_getElem_cons hlt]
            congr 1
            rw [List.getElem?_eq_getElem hlt] at hs
            exact Option.some.inj hs
          by_cases hle : (l.length : Int) ≤ n + 1
          · have e2 : firstL l = ((l.length : Int), false, true) := by rw [HE.out, hdr]; simp [firstGo, hle]
            have E2 := Lib.hid e2
            clear e2 hdr hs
            go_wp2
            go_ret3
            exact ⟨by rw [E2.out]; rfl, hbr.alloc hbr.size _⟩
          · obtain ⟨ad', ead, hx1⟩ := Kd.at_int (Kd.C_below hr hbr) ((n : Int) + 1) (by omega) (by omega)
            injection ead with ead
            subst ead
            have q1 : (n : Int) + 1 < (l.length : Int) := by omega
            have q0 : (0 : Int) ≤ (n : Int) + 1 := by omega
            have q2 : ((n : Int) + 1).toNat = n + 1 := by omega
            have qw : IntKind.i64.wrap ((n : Int) + 1) = (n : Int) + 1 := IntWalk.i64_in _ (by omega)
            rw [q2, show ad.add (n + 1) = ⟨ad.block, ad.off + (n + 1), none⟩ from by simp [Addr.add]] at hx1
            have hxa := cell_al (.cells #[.int .u8 sp.1, .int .u8 sp.2] 112) hx1
            by_cases hlo : rd l ((n : Int) + 1) < sp.1
            · have e2 : firstL l = ((n : Int) + 1, false, false) := by rw [HE.out, hdr]; simp [firstGo, hle, hlo]
              have E2 := Lib.hid e2
              have d1 : decide (rd l ((n : Int) + 1) < sp.1) = true := by simpa using hlo
              clear e2 hdr hs
              go_wp2
              go_quiet (fail)
              go_wp2
              go_ret3
              exact ⟨by rw [E2.out]; rfl, pw_below_drewN (hbr.alloc hbr.size _) _⟩
            · have d1 : decide (rd l ((n : Int) + 1) < sp.1) = false := by simpa using hlo
              by_cases hhi : sp.2 < rd l ((n : Int) + 1)
              · have e2 : firstL l = ((n : Int) + 1, false, false) := by rw [HE.out, hdr]; simp [firstGo, hle, hlo, hhi]
                have E2 := Lib.hid e2
                have d2 : decide (sp.2 < rd l ((n : Int) + 1)) = true := by simpa using hhi
                clear e2 hdr hs
                go_wp2
                go_quiet (fail)
                go_wp2
                go_ret3
                exact ⟨by rw [E2.out]; rfl, pw_below_drewN (hbr.alloc hbr.size _) _⟩
              · have e2 : firstL l = firstGo l t (t.drop (n + 1)) (n + 1) := by rw [HE.out, hdr]; simp [firstGo, hle, hlo, hhi]
                have E2 := Lib.hid e2
                have d2 : decide (sp.2 < rd l ((n : Int) + 1)) = false := by simpa using hhi
                clear e2 hdr hs
                go_wp2
                go_quiet (fail)
                go_wp2
                go_roundw
                case rel => exact ⟨n + 1, by go_num, by omega, E2, blk_drewN (blk_alloc hcl _) _, pw_below_drewN (hbr.alloc hbr.size _) _⟩
                case measure => simp [intOf]; omega
        · have e2 : firstL l = (1 + (t.length : Int), true, false) := by
            rw [HE.out, List.drop_of_length_le (by omega)]
            simp [firstGo, hne]
          have E2 := Lib.hid e2
          have hneq := Go.run_neq_slice_nil_any (P := Tryd.prog)
          obtain rfl : n = t.length := by omega
          clear e2
          go_wp2
          go_ret3
          exact ⟨by rw [E2.out]; rfl, hbr⟩
end Go.Proofs.YtdpnnglfaofjeaaDoor.V
namespace Go.Proofs.YtdpnnglfaofjeaaDoor.V
open Go.RowKit Go.Proofs.YtdpnnglfaofjeaaDoorW.PrintWords
set_option linter.unusedVariables false
theorem firstGo_pos (l : List Int) (t : List (Int × Int)) : ∀ (r : List (Int × Int)) (i : Nat), 0 < l.length → 1 ≤ (firstGo l t r i).1
  | [], i, h => by simp [firstGo]; omega
  | s :: r, i, h => by
    unfold firstGo
    split
    · simp; omega
    split
    · simp; omega
    split
    · simp; omega
    · exact firstGo_pos l t r (i + 1) h
theorem firstL_pos (l : List Int) (h : 0 < l.length) : 1 ≤ (firstL l).1 := by
  unfold firstL
  split
  · simp
  · exact firstGo_pos l _ _ 0 h
theorem firstGo_le (l : List Int) (t : List (Int × Int)) : ∀ (r : List (Int × Int)) (i : Nat), i < l.length → t.length = i + r.length → (firstGo l t r i).1 ≤ l.length
  | [], i, h, ht => by simp [firstGo] at *; omega
  | s :: r, i, h, ht => by
    unfold firstGo
    simp at ht
    split
    · simp
    split
    · simp; omega
    split
    · simp; omega
    · exact firstGo_le l t r (i + 1) (by omega) (by omega)
theorem firstL_le (l : List Int) (h : 0 < l.length) : (firstL l).1 ≤ l.length := by
  unfold firstL
  split
  · simp; omega
  · exact firstGo_le l _ _ 0 h (by omega)
def fffd : List Int := [239, 191, 189]
def run (l : List Int) : List Int × List Int :=
  if h : 0 < l.length then
    if (firstL l).2.2 = true then ([], l)
    else ((if (firstL l).2.1 = true then l.take (firstL l).1.toNat else fffd) ++ (run (l.drop (firstL l).1.toNat)).1, (run (l.drop (firstL l).1.toNat)).2)
  else ([], [])
termination_by l.length
decreasing_by
  all_goals
    have := firstL_pos l h
    rw [List.length_drop]
    omega
theorem run_nil : run [] = ([], []) := by unfold run; simp
theorem run_open (l : List Int) (h : 0 < l.length) (ho : (firstL l).2.2 = true) : run l = ([], l) := by rw [run, dif_pos h, if_pos ho]
theorem run_good (l : List Int) (h : 0 < l.length) (ho : (firstL l).2.2 = false) (hg : (firstL l).2.1 = true) :
    run l = (l.take (firstL l).1.toNat ++ (run (l.drop (firstL l).1.toNat)).1, (run (l.drop (firstL l).1.toNat)).2) := by
  rw [run, dif_pos h, if_neg (by simp [ho]), if_pos hg]
theorem run_bad (l : List Int) (h : 0 < l.length) (ho : (firstL l).2.2 = false) (hg : (firstL l).2.1 = false) :
    run l = (fffd ++ (run (l.drop (firstL l).1.toNat)).1, (run (l.drop (firstL l).1.toNat)).2) := by
  rw [run, dif_pos h, if_neg (by simp [ho]), if_neg (by simp [hg])]
theorem run_len (l : List Int) : (run l).1.length + 3 * (run l).2.length ≤ 3 * l.length ∧ (run l).2.length ≤ l.length := by
  induction hn : l.length using Nat.strongRecOn generalizing l with
  | ind n ih =>
    by_cases h : 0 < l.length
    · have h1 := firstL_pos l h
      have h2 := firstL_le l h
      have hd := ih (l.drop (firstL l).1.toNat).length (by rw [List.length_drop]; omega) _ rfl
      rw [List.length_drop] at hd
      cases ho : (firstL l).2.2
      · cases hg : (firstL l).2.1
        · rw [run_bad l h ho hg]
          simp only [List.length_append, fffd, List.length_cons, List.length_nil]
          omega
        · rw [run_good l h ho hg]
          simp only [List.length_append, List.length_take]
          omega
      · rw [run_open l h ho]
        simp
        omega
    · have : l = [] := List.eq_nil_of_length_eq_zero (by omega)
      subst this
      rw [run_nil]
      simp
end Go.Proofs.YtdpnnglfaofjeaaDoor.V
namespace Go.Proofs.YtdpnnglfaofjeaaDoor.V
open Go.RowKit Go.Proofs.YtdpnnglfaofjeaaDoorW.PrintWords Go.Proofs.YtdpnnglfaofjeaaDoorW.PrintLast Go.Proofs.YtdpnnglfaofjeaaDoorW.PrintMore
set_option linter.unusedVariables false
set_option linter.unusedSimpArgs false
set_option maxRecDepth 100000
theorem info5 : (Tryd.prog.info? 5).map (fun i => (i.zero, i.size, i.bytes)) = some (some (.int .u8 0), 1, 1) := by kernel_rfl
def DecIs (w : World) (F : Nat → Prop) (g : Nat) (l : List Int) : Prop :=
  F g ∧ ∃ v, w.heap[g]? = some (.cells #[v] 98 (0, 0)) ∧ Kd.R (Kd.int .u8) 5 w 0 F v l
theorem DecIs.step {w w1 : World} {F : Nat → Prop} {g : Nat} {l : List Int} (h : DecIs w F g l) (hm : ∀ k, F k → k < w.heap.size → w1.heap[k]? = w.heap[k]?) : DecIs w1 F g l := by
  obtain ⟨hF, v, hg, hr⟩ := h
  exact ⟨hF, v, (hm g hF (blk_lt hg)).trans hg, Kd.R_step hr hm⟩
theorem DecIs.mono {w : World} {F F' : Nat → Prop} {g : Nat} {l : List Int} (h : DecIs w F g l) (hm : ∀ k, F k → F' k) : DecIs w F' g l := by
  obtain ⟨hF, v, hg, hr⟩ := h
  exact ⟨hm g hF, v, hg, Kd.R_mono hr hm⟩
theorem DecIs.bound {w : World} {F : Nat → Prop} {g : Nat} {l : List Int} (h : DecIs w F g l) : DecIs w (fun k => F k ∧ k < w.heap.size) g l := by
  obtain ⟨hF, v, hg, hr⟩ := h
  exact ⟨⟨hF, blk_lt hg⟩, v, hg, Kd.R_mono (Kd.R_bound hr) (fun k hk => ⟨hk.1, hk.2.2.1⟩)⟩
theorem DecIs.lt {w : World} {F : Nat → Prop} {g : Nat} {l : List Int} (h : DecIs w F g l) : g < w.heap.size := by
  obtain ⟨hF, v, hg, hr⟩ := h
  exact blk_lt hg
theorem DecIs.below {w w1 : World} {F : Nat → Prop} {g : Nat} {l : List Int} (h : DecIs w F g l) (hb : Below w.heap.size w w1) : DecIs w1 F g l := h.step fun k _ hk => hb.block k hk
theorem DecIs.alloc {w : World} {F : Nat → Prop} {g : Nat} {l : List Int} (h : DecIs w F g l) (o : Obj) : DecIs (w.alloc o) F g l := h.below (below_alloc (Below.refl _ _) o)
theorem DecIs.drewN {w : World} {F : Nat → Prop} {g : Nat} {l : List Int} (h : DecIs w F g l) (n : Nat) : DecIs (w.drewN n) F g l := h
theorem DecIs.after {w w1 : World} {F : Nat → Prop} {g : Nat} {l : List Int} {v v1 : Value} (h : DecIs w (fun k => F k ∧ some k ≠ v.ownBlock) g l) (hg : w.grownBy w1 v.ownBlock)
    (hat : v1.ownBlock = v.ownBlock ∨ ∃ b, v1.ownBlock = some b ∧ w.heap.size ≤ b) : DecIs w1 (fun k => F k ∧ some k ≠ v1.ownBlock) g l := by
  refine ((h.bound).step (w1 := w1) (fun k hk hlt => hg.block k hlt hk.1.2)).mono ?_
  rintro k ⟨⟨h1, h2⟩, h3⟩
  refine ⟨h1, ?_⟩
  rcases hat with hat | ⟨b, hb, hle⟩
  · rw [hat]; exact h2
  · rw [hb]
    intro he
    injection he with he
    omega
section
variable {ops : Array Oper} {rest : List Oper} {o : Oper} {a : Act} {Q : Exit → Act → World → Prop}
theorem appB {w0 W : World} (hgd : o.guard = none) (s x : Operand) (ho : o.op = .call { callee := .builtin .append, args := #[s, x], argTypes := #[22, 22] })
    (v : Value) (xs ys : List Int) (A : Option Addr) (m c : Nat) (hs : a.eval s = v) (hx : a.eval x = .slice A m c)
    (HO : Kd.R (Kd.int .u8) 5 W w0.heap.size (fun _ => True) v xs) (HR : Kd.C (Kd.int .u8) W A m ys) (HB : Below w0.heap.size w0 W) (hl : xs.length + m ≤ 140737488355328)
    (h : ∀ v1 w1, Kd.R (Kd.int .u8) 5 w1 w0.heap.size (fun _ => True) v1 (xs ++ ys) → Below w0.heap.size w0 w1 → W.grownBy w1 v.ownBlock → (v1.ownBlock = v.ownBlock ∨ ∃ b, v1.ownBlock = some b ∧ W.heap.size ≤ b) → wpList Tryd.prog ops Q rest (a.put o.dst v1) w1) :
    wpList Tryd.prog ops Q (o :: rest) a W :=
  Kd.R_append_rows (Kd.int .u8) (w0 := w0) w0.heap.size hgd s x 22 5 (.int .u8 0) 1 ho Tryd.underlying22 info5 rfl (by decide) (by omega) v xs ys A m c (fun _ => True) (fun _ => False) hs hx
    HO HR (fun _ _ h => h) (fun _ h => h.elim) (fun _ _ => trivial) HB HB.size (by omega) h
end
theorem run_append_str_at {P : Program} (w : World) (base : Nat) (t u ty e : TypeId) (i : TypeInfo) (ht : P.underlying t = some (.slice e)) (hu : P.underlying u = some .string) (hi : P.info? e = some i) (hz : i.zero = some (.int .u8 0))
    (hsize : i.size = 1) (hby : i.bytes = 1) (v : Value) (n : Nat) (xs : List Value) (hown : w.ownsRow base e 1 v n xs) (s : ByteArray) (hbytes : n + s.size ≤ 140737488355328) (hbase : base ≤ w.heap.size) :
    ∃ v' w', (Builtin.append_ #[t, u] ty #[v, .string s]).run P w = .ok v' w' ∧ w'.ownsRow base e 1 v' (n + s.size) (xs ++ Lib.strCells s) ∧ w.grownBy w' v.ownBlock ∧
      (v'.ownBlock = v.ownBlock ∨ ∃ b, v'.ownBlock = some b ∧ w.heap.size ≤ b) := by
  have h63 : n + s.size ≤ maxLen := by simp only [maxLen]; omega
  rcases hown.2 with ⟨rfl, rfl⟩ | ⟨g, cap, cur, rfl, hbg, hg, hnc, hcm, hcs, htake⟩
  · have hown' : w.ownsRow w.heap.size e 1 (.slice none 0 0) 0 xs := ⟨hown.1, .inl ⟨rfl, rfl⟩⟩
    obtain ⟨v', w', hr, h1, h2, _⟩ := Lib.run_append_own_string (P := P) w w.heap.size t u ty e i ht hu hi hz hsize hby _ 0 xs hown' s h63 hbytes (Nat.le_refl _)
    refine ⟨v', w', hr, own_weaken h1 hbase, h2, ?_⟩
    cases hv : v'.ownBlock with
    | none => exact .inl rfl
    | some k => exact .inr ⟨k, rfl, own_base h1 k hv⟩
  · obtain ⟨v', w', hr, h1, h2, _⟩ := Lib.run_append_own_string (P := P) w base t u ty e i ht hu hi hz hsize hby _ n xs hown s h63 hbytes hbase
    refine ⟨v', w', hr, h1, h2, ?_⟩
    by_cases hroom : n + s.size ≤ cap
    · have hr2 := Lib.run_append_room_string (P := P) w t u ty e i ht hu hi hsize g n cap cur hg s hroom (by rw [hcs]; omega)
      rw [hr] at hr2
      injection hr2 with hr2 _
      rw [hr2]
      exact .inl rfl
    · have holds : ∀ j u, xs[j]? = some u → w.cell? ((⟨g, 0, none⟩ : Addr).add j) = some u := hown.cells (g := g) rfl
      have hr2 := Lib.run_append_grow_string (P := P) w t u ty e i _ ht hu hi hz ⟨g, 0, none⟩ n cap xs (by rw [hsize]; exact hown.1) holds s (by omega) (by omega)
        (growslice_fits (by omega) (by rw [hby]; omega))
      rw [hr] at hr2
      injection hr2 with hr2 _
      rw [hr2]
      exact .inr ⟨_, rfl, Nat.le_refl _⟩
section
variable {ops : Array Oper} {rest : List Oper} {o : Oper} {a : Act} {Q : Exit → Act → World → Prop}
theorem appS {w0 W : World} (hgd : o.guard = none) (s x : Operand) (ho : o.op = .call { callee := .builtin .append, args := #[s, x], argTypes := #[22, 9] })
    (v : Value) (xs : List Int) (y : ByteArray) (hs : a.eval s = v) (hx : a.eval x = .string y)
    (HO : Kd.R (Kd.int .u8) 5 W w0.heap.size (fun _ => True) v xs) (HB : Below w0.heap.size w0 W) (hl : xs.length + y.size ≤ 140737488355328)
    (h : ∀ v1 w1, Kd.R (Kd.int .u8) 5 w1 w0.heap.size (fun _ => True) v1 (xs ++ bytesOf y) → Below w0.heap.size w0 w1 → W.grownBy w1 v.ownBlock → (v1.ownBlock = v.ownBlock ∨ ∃ b, v1.ownBlock = some b ∧ W.heap.size ≤ b) → wpList Tryd.prog ops Q rest (a.put o.dst v1) w1) :
    wpList Tryd.prog ops Q (o :: rest) a W := by
  obtain ⟨i0, hi, hz0, hz1, hz2⟩ := info_parts info5
  have HO' := Kd.own_of_R HO
  obtain ⟨v1, w1, hr, hown, hg, hat⟩ := run_append_str_at (P := Tryd.prog) W w0.heap.size 22 9 o.type 5 i0 Tryd.underlying22 Tryd.underlying9 hi hz0 hz1 hz2 v xs.length _ HO' y hl HB.size
  refine wpList_plain hgd fun K hK => ?_
  unfold Oper.wp execOp
  simp only [ho, resolve, invoke, builtin, Sem.run_bind, Sem.run_pure, Result.andThen_ok, List.map_toArray, List.map_cons, List.map_nil, hs, hx, hr]
  refine hK _ _ (h v1 w1 (Kd.R_of_own ?_ (fun _ _ => trivial)) (HB.grown hg HB.size (own_base HO')) hg hat)
  have hl2 : (xs ++ bytesOf y).length = xs.length + y.size := by rw [List.length_append, bytesOf_length]
  have hc : encs (Value.int .u8) (xs ++ bytesOf y) = encs (Value.int .u8) xs ++ Lib.strCells y := by
    rw [encs_append]
    congr 1
    simp [encs, bytesOf, Lib.strCells]
  rw [hl2, hc]
  exact hown
end
theorem R_empty (W : World) (base : Nat) (hb : base ≤ W.heap.size) : Kd.R (Kd.int .u8) 5 (W.alloc (.cells #[] 5)) base (fun _ => True) (.slice (some ⟨W.heap.size, 0, none⟩) 0 0) [] :=
  Kd.R_of_own (enc := Value.int .u8) (h1 := fun _ => rfl) (own_lit_of W base 5 ([] : List Int) hb (by simp)) (fun _ _ => trivial)
theorem only_setCell {a w : World} {g : Nat} (h : a.grownBy w (some g)) {p : Addr} (hp : p.block = g ∨ a.heap.size ≤ p.block) (u : Value) : a.grownBy (w.setCell p u) (some g) :=
  ⟨h.os, h.tape, h.output, by simpa [World.setCell] using h.size, fun i hi hne => (Below.heap_setCell w p u i (by
    rintro rfl
    rcases hp with hp | hp
    · exact hne (by rw [hp])
    · omega)).trans (h.block i hi hne)⟩
def FeedIs (w : World) (g : Nat) (r : List Int × List Int) (e : Ending) (w' : World) : Prop :=
  ∃ v, e = .returned v ∧ Kd.R (Kd.int .u8) 5 w' w.heap.size (fun _ => True) v r.1 ∧ DecIs w' (fun k => (k = g ∨ w.heap.size ≤ k) ∧ some k ≠ v.ownBlock) g r.2 ∧ w.grownBy w' (some g)
theorem feed_end {w W w4 : World} {g : Nat} {l : List Int} {v0 v4 v6 : Value} {out rest : List Int} (H : Hid (run l = (out, rest))) (hg : w.heap[g]? = some (.cells #[v0] 98 (0, 0)))
    (ho : Kd.R (Kd.int .u8) 5 W w.heap.size (fun _ => True) v6 out) (hb : Below w.heap.size w W) (ho4 : Kd.R (Kd.int .u8) 5 w4 W.heap.size (fun _ => True) v4 ([] ++ rest)) (hb4 : Below W.heap.size W w4) :
    FeedIs w g (run l) (.returned v6) (w4.setCell ⟨g, 0, none⟩ v4) := by
  have hlt := blk_lt hg
  have hgW : W.heap[g]? = some (.cells #[v0] 98 (0, 0)) := (hb.block g hlt).trans hg
  have hg4 := blk_below hgW hb4
  have h6 := Kd.R_below ho hb4
  have h6s := Kd.R_set h6 hg4 (by simp [Kd.int, Kd.scalar]) 0 v4
  have h4s := Kd.R_set ho4 hg4 (by simp [Kd.int, Kd.scalar]) 0 v4
  refine ⟨v6, rfl, ?_, ⟨⟨.inl rfl, Kd.R_ne h6s (blk_set hg4 0 v4) (by decide)⟩, v4, by simpa using blk_set hg4 0 v4, ?_⟩, only_setCell (grown_of_below (below_then hb hb.size hb4) _) (.inl rfl) _⟩
  · rw [H.out]; exact h6s
  · rw [H.out]
    refine Kd.R_lower (Kd.R_mono (Kd.R_bound h4s) (fun k hk => ⟨.inr (Nat.le_trans hb.size hk.2.1), fun he => ?_⟩)) (Nat.zero_le _)
    have := Kd.R_lt ho k he.symm
    have := hk.2.1
    omega
set_option maxHeartbeats 8000000 in
theorem feed_calls (F : Nat → Prop) (g : Nat) (l p : List Int) (A : Option Addr) (c : Nat) (w : World) (hd : DecIs w F g l) (hp : Kd.C (Kd.int .u8) w A p.length p) (hc : p.length ≤ c) (hN : l.length + p.length ≤ 1099511627776) :
    Calls Tryd.prog 75 #[.pointer (some ⟨g, 0, none⟩), .slice A p.length c] w (FeedIs w g (run (l ++ p))) := by
  obtain ⟨hF, v0, hg, hr0⟩ := hd
  obtain ⟨A0, c0, rfl, hc0, hC0⟩ := Kd.R_reads hr0
  have hgB : ∀ {W : World}, Below w.heap.size w W → W.heap[g]? = some (.cells #[.slice A0 l.length c0] 98 (0, 0)) := fun hb => (hb.block g (blk_lt hg)).trans hg
  have hcell : (w.alloc (.cells #[] 5)).cell? ⟨g, 0, none⟩ = some (.slice A0 l.length c0) := blk_cell (blk_alloc hg _) 0
  have HE := R_empty w w.heap.size (Nat.le_refl _)
  have HBE := (Below.refl w.heap.size w).alloc (Nat.le_refl _) (.cells #[] 5)
  go_enter Tryd.func75, Tryd.ntmps75
  go_wp2_with (first
    | (at_builtin; refine appB (w0 := w) rfl (.tmp 12) (.tmp 16) rfl _ _ _ _ _ _ rfl rfl HE (Kd.C_below hC0 HBE) HBE (by simp; omega) ?_; intro v1 w1 ho1 hb1 _ _; clear HE HBE hcell)
    | (at_builtin; refine appB (w0 := w) rfl (.tmp 17) (.tmp 18) rfl _ _ _ _ _ _ rfl rfl ho1 (Kd.C_below hp hb1) hb1 (by simp; omega) ?_; intro v2 w2 ho2 hb2 _ _; clear ho1 hb1))
  go_loopw [5, 6] (fun v5 v6 wr => ∃ (A : Option Addr) (c : Nat) (rest out : List Int), v5 = .slice A rest.length c ∧ rest.length ≤ c ∧ Kd.F (Kd.int .u8) wr (fun k => True ∧ some k ≠ v6.ownBlock) A rest.length rest ∧
      Kd.R (Kd.int .u8) 5 wr w.heap.size (fun _ => True) v6 out ∧ Below w.heap.size w wr ∧ Hid (run (l ++ p) = (out ++ (run rest).1, (run rest).2)) ∧ out.length + 3 * rest.length ≤ 3 * (l.length + p.length)) (fun v5 _ _ => match v5 with | .slice _ n _ => n | _ => 0)
  case atStart =>
    simp only [List.nil_append] at ho2
    obtain ⟨A2, c2, rfl, hc2, hC2⟩ := Kd.R_reads ho2
    exact ⟨A2, c2, l ++ p, [], rfl, hc2, Kd.F_mono (Kd.R_F ho2) (fun k _ => by simp [Value.ownBlock]), Kd.R_nil _ _ _ _ _, hb2, by exact (rfl : run (l ++ p) = ([] ++ (run (l ++ p)).1, (run (l ++ p)).2)), by simp⟩
  case round =>
    obtain ⟨A3, c3, rest, out, rfl, hc3, hF3, ho3, hb3, HQ, hlen⟩ := hrel
    have hC3 := Kd.F_now hF3
    by_cases hp0 : 0 < rest.length
    · obtain ⟨⟨fn, fg, fo⟩, hf⟩ : ∃ r, firstL rest = r := ⟨_, rfl⟩
      have HFC := first_calls A3 c3 rest wr hC3 hc3 hp0
      have hf1 := firstL_pos rest hp0
      have hf2 := firstL_le rest hp0
      rw [hf] at HFC hf1 hf2
      simp only at hf1 hf2
      cases fo
      · cases fg
        · have e2 : run (l ++ p) = (out ++ fffd ++ (run (rest.drop fn.toNat)).1, (run (rest.drop fn.toNat)).2) := by rw [HQ.out, run_bad rest hp0 (by rw [hf]) (by rw [hf]), hf]; simp
          have E2 := Lib.hid e2
          clear e2 hf
          go_wp2_with fail
          refine HFC.mono ?_
          rintro e w3 ⟨rfl, hb3'⟩
          have hF4 := Kd.F_below hF3 hb3'
          have ho3' := Kd.R_below ho3 hb3'
          have hb3s := below_then hb3 hb3.size hb3'
          have hsz3 := hb3.size
          clear hF3 ho3 HFC hC3
          obtain ⟨i0, hi0, _, hsz0, _⟩ := info_parts info5
          obtain ⟨A5, hcut, hA5, hc5⟩ := print_drop_of (P := Tryd.prog) (Value.int .u8) 0 22 5 .i64 Tryd.underlying22 hi0 hsz0 A3 c3 rest fn (by omega) hf2 hc3
          clear hi0 hsz0
          go_wp2_with (at_builtin; (refine appS (w0 := w) rfl (.tmp 36) (.const (.string ⟨#[239, 191, 189]⟩)) rfl u6 _ ⟨#[239, 191, 189]⟩ rfl rfl ho3' hb3s (by show _ + 3 ≤ _; omega) ?_); intro v6 w6 ho6 hb6 hgr6 hat6; have hF6 := Kd.F_after hF4 hgr6 hat6; clear hgr6 hat6 hF4)
          go_roundw
          case rel =>
            refine ⟨A5, c3 - fn.toNat, rest.drop fn.toNat, _, by rw [List.length_drop], hc5, Kd.F_imp hF6 (fun W' hC => Kd.C_of_reads (h1 := fun _ => rfl) (hA5 _ (Kd.reads_of_C hC))), ho6, hb6, E2, ?_⟩
            have hfl : (bytesOf ⟨#[239, 191, 189]⟩).length = 3 := rfl
            rw [List.length_append, hfl, List.length_drop]
            omega
          case measure => simp [List.length_drop]; omega
        · have e2 : run (l ++ p) = (out ++ rest.take fn.toNat ++ (run (rest.drop fn.toNat)).1, (run (rest.drop fn.toNat)).2) := by rw [HQ.out, run_good rest hp0 (by rw [hf]) (by rw [hf]), hf]; simp
          have E2 := Lib.hid e2
          clear e2 hf
          go_wp2_with fail
          refine HFC.mono ?_
          rintro e w3 ⟨rfl, hb3'⟩
          have hF4 := Kd.F_below hF3 hb3'
          have ho3' := Kd.R_below ho3 hb3'
          have hb3s := below_then hb3 hb3.size hb3'
          have hsz3 := hb3.size
          clear hF3 ho3 HFC hC3
          obtain ⟨i0, hi0, _, hsz0, _⟩ := info_parts info5
          obtain ⟨A5, hcut, hA5, hc5⟩ := print_drop_of (P := Tryd.prog) (Value.int .u8) 0 22 5 .i64 Tryd.underlying22 hi0 hsz0 A3 c3 rest fn (by omega) hf2 hc3
          obtain ⟨htake, hT5, htc⟩ := print_take_of (P := Tryd.prog) (Value.int .u8) 0 22 5 .i64 Tryd.underlying22 hi0 hsz0 A3 c3 rest fn (by omega) hf2 hc3
          have hCT := Kd.C_of_reads (h1 := fun _ => rfl) (hT5 _ (Kd.reads_of_C (Kd.F_now hF4)))
          clear hi0 hsz0 hT5 htc
          have hl5 : (rest.take fn.toNat).length = fn.toNat := by rw [List.length_take]; omega
          rw [hl5] at hCT
          have HL5 := Lib.hid hl5
          clear hl5
          go_wp2_with (at_builtin; refine appB (w0 := w) rfl (.tmp 31) (.tmp 34) rfl u6 _ _ _ _ _ rfl rfl ho3' hCT hb3s (by omega) ?_; intro v6 w6 ho6 hb6 hgr6 hat6; have hF6 := Kd.F_after hF4 hgr6 hat6; clear hgr6 hat6 hCT hF4)
          go_roundw
          case rel =>
            refine ⟨A5, c3 - fn.toNat, rest.drop fn.toNat, _, by rw [List.length_drop], hc5, Kd.F_imp hF6 (fun W' hC => Kd.C_of_reads (h1 := fun _ => rfl) (hA5 _ (Kd.reads_of_C hC))), ho6, hb6, E2, ?_⟩
            rw [List.length_append, HL5.out, List.length_drop]
            omega
          case measure => simp [List.length_drop]; omega
      · have e2 : run (l ++ p) = (out, rest) := by rw [HQ.out, run_open rest hp0 (by rw [hf])]; simp
        have HFIN := Lib.hid e2
        clear e2 hf
        go_wp2_with fail
        refine HFC.mono ?_
        rintro e w3 ⟨rfl, hb3'⟩
        have hF4 := Kd.F_below hF3 hb3'
        have ho3' := Kd.R_below ho3 hb3'
        have hb3s := below_then hb3 hb3.size hb3'
        clear hF3 ho3 HFC
        have hgW := hgB hb3s
        have hE4 := R_empty w3 w3.heap.size (Nat.le_refl _)
        have hB4 := (Below.refl w3.heap.size w3).alloc (Nat.le_refl _) (.cells #[] 5)
        have hC4 := Kd.C_alloc (Kd.F_now hF4) (.cells #[] 5)
        go_wp2_with (at_builtin; refine appB (w0 := w3) rfl (.tmp 42) (.tmp 43) rfl _ _ _ _ _ _ rfl rfl hE4 hC4 hB4 (by simp <;> omega) ?_; intro v4 w4 ho4 hb4 _ _; obtain ⟨A4, c4, e4⟩ := Kd.R_slice ho4; subst e4; have hg4 := blk_below hgW hb4; have hcell4 : w4.cell? ⟨g, 0, none⟩ = some (.slice A0 l.length c0) := blk_cell hg4 0; have hfr4 := blk_frozen hg4 0; clear hE4 hC4 hB4)
        go_ret
        exact feed_end HFIN hg ho3' hb3s ho4 hb4
    · have e1 : rest = [] := List.eq_nil_of_length_eq_zero (by omega)
      subst e1
      have e2 : run (l ++ p) = (out, []) := by rw [HQ.out, run_nil]; simp
      have HFIN := Lib.hid e2
      clear e2
      have hgW := (hgB hb3)
      have hE4 := R_empty wr wr.heap.size (Nat.le_refl _)
      have hB4 := (Below.refl wr.heap.size wr).alloc (Nat.le_refl _) (.cells #[] 5)
      have hC4 := Kd.C_alloc (Kd.F_now hF3) (.cells #[] 5)
      go_wp2_with (at_builtin; refine appB (w0 := wr) rfl (.tmp 42) (.tmp 43) rfl _ _ _ _ _ _ rfl rfl hE4 hC4 hB4 (by simp <;> omega) ?_; intro v4 w4 ho4 hb4 _ _; obtain ⟨A4, c4, e4⟩ := Kd.R_slice ho4; subst e4; have hg4 := blk_below hgW hb4; have hcell4 : w4.cell? ⟨g, 0, none⟩ = some (.slice A0 l.length c0) := blk_cell hg4 0; have hfr4 := blk_frozen hg4 0; clear hE4 hC4 hB4)
      go_ret
      exact feed_end HFIN hg ho3 hb3 ho4 hb4
end Go.Proofs.YtdpnnglfaofjeaaDoor.V
namespace Go.Proofs.YtdpnnglfaofjeaaDoor.V
open Go.RowKit Go.Proofs.YtdpnnglfaofjeaaDoorW.PrintWords Go.Proofs.YtdpnnglfaofjeaaDoorW.PrintLast Go.Proofs.YtdpnnglfaofjeaaDoorW.PrintMore
set_option linter.unusedVariables false
set_option linter.unusedSimpArgs false
set_option maxRecDepth 100000
abbrev OB (w w' : World) (v : Value) (l : List Int) : Prop := Kd.R (Kd.int .u8) 5 w' w.heap.size (fun _ => True) v l
theorem blk_lt' {w : World} {g : Nat} {o : Obj} (h : w.heap[g]? = some o) : g < w.heap.size := (Array.getElem?_eq_some_iff.1 h).1
def RB (B : Nat) (W : World) (v : Value) (l : List Int) : Prop := ∃ A c, v = .slice A l.length c ∧ l.length ≤ c ∧ Kd.F (Kd.int .u8) W (fun k => B ≤ k) A l.length l
theorem RB.nil (B : Nat) (W : World) : RB B W (.slice none 0 0) [] := ⟨none, 0, rfl, Nat.le_refl _, Kd.F_nil _ _ _⟩
theorem RB.of_OB {w w' : World} {v : Value} {l : List Int} (h : OB w w' v l) : RB w.heap.size w' v l := by
  obtain ⟨A, c, rfl, hc, _⟩ := Kd.R_reads h
  exact ⟨A, c, rfl, hc, Kd.F_mono (Kd.R_F (Kd.R_bound h)) (fun k hk => hk.2.1)⟩
theorem RB.step {B : Nat} {W W1 : World} {v : Value} {l : List Int} (h : RB B W v l) (hm : ∀ k, B ≤ k → k < W.heap.size → W1.heap[k]? = W.heap[k]?) : RB B W1 v l := by
  obtain ⟨A, c, hv, hc, hF⟩ := h
  exact ⟨A, c, hv, hc, Kd.F_step hF hm⟩
theorem RB.below {B : Nat} {W W1 : World} {v : Value} {l : List Int} (h : RB B W v l) (hb : Below W.heap.size W W1) : RB B W1 v l := h.step (fun k _ hk => hb.block k hk)
theorem RB.lower {B B' : Nat} {W : World} {v : Value} {l : List Int} (h : RB B W v l) (hB : B' ≤ B) : RB B' W v l := by
  obtain ⟨A, c, hv, hc, hF⟩ := h
  exact ⟨A, c, hv, hc, Kd.F_mono hF (fun k hk => Nat.le_trans hB hk)⟩
theorem RB.reads {B : Nat} {W : World} {v : Value} {l : List Int} (h : RB B W v l) : ∃ A c, v = .slice A l.length c ∧ l.length ≤ c ∧ Kd.C (Kd.int .u8) W A l.length l := by
  obtain ⟨A, c, hv, hc, hF⟩ := h
  exact ⟨A, c, hv, hc, Kd.F_now hF⟩
theorem RB.lit {B g c : Nat} {W : World} {l : List Int} {fr : Nat × Nat} (hg : W.heap[g]? = some (.cells (nums .u8 l).toArray 5 fr)) (hB : B ≤ g) (hl : l.length ≤ 9223372036854775807) (hc : l.length ≤ c) : RB B W (.slice (some ⟨g, 0, none⟩) l.length c) l := by
  refine ⟨_, _, rfl, hc, fun W' hW => ?_⟩
  have hg' := (hW g hB (blk_lt' hg)).trans hg
  refine Kd.C_of_reads (d := 0) (h1 := fun _ => rfl) ⟨rfl, hl, fun hn => ⟨_, rfl, fun j hj => ?_⟩⟩
  rw [add_plain, cell_of_row W' g j _ _ _ hg']
  simp [nums, List.getD_eq_getElem?_getD, hj]
theorem size_set (w : World) (p : Addr) (v : Value) : (w.setCell p v).heap.size = w.heap.size := by simp [World.setCell]
theorem conv_const (w : World) (p : Addr) (v : Value) (C : Array Value) (n c : Nat) :
    (convert 22 22 (.slice (some ⟨w.heap.size, 0, none⟩) n c)).run Tryd.prog ((w.setCell p v).alloc (.cells C 5)) = .ok (.slice (some ⟨w.heap.size, 0, none⟩) n c) ((w.setCell p v).alloc (.cells C 5 (C.size, C.size + 1))) := by
  have h := Lib.run_convert_bytes_const (P := Tryd.prog) (w.setCell p v) 22 5 C n c Tryd.underlying22 Tryd.underlying5
  rwa [size_set] at h
theorem only_alloc {a w : World} {row : Option Nat} (h : a.grownBy w row) (o : Obj) : a.grownBy (w.alloc o) row :=
  ⟨h.os, h.tape, h.output, Nat.le_trans h.size (by simp), fun i hi hne => (Below.heap_alloc w o i (Nat.lt_of_lt_of_le hi h.size)).trans (h.block i hi hne)⟩
theorem new_calls (w : World) :
    Calls Tryd.prog 72 #[] w fun e w' => e = .returned (.pointer (some ⟨w.heap.size, 0, none⟩)) ∧ DecIs w' (fun k => w.heap.size ≤ k) w.heap.size [] ∧ Below w.heap.size w w' := by
  go_enter Tryd.func72, Tryd.ntmps72
  go_wp2
  go_ret
  exact ⟨rfl, ⟨Nat.le_refl _, .slice none 0 0, by simpa using heap_alloc_new w (.cells #[.slice none 0 0] 98), Kd.R_nil _ _ _ _ _⟩, (Below.refl _ _).alloc (Nat.le_refl _) _⟩
def CarryIs (w : World) (l : List Int) (e : Ending) (w' : World) : Prop := ∃ v, e = .returned v ∧ OB w w' v l ∧ Below w.heap.size w w'
theorem carry_calls (F : Nat → Prop) (g : Nat) (l : List Int) (w : World) (hd : DecIs w F g l) (hN : l.length ≤ 1099511627776) :
    Calls Tryd.prog 79 #[.pointer (some ⟨g, 0, none⟩)] w (CarryIs w l) := by
  obtain ⟨hF, v0, hg, hr0⟩ := hd
  obtain ⟨A0, c0, rfl, hc0, hC0⟩ := Kd.R_reads hr0
  have hcell : w.cell? ⟨g, 0, none⟩ = some (.slice A0 l.length c0) := blk_cell hg 0
  go_enter Tryd.func79, Tryd.ntmps79
  go_wp2_with (at_builtin; refine appB (w0 := w) rfl _ (.tmp 8) rfl (.slice none 0 0) [] _ _ _ _ rfl rfl (Kd.R_nil _ _ _ _ _) hC0 (Below.refl _ _) (by simp; omega) ?_; intro v1 w1 ho1 hb1 _ _)
  go_ret
  exact ⟨_, rfl, by simpa using ho1, hb1⟩
def rest3 (l : List Int) : List Int := if 0 < l.length then fffd else []
def FinishIs (w : World) (F : Nat → Prop) (g : Nat) (l : List Int) (e : Ending) (w' : World) : Prop :=
  ∃ v, e = .returned v ∧ RB w.heap.size w' v (rest3 l) ∧ DecIs w' F g [] ∧ w.grownBy w' (some g)
theorem finish_calls (F : Nat → Prop) (g : Nat) (l : List Int) (w : World) (hd : DecIs w F g l) :
    Calls Tryd.prog 76 #[.pointer (some ⟨g, 0, none⟩)] w (FinishIs w F g l) := by
  have hd0 := hd
  obtain ⟨hF, v0, hg, hr0⟩ := hd
  obtain ⟨A0, c0, rfl, hc0, hC0⟩ := Kd.R_reads hr0
  have hcell : w.cell? ⟨g, 0, none⟩ = some (.slice A0 l.length c0) := blk_cell hg 0
  have hfr := blk_frozen hg 0
  by_cases h : 0 < l.length
  · have h1 : ((l.length : Int) == 0) = false := beq_eq_false_iff_ne.2 (by omega)
    have kc := conv_const w
    go_enter Tryd.func76, Tryd.ntmps76
    go_wp2
    go_ret
    have hlt := blk_lt hg
    have hs := blk_set hg 0 (.slice none 0 0)
    have hn := heap_alloc_new (w.setCell ⟨g, 0, none⟩ (.slice none 0 0)) (.cells #[.int .u8 239, .int .u8 191, .int .u8 189] 5 (3, 4))
    rw [size_set] at hn
    refine ⟨_, rfl, ?_, ⟨hF, _, by simpa using blk_alloc hs _, Kd.R_nil _ _ _ _ _⟩, only_alloc (only_setCell (World.grownBy.refl _ _) (.inl rfl) _) _⟩
    rw [show rest3 l = fffd from if_pos h]
    exact RB.lit (l := fffd) (by exact hn) (Nat.le_refl _) (by decide) (Nat.le_refl _)
  · have h0 : l = [] := List.eq_nil_of_length_eq_zero (by omega)
    subst h0
    go_enter Tryd.func76, Tryd.ntmps76
    go_wp2
    go_ret
    exact ⟨.slice none 0 0, rfl, RB.nil _ _, hd0, World.grownBy.refl _ _⟩
def clean (l : List Int) : List Int := (run l).1 ++ rest3 (run l).2
end Go.Proofs.YtdpnnglfaofjeaaDoor.V
namespace Go.Proofs.YtdpnnglfaofjeaaDoor.Y
open Go.RowKit Go.Lib Go.Proofs.YtdpnnglfaofjeaaDoorW.PrintWords Go.Proofs.YtdpnnglfaofjeaaDoorW.PrintLast Go.Proofs.YtdpnnglfaofjeaaDoorW.PrintMore Go.Proofs.YtdpnnglfaofjeaaDoor.PEp
open Go.Proofs.YtdpnnglfaofjeaaDoor.V (RB RB.of_OB RB.lit info5)
set_option linter.unusedVariables false
set_option linter.unusedSimpArgs false
set_option maxRecDepth 100000
def simpleP (b : Int) : Bool := decide (97 ≤ b ∧ b ≤ 122) || decide (65 ≤ b ∧ b ≤ 90) || decide (48 ≤ b ∧ b ≤ 57) || decide (b = 45 ∨ b = 46 ∨ b = 95 ∨ b = 126)
def hexU (d : Nat) : Int := if d < 10 then 48 + d else 55 + d
def queryU (b : Int) : List Int := if simpleP b = true then [b] else [37, hexU (b.toNat / 16), hexU (b.toNat % 16)]
def markP (b : Int) : Bool := [33, 35, 36, 38, 40, 41, 42, 43, 44, 47, 58, 59, 61, 63, 64, 91, 93, 37].contains b
def pathU (b : Int) : List Int := if markP b = true then [b] else queryU b
def htmlU (b : Int) : List Int := if b = 0 then [239, 191, 189] else if b = 38 then [38, 97, 109, 112, 59] else if b = 60 then [38, 108, 116, 59] else if b = 62 then [38, 103, 116, 59] else if b = 34 then [38, 35, 51, 52, 59] else if b = 39 then [38, 35, 51, 57, 59] else [b]
theorem simple_f (b : Int) (hb : 0 ≤ b ∧ b ≤ 255) : percent_simple.f b = some (simpleP b) := by
  obtain ⟨n, rfl⟩ := Int.eq_ofNat_of_zero_le hb.1
  have h : ∀ n : Nat, n < 256 → percent_simple.f (n : Int) = some (simpleP (n : Int)) := by decide +kernel
  exact h n (by omega)
theorem hex16 (d : Nat) (h : d < (⟨#[48, 49, 50, 51, 52, 53, 54, 55, 56, 57, 65, 66, 67, 68, 69, 70]⟩ : ByteArray).size) : ((((⟨#[48, 49, 50, 51, 52, 53, 54, 55, 56, 57, 65, 66, 67, 68, 69, 70]⟩ : ByteArray)[d]'h).toNat : Nat) : Int) = hexU d := by
  have h1 : ∀ i : Fin 16, ((((⟨#[48, 49, 50, 51, 52, 53, 54, 55, 56, 57, 65, 66, 67, 68, 69, 70]⟩ : ByteArray)[i.1]'i.2).toNat : Nat) : Int) = hexU i.1 := by decide +kernel
  exact h1 ⟨d, h⟩
theorem and_15 (n : Nat) (hn : n < 256) : Go.bits .and .u8 (n : Int) 15 = ((n % 16 : Nat) : Int) := by
  revert n
  decide +kernel
def UnitIs (w : World) (l : List Int) (e : Ending) (w' : World) : Prop := ∃ v, e = .returned v ∧ RB w.heap.size w' v l ∧ Below w.heap.size w w'
set_option maxHeartbeats 4000000 in
theorem query_calls (b : Int) (hb : 0 ≤ b ∧ b ≤ 255) (w : World) : Calls Tryd.prog 99 #[.int .u8 b] w (UnitIs w (queryU b)) := by
  have hs := simple_f b hb
  unfold queryU
  cases h : simpleP b with
  | true =>
    rw [h] at hs
    have cS := percent_simple.calls b true w hs
    rw [if_pos rfl]
    go_enter Tryd.func99, Tryd.ntmps99
    go_wp2_with (go_at_call 118; go_loud (refine cS.mono ?_; rintro e w1 ⟨rfl, hd1⟩))
    go_ret
    have hn := heap_alloc_new w1 (.cells #[.int .u8 b] 5)
    exact ⟨_, rfl, RB.lit (l := [b]) hn hd1.below.size (by simp) (Nat.le_refl _), hd1.below.alloc hd1.below.size _⟩
  | false =>
    rw [h] at hs
    have cS := percent_simple.calls b false w hs
    rw [if_neg (by decide)]
    obtain ⟨n, rfl⟩ := Int.eq_ofNat_of_zero_le hb.1
    rw [Int.toNat_natCast]
    obtain ⟨m1, hm1, hl1⟩ : ∃ m1 : Nat, n / 16 = m1 ∧ m1 < 16 := ⟨_, rfl, by omega⟩
    obtain ⟨m2, hm2, hl2⟩ : ∃ m2 : Nat, n % 16 = m2 ∧ m2 < 16 := ⟨_, rfl, by omega⟩
    rw [hm1, hm2]
    have hq1 : (n : Int) / 16 = (m1 : Int) := by omega
    have hq2 : (n : Int) % 16 = (m2 : Int) := by omega
    have hq3 : Go.bits .and .u8 (n : Int) 15 = (m2 : Int) := by rw [and_15 n (by omega), hm2]
    have hd1 := hex16 m1 (show m1 < 16 by omega)
    have hd2 := hex16 m2 (show m2 < 16 by omega)
    generalize hexU m1 = d1 at hd1 ⊢
    generalize hexU m2 = d2 at hd2 ⊢
    clear hm1 hm2 h hs
    go_enter Tryd.func99, Tryd.ntmps99
    go_wp2_with (go_at_call 118; go_loud (refine cS.mono ?_; rintro e w1 ⟨rfl, hdr⟩))
    go_region_with (fail)
    all_goals go_wp2
    all_goals go_ret
    all_goals (
      have hn := heap_alloc_new w1.drew (.cells #[.int .u8 37, .int .u8 d1, .int .u8 d2] 5)
      exact ⟨_, rfl, RB.lit (l := [37, d1, d2]) hn hdr.below.size (by simp) (Nat.le_refl _), (below_drew hdr.below).alloc hdr.below.size _⟩)
def plainS : ByteArray := ⟨#[97, 98, 99, 100, 101, 102, 103, 104, 105, 106, 107, 108, 109, 110, 111, 112, 113, 114, 115, 116, 117, 118, 119, 120, 121, 122, 65, 66, 67, 68, 69, 70, 71, 72, 73, 74, 75, 76, 77, 78, 79, 80, 81, 82, 83, 84, 85, 86, 87, 88, 89, 90, 48, 49, 50, 51, 52, 53, 54, 55, 56, 57, 45, 46, 95, 126]⟩
theorem among_plain (b : Int) (hb : 0 ≤ b ∧ b ≤ 255) : bobbinref04_among.f 70 b plainS = some (simpleP b) := by
  obtain ⟨n, rfl⟩ := Int.eq_ofNat_of_zero_le hb.1
  have h : ∀ n : Nat, n < 256 → bobbinref04_among.f 70 (n : Int) plainS = some (simpleP (n : Int)) := by decide +kernel
  exact h n (by omega)
theorem lit_str (W : World) (l : List Int) (C : Array Value) (hC : C = (nums .u8 l).toArray) (n : Nat) (hn : n = l.length) (hl : l.length ≤ 9223372036854775807) :
    (convert 22 9 (.slice (some ⟨W.heap.size, 0, none⟩) n n)).run Tryd.prog (W.alloc (.cells C 5)) = .ok (.string (strOfNums l)) (W.alloc (.cells C 5)) := by
  subst hC
  subst hn
  obtain ⟨A, c, he, hc, hF⟩ := RB.lit (B := 0) (c := l.length) (heap_alloc_new W (.cells (nums .u8 l).toArray 5)) (Nat.zero_le _) hl (Nat.le_refl _)
  injection he with h1 h2 h3
  subst h1
  subst h3
  exact Kd.C_string (P := Tryd.prog) Tryd.underlying22 Tryd.underlying5 Tryd.underlying9 (Kd.F_now hF)
set_option maxHeartbeats 4000000 in
theorem ref_query_calls (b : Int) (hb : 0 ≤ b ∧ b ≤ 255) (w : World) : Calls Tryd.prog 121 #[.int .u8 b] w fun e w' => e = .returned (.string (strOfNums (queryU b))) ∧ Below w.heap.size w w' := by
  have hs := among_plain b hb
  unfold queryU
  cases h : simpleP b with
  | true =>
    rw [h] at hs
    have cS := bobbinref04_among.calls 70 b plainS true w hs
    rw [if_pos rfl]
    have hstr := fun W : World => lit_str W [b] #[.int .u8 b] rfl 1 rfl (by simp)
    go_enter Tryd.func121, Tryd.ntmps121
    go_wp2_with (go_at_call 132; go_loud (refine cS.mono ?_; rintro e w1 ⟨rfl, hdr⟩; have hst := hstr w1))
    go_ret
    exact ⟨rfl, hdr.below.alloc hdr.below.size _⟩
  | false =>
    rw [h] at hs
    have cS := bobbinref04_among.calls 70 b plainS false w hs
    rw [if_neg (by decide)]
    obtain ⟨n, rfl⟩ := Int.eq_ofNat_of_zero_le hb.1
    rw [Int.toNat_natCast]
    obtain ⟨m1, hm1, hl1⟩ : ∃ m1 : Nat, n / 16 = m1 ∧ m1 < 16 := ⟨_, rfl, by omega⟩
    obtain ⟨m2, hm2, hl2⟩ : ∃ m2 : Nat, n % 16 = m2 ∧ m2 < 16 := ⟨_, rfl, by omega⟩
    rw [hm1, hm2]
    have hq0 : (n : Int).tdiv 16 = (m1 : Int) := by rw [Int.tdiv_eq_ediv_of_nonneg (by omega)]; omega
    have hq1 : IntKind.u8.wrap ((n : Int).tdiv 16) = (m1 : Int) := by rw [hq0, IntKind.wrap_u8]; omega
    have hq1' : IntKind.u8.wrap (m1 : Int) = (m1 : Int) := by rw [IntKind.wrap_u8]; omega
    have hq1'' : (n : Int) / 16 = (m1 : Int) := by omega
    have hq2 : (n : Int).tmod 16 = (m2 : Int) := by rw [Int.tmod_eq_emod_of_nonneg (by omega)]; omega
    have hq2' : IntKind.u8.wrap ((n : Int).tmod 16) = (m2 : Int) := by rw [hq2, IntKind.wrap_u8]; omega
    have hq2'' : (n : Int) % 16 = (m2 : Int) := by omega
    have hd1 := hex16 m1 (show m1 < 16 by omega)
    have hd2 := hex16 m2 (show m2 < 16 by omega)
    generalize hexU m1 = d1 at hd1 ⊢
    generalize hexU m2 = d2 at hd2 ⊢
    have HSTR := Lib.hid (fun W : World => lit_str W [37, d1, d2] #[.int .u8 37, .int .u8 d1, .int .u8 d2] rfl 3 rfl (by simp))
    clear hm1 hm2 h hs
    go_enter Tryd.func121, Tryd.ntmps121
    go_wp2_with (go_at_call 132; go_loud (refine cS.mono ?_; rintro e w1 ⟨rfl, hdr⟩; have hst := HSTR.out w1.drew; have hst2 : (convert 22 9 (.slice (some ⟨w1.heap.size, 0, none⟩) 3 3)).run Tryd.prog (w1.alloc (.cells #[.int .u8 37, .int .u8 d1, .int .u8 d2] 5)).drew = .ok (.string (strOfNums [37, d1, d2])) (w1.alloc (.cells #[.int .u8 37, .int .u8 d1, .int .u8 d2] 5)).drew := hst))
    go_region_with (fail)
    all_goals go_wp2
    all_goals go_ret
    all_goals exact ⟨rfl, (hdr.below.alloc hdr.below.size _).drew⟩
end Go.Proofs.YtdpnnglfaofjeaaDoor.Y
namespace Go.Proofs.YtdpnnglfaofjeaaDoor.PEq
open Go.RowKit Go.Proofs.YtdpnnglfaofjeaaDoorW.PrintWords Go.Proofs.YtdpnnglfaofjeaaDoorW.PrintLast Go.Proofs.YtdpnnglfaofjeaaDoorW.PrintMore
attribute [local go_sem] max2_int min2_int max_two min_two max_three min_three max_four min_four   -- for this text's walks alone
open PEp
set_option linter.unusedVariables false
set_option linter.unusedSimpArgs false
def errW : Option Int → Value
  | none => .nilIface
  | some c => .iface 0 (.int .i64 c)
theorem errW_none : errW none = .nilIface := rfl
theorem errW_some (c : Int) : errW (some c) = .iface 0 (.int .i64 c) := rfl
theorem info5 : (Tryd.prog.info? 5).map (fun i => (i.zero, i.size, i.bytes)) = some (some (.int .u8 0), 1, 1) := by kernel_rfl
end Go.Proofs.YtdpnnglfaofjeaaDoor.PEq
namespace Go.Proofs.YtdpnnglfaofjeaaDoor.PEq
open Go.RowKit Go.Proofs.YtdpnnglfaofjeaaDoorW.PrintWords Go.Proofs.YtdpnnglfaofjeaaDoorW.PrintLast Go.Proofs.YtdpnnglfaofjeaaDoorW.PrintMore
attribute [local go_sem] max2_int min2_int max_two min_two max_three min_three max_four min_four   -- for this text's walks alone
open PEp
set_option linter.unusedVariables false
set_option linter.unusedSimpArgs false
def percent_QueryUnit.f (a0 : Int) : Option (List Int) := if 0 ≤ a0 ∧ a0 ≤ 255 then some (Y.queryU a0) else none
theorem percent_QueryUnit.calls (a0 : Int) (r : List Int) (w : World) (h : percent_QueryUnit.f a0 = some r) :
    Calls Tryd.prog 99 #[.int .u8 a0] w fun e w' => ∃ v0_ : Value, e = .returned (v0_) ∧ Kd.V (Kd.int .u8) 5 w' w.heap.size (fun k_ => (w.heap.size ≤ k_)) v0_ r ∧ Below w.heap.size w w' := by
  unfold percent_QueryUnit.f at h
  split at h
  · rename_i hh; injection h with h; subst h; exact Y.query_calls a0 hh w
  · cases h
def percent_PathUnit.f (a0 : Int) : Option (List Int) := if a0 = 0 then ((percent_QueryUnit.f a0).bind fun t101 => (some t101)) else ((strings_IndexByte.f (⟨#[33, 35, 36, 38, 40, 41, 42, 43, 44, 47, 58, 59, 61, 63, 64, 91, 93, 37]⟩ : ByteArray) a0).bind fun t104 => (if t104 ≥ 0 then (some (([a0] : List Int))) else ((percent_QueryUnit.f a0).bind fun t108 => (some t108))))
set_option maxHeartbeats 8000000 in
set_option maxRecDepth 100000 in
theorem percent_PathUnit.calls (a0 : Int) (r : List Int) (w : World) (h : percent_PathUnit.f a0 = some r) :
    Calls Tryd.prog 98 #[.int .u8 a0] w fun e w' => ∃ v0_ : Value, e = .returned (v0_) ∧ Kd.V (Kd.int .u8) 5 w' w.heap.size (fun k_ => (w.heap.size ≤ k_)) v0_ r ∧ Below w.heap.size w w' := by
  have HB := Aside0.mk (Below.refl w.heap.size w)
  have H : (if a0 = 0 then ((percent_QueryUnit.f a0).bind fun t101 => (some t101)) else ((strings_IndexByte.f (⟨#[33, 35, 36, 38, 40, 41, 42, 43, 44, 47, 58, 59, 61, 63, 64, 91, 93, 37]⟩ : ByteArray) a0).bind fun t104 => (if t104 ≥ 0 then (some (([a0] : List Int))) else ((percent_QueryUnit.f a0).bind fun t108 => (some t108))))) = some r := h
  clear h
  by_cases c2 : a0 = 0
  · rw [if_pos c2] at H
    have c2b0 : (a0 == 0) = true := beq_iff_eq.mpr c2
    have c2b1 : (a0 != 0) = false := bne_eq_false_iff_eq.mpr c2
    clear c2
    replace H := Option.bind_eq_some_iff.mp H
    obtain ⟨t101, A30, H⟩ := H
    replace H : (some t101) = some r := H
    have A3 := Aside0.mk A30
    clear A30
    obtain rfl := Option.some.inj H
    go_enter Tryd.func98, Tryd.ntmps98
    go_wp2_with (first | ((with_reducible refine gate_callee (f := 99) rfl ?_); refine goesL_ (some 13) rfl rfl Tryd.func99 (by kernel_rfl) rfl #[.int .u8 a0] rfl (by (try simp only [List.map_toArray, List.map_cons, List.map_nil]); first | done | rfl | (simp only [List.length_drop, List.length_take]; rfl)) ?_; (with_reducible refine (percent_QueryUnit.calls a0 t101 _ A3.out).mono ?_); rintro e w4 ⟨v102, rfl, ho0, hb⟩; refine ⟨_, rfl, ?_⟩; have n0_ := Aside0.mk (Kd.V_lower (Kd.V_mono (ok' := fun k_ => (w.heap.size ≤ k_)) ho0 (fun k_ hk_ => (Nat.le_trans (below_size (by repeat (first | (with_reducible first | exact HB.out | apply below_alloc | apply pw_below_drewN | apply below_drew1) | exact HB.out))) hk_))) (below_size (by repeat (first | (with_reducible first | exact HB.out | apply below_alloc | apply pw_below_drewN | apply below_drew1) | exact HB.out)))); have n1_ := Aside0.mk (below_step (by repeat (first | (with_reducible first | exact HB.out | apply below_alloc | apply pw_below_drewN | apply below_drew1) | exact HB.out)) hb); clear HB; have HO103 := n0_; have HB := n1_; clear n0_ n1_; (try clear hb); (try clear hb2); (try clear hk); (try clear hi); (try clear ho0)))
    go_ret
    exact ⟨_, by first | rfl | (simp [errW_none, errW_some] <;> rfl) | (simp [*, errW_none, errW_some] <;> rfl), by (with_reducible repeat (first | apply Kd.V_alloc | apply Kd.V_drewN | apply Kd.V_drew)); exact HO103.out, by repeat (first | (with_reducible first | exact HB.out | apply below_alloc | apply pw_below_drewN | apply below_drew1) | exact HB.out)⟩
  · rw [if_neg c2] at H
    have c2b0 : (a0 == 0) = false := beq_eq_false_iff_ne.mpr c2
    have c2b1 : (a0 != 0) = true := bne_iff_ne.mpr c2
    replace H := Option.bind_eq_some_iff.mp H
    obtain ⟨t104, A50, H⟩ := H
    replace H : (if t104 ≥ 0 then (some (([a0] : List Int))) else ((percent_QueryUnit.f a0).bind fun t108 => (some t108))) = some r := H
    have A5 := Aside0.mk A50
    clear A50
    by_cases c6 : t104 ≥ 0
    · rw [if_pos c6] at H
      have c6b0 : decide (0 ≤ t104) = true := decide_eq_true c6
      clear c6
      obtain ⟨y105, hy105⟩ : ∃ y_ : List Int, y_ = (([a0] : List Int)) := ⟨_, rfl⟩
      replace H : (some y105) = some r := by first | (rw [hy105]; with_reducible exact H) | (have H2_ := (Option.bind_some _ _).symm.trans H; rw [hy105]; with_reducible exact H2_) | (have H2_ := (Option.bind_some _ _).symm.trans H; with_reducible exact H2_) | with_reducible exact H | (rw [hy105]; exact H) | exact H
      have Ny105 := Aside0.mk hy105
      clear hy105
      obtain rfl := Option.some.inj H
      go_enter Tryd.func98, Tryd.ntmps98
      go_wp2_with (first | (go_at_call 117; (with_reducible refine (strings_IndexByte.calls (⟨#[33, 35, 36, 38, 40, 41, 42, 43, 44, 47, 58, 59, 61, 63, 64, 91, 93, 37]⟩ : ByteArray) a0 t104 _ A5.out).mono ?_); rintro e w' ⟨rfl, ⟨nd, rfl⟩⟩) | ((with_reducible refine gate_dst (N := 11) rfl ?_); refine Kd.R_lit (Kd.int .u8) _ 5 ?hg (N := 11) ?hd (xs := ([a0] : List Int)) (inner := [.int .u8 a0]) (ok := fun _ => True) (okp := fun _ => True) ?hr ?hp (fun _ hk => hk) trivial (Below.refl _ _) (Nat.le_refl _) (by simp) ?_; (case hd => rfl); (case hg => rfl); (case hr => first | (go_simp; done) | (go_simp; rfl)); (case hp => exact (Reps.one (show Kd.M (Kd.int .u8) _ _ _ a0 [.int .u8 a0] from rfl) (Reps.none _ _))); intro v106 w7 ho8 hb hg_ hnew_; clear hg_ hnew_; (first | rw [← Ny105.out] at ho8 | (simp only [Int.reduceToNat] at ho8; rw [← Ny105.out] at ho8)); have n0_ := Aside0.mk (Kd.R_lower (Kd.R_newM (M := fun k_ => (w.heap.size ≤ k_)) ho8 (below_size (by repeat (first | (with_reducible first | exact HB.out | apply below_alloc | apply pw_below_drewN | apply below_drew1) | exact HB.out))) (fun k_ h_ => h_)) (below_size (by repeat (first | (with_reducible first | exact HB.out | apply below_alloc | apply pw_below_drewN | apply below_drew1) | exact HB.out)))); have n1_ := Aside0.mk (below_step (by repeat (first | (with_reducible first | exact HB.out | apply below_alloc | apply pw_below_drewN | apply below_drew1) | exact HB.out)) hb); clear HB; have HO107 := n0_; have HB := n1_; clear n0_ n1_; clear hb ho8))
      go_ret
      exact ⟨_, by first | rfl | (simp [errW_none, errW_some] <;> rfl) | (simp [*, errW_none, errW_some] <;> rfl), Kd.R_V (by (with_reducible repeat (first | apply Kd.R_alloc | apply Kd.R_drewN | apply Kd.R_drew)); exact Kd.R_mono HO107.out (fun _ hk => hk.1)), by repeat (first | (with_reducible first | exact HB.out | apply below_alloc | apply pw_below_drewN | apply below_drew1) | exact HB.out)⟩
    · rw [if_neg c6] at H
      have c6b0 : decide (0 ≤ t104) = false := decide_eq_false c6
      clear c6
      replace H := Option.bind_eq_some_iff.mp H
      obtain ⟨t108, A90, H⟩ := H
      replace H : (some t108) = some r := H
      have A9 := Aside0.mk A90
      clear A90
      obtain rfl := Option.some.inj H
      go_enter Tryd.func98, Tryd.ntmps98
      go_wp2_with (first | (go_at_call 117; (with_reducible refine (strings_IndexByte.calls (⟨#[33, 35, 36, 38, 40, 41, 42, 43, 44, 47, 58, 59, 61, 63, 64, 91, 93, 37]⟩ : ByteArray) a0 t104 _ A5.out).mono ?_); rintro e w' ⟨rfl, ⟨nd, rfl⟩⟩) | ((with_reducible refine gate_callee (f := 99) rfl ?_); refine goesL_ (some 13) rfl rfl Tryd.func99 (by kernel_rfl) rfl #[.int .u8 a0] rfl (by (try simp only [List.map_toArray, List.map_cons, List.map_nil]); first | done | rfl | (simp only [List.length_drop, List.length_take]; rfl)) ?_; (with_reducible refine (percent_QueryUnit.calls a0 t108 _ A9.out).mono ?_); rintro e w10 ⟨v109, rfl, ho0, hb⟩; refine ⟨_, rfl, ?_⟩; have n0_ := Aside0.mk (Kd.V_lower (Kd.V_mono (ok' := fun k_ => (w.heap.size ≤ k_)) ho0 (fun k_ hk_ => (Nat.le_trans (below_size (by repeat (first | (with_reducible first | exact HB.out | apply below_alloc | apply pw_below_drewN | apply below_drew1) | exact HB.out))) hk_))) (below_size (by repeat (first | (with_reducible first | exact HB.out | apply below_alloc | apply pw_below_drewN | apply below_drew1) | exact HB.out)))); have n1_ := Aside0.mk (below_step (by repeat (first | (with_reducible first | exact HB.out | apply below_alloc | apply pw_below_drewN | apply below_drew1) | exact HB.out)) hb); clear HB; have HO110 := n0_; have HB := n1_; clear n0_ n1_; (try clear hb); (try clear hb2); (try clear hk); (try clear hi); (try clear ho0)))
      go_ret
      exact ⟨_, by first | rfl | (simp [errW_none, errW_some] <;> rfl) | (simp [*, errW_none, errW_some] <;> rfl), by (with_reducible repeat (first | apply Kd.V_alloc | apply Kd.V_drewN | apply Kd.V_drew)); exact HO110.out, by repeat (first | (with_reducible first | exact HB.out | apply below_alloc | apply pw_below_drewN | apply below_drew1) | exact HB.out)⟩
def bobbinref04_Query.f (a0 : Int) : Option (ByteArray) := if 0 ≤ a0 ∧ a0 ≤ 255 then some (strOfNums (Y.queryU a0)) else none
theorem bobbinref04_Query.calls (a0 : Int) (r : ByteArray) (w : World) (h : bobbinref04_Query.f a0 = some r) :
    Calls Tryd.prog 121 #[.int .u8 a0] w fun e w' => e = .returned (.string r) ∧ Below w.heap.size w w' := by
  unfold bobbinref04_Query.f at h
  split at h
  · rename_i hh; injection h with h; subst h; exact Y.ref_query_calls a0 hh w
  · cases h
def bobbinref04_among.l0 : Nat → Int → ByteArray → Int → Option (Bool)
  | 0, _, _, _ => none
  | k + 1, x0, x1, x5 => if x5 < (x1.size : Int) then (if 0 ≤ x5 then (if (bt x1 x5) = x0 then (some true) else (bobbinref04_among.l0 k x0 x1 (wrap64 (x5 + 1)))) else (none)) else (some false)
def bobbinref04_among.f (k : Nat) (a0 : Int) (a1 : ByteArray) : Option (Bool) := bobbinref04_among.l0 k a0 a1 0
theorem bobbinref04_among.mono_l : ∀ k, (∀ y0 y1 y2, LeO (bobbinref04_among.l0 k y0 y1 y2) (bobbinref04_among.l0 (k + 1) y0 y1 y2))
  | 0 => fun _ _ _ r h => by simp [bobbinref04_among.l0] at h
  | k + 1 => by
    have ih0 := bobbinref04_among.mono_l k
    · intro y0 y1 y2
      unfold bobbinref04_among.l0
      repeat' first
      | (with_reducible exact ih0 _ _ _)
      | (with_reducible exact LeO.refl _)
      | (with_reducible exact LeO.none _)
      | (with_reducible refine LeO.ite ?_ ?_)
      | (with_reducible refine LeO.bind ?_ (fun _ => ?_))
      | exact ih0 _ _ _
      | exact LeO.none _
      | refine LeO.ite ?_ ?_
      | refine LeO.bind ?_ (fun _ => ?_)
theorem bobbinref04_among.mono : ∀ a0 a1 k, LeO (bobbinref04_among.f k a0 a1) (bobbinref04_among.f (k + 1) a0 a1) := by
  intro a0 a1 k
  have ih0 := bobbinref04_among.mono_l k
  unfold bobbinref04_among.f
  repeat' first
      | (with_reducible exact ih0 _ _ _)
      | (with_reducible exact LeO.refl _)
      | (with_reducible exact LeO.none _)
      | (with_reducible refine LeO.ite ?_ ?_)
      | (with_reducible refine LeO.bind ?_ (fun _ => ?_))
      | exact ih0 _ _ _
      | exact LeO.none _
      | refine LeO.ite ?_ ?_
      | refine LeO.bind ?_ (fun _ => ?_)
set_option maxHeartbeats 8000000 in
set_option maxRecDepth 100000 in
theorem bobbinref04_among.calls (k : Nat) (a0 : Int) (a1 : ByteArray) (r : Bool) (w : World) (h : bobbinref04_among.f k a0 a1 = some r) :
    Calls Tryd.prog 132 #[.int .u8 a0, .string a1] w fun e w' => e = .returned (.bool r) ∧ Drawn0 w w' := by
  have H : (bobbinref04_among.l0 k a0 a1 0) = some r := h
  clear h
  have H' := Aside0.mk H
  clear H
  go_enter Tryd.func132, Tryd.ntmps132
  go_wp2
  go_loopg [5] k (fun kq v5 w' => ∃ (x5_1 : Int), v5 = .int .i64 x5_1 ∧ Aside0 (bobbinref04_among.l0 kq a0 a1 x5_1 = some r) ∧ Aside0 (kq ≤ k) ∧ Drawn0 w w')
  case atStart => exact ⟨(0), (by first | rfl | (simp; done) | (simp [*]; done)), H', ⟨Nat.le_refl _⟩, by repeat (first | exact Drawn0.refl _ | apply Drawn0.step)⟩
  case round =>
    clear H'
    try clear c1
    try clear p2
    obtain ⟨x5_1, rfl, HA, HK1, ⟨m1, rfl⟩⟩ := hrel
    cases gk with
    | zero => exact absurd HA.out (by simp [bobbinref04_among.l0])
    | succ k1 =>
      have H := HA.out
      clear HA
      simp only [bobbinref04_among.l0] at H
      by_cases c3 : x5_1 < (a1.size : Int)
      · rw [if_pos c3] at H
        have c3b0 : decide (x5_1 < (a1.size : Int)) = true := decide_eq_true c3
        clear c3
        by_cases c4 : 0 ≤ x5_1
        · rw [if_pos c4] at H
          have c4b0 : decide (0 ≤ x5_1) = true := decide_eq_true c4
          clear c4
          by_cases c6 : (bt a1 x5_1) = a0
          · rw [if_pos c6] at H
            have c6b0 : ((bt a1 x5_1) == a0) = true := beq_iff_eq.mpr c6
            have c6b1 : ((bt a1 x5_1) != a0) = false := bne_eq_false_iff_eq.mpr c6
            clear c6
            obtain rfl := Option.some.inj H
            have p5 : 0 ≤ (x5_1 : Int) := of_decide_eq_true (by first | (with_reducible assumption) | assumption)
            have q5 : x5_1 < (a1.size : Int) := of_decide_eq_true (by first | (with_reducible assumption) | assumption)
            have hx5 := bt_at a1 x5_1
            replace p5 := eq_true p5
            replace q5 := eq_true q5
            go_wp2
            go_ret
            exact ⟨by first | rfl | (simp; done) | (simp [*]; done), by repeat (first | exact Drawn0.refl _ | apply Drawn0.step)⟩
          · rw [if_neg c6] at H
            have c6b0 : ((bt a1 x5_1) == a0) = false := beq_eq_false_iff_ne.mpr c6
            have c6b1 : ((bt a1 x5_1) != a0) = true := bne_iff_ne.mpr c6
            have H' := Aside0.mk H
            clear H
            have p5 : 0 ≤ (x5_1 : Int) := of_decide_eq_true (by first | (with_reducible assumption) | assumption)
            have q5 : x5_1 < (a1.size : Int) := of_decide_eq_true (by first | (with_reducible assumption) | assumption)
            have hx5 := bt_at a1 x5_1
            replace p5 := eq_true p5
            replace q5 := eq_true q5
            go_wp2
            go_roundg k1
            case measure => have := HK1.out; omega
            case rel => exact ⟨(wrap64 (x5_1 + 1)), (by first | rfl | (simp; done) | (simp [*]; done)), H', ⟨by have := HK1.out; omega⟩, by repeat (first | exact Drawn0.refl _ | apply Drawn0.step)⟩
        · rw [if_neg c4] at H
          exact absurd H (by simp)
      · rw [if_neg c3] at H
        have c3b0 : decide (x5_1 < (a1.size : Int)) = false := decide_eq_false c3
        clear c3
        obtain rfl := Option.some.inj H
        go_wp2
        go_ret
        exact ⟨by first | rfl | (simp; done) | (simp [*]; done), by repeat (first | exact Drawn0.refl _ | apply Drawn0.step)⟩
def bobbinref04_Path.f (k : Nat) (a0 : Int) : Option (ByteArray) := (bobbinref04_among.f k a0 (⟨#[33, 35, 36, 38, 40, 41, 42, 43, 44, 47, 58, 59, 61, 63, 64, 91, 93, 37]⟩ : ByteArray)).bind fun t111 => (if t111 = true then (some (strOfNums (([a0] : List Int)))) else ((bobbinref04_Query.f a0).bind fun t115 => (some t115)))
theorem bobbinref04_Path.mono : ∀ a0 k, LeO (bobbinref04_Path.f k a0) (bobbinref04_Path.f (k + 1) a0) := by
  intro a0 k
  unfold bobbinref04_Path.f
  repeat' first
      | (with_reducible exact bobbinref04_among.mono _ _ _)
      | (with_reducible exact LeO.refl _)
      | (with_reducible exact LeO.none _)
      | (with_reducible refine LeO.ite ?_ ?_)
      | (with_reducible refine LeO.bind ?_ (fun _ => ?_))
      | exact bobbinref04_among.mono _ _ _
      | exact LeO.none _
      | refine LeO.ite ?_ ?_
      | refine LeO.bind ?_ (fun _ => ?_)
set_option maxHeartbeats 8000000 in
set_option maxRecDepth 100000 in
theorem bobbinref04_Path.calls (k : Nat) (a0 : Int) (r : ByteArray) (w : World) (h : bobbinref04_Path.f k a0 = some r) :
    Calls Tryd.prog 120 #[.int .u8 a0] w fun e w' => e = .returned (.string r) ∧ Below w.heap.size w w' := by
  have HB := Aside0.mk (Below.refl w.heap.size w)
  have H : ((bobbinref04_among.f k a0 (⟨#[33, 35, 36, 38, 40, 41, 42, 43, 44, 47, 58, 59, 61, 63, 64, 91, 93, 37]⟩ : ByteArray)).bind fun t111 => (if t111 = true then (some (strOfNums (([a0] : List Int)))) else ((bobbinref04_Query.f a0).bind fun t115 => (some t115)))) = some r := h
  clear h
  replace H := Option.bind_eq_some_iff.mp H
  obtain ⟨t111, A20, H⟩ := H
  replace H : (if t111 = true then (some (strOfNums (([a0] : List Int)))) else ((bobbinref04_Query.f a0).bind fun t115 => (some t115))) = some r := H
  have A2 := Aside0.mk A20
  clear A20
  by_cases c3 : t111 = true
  · subst c3
    have H1 : (some (strOfNums (([a0] : List Int)))) = some r := by rw [if_pos rfl] at H; exact H
    clear H
    have H := H1
    clear H1
    obtain ⟨y112, hy112⟩ : ∃ y_ : List Int, y_ = (([a0] : List Int)) := ⟨_, rfl⟩
    replace H : (some (strOfNums y112)) = some r := by first | (rw [hy112]; with_reducible exact H) | (have H2_ := (Option.bind_some _ _).symm.trans H; rw [hy112]; with_reducible exact H2_) | (have H2_ := (Option.bind_some _ _).symm.trans H; with_reducible exact H2_) | with_reducible exact H | (rw [hy112]; exact H) | exact H
    have Ny112 := Aside0.mk hy112
    clear hy112
    obtain rfl := Option.some.inj H
    go_enter Tryd.func120, Tryd.ntmps120
    go_wp2_with (first | ((with_reducible refine gate_callee (f := 132) rfl ?_); refine goesL_ (some 4) rfl rfl Tryd.func132 (by kernel_rfl) rfl #[.int .u8 a0, .string (⟨#[33, 35, 36, 38, 40, 41, 42, 43, 44, 47, 58, 59, 61, 63, 64, 91, 93, 37]⟩ : ByteArray)] rfl (by (try simp only [List.map_toArray, List.map_cons, List.map_nil]); first | done | rfl | (simp only [List.length_drop, List.length_take]; rfl)) ?_; (with_reducible refine (bobbinref04_among.calls k a0 (⟨#[33, 35, 36, 38, 40, 41, 42, 43, 44, 47, 58, 59, 61, 63, 64, 91, 93, 37]⟩ : ByteArray) true _ A2.out).mono ?_); rintro e w' ⟨rfl, ⟨nd, rfl⟩⟩; refine ⟨_, rfl, ?_⟩) | ((with_reducible refine gate_dst (N := 6) rfl ?_); refine Kd.R_lit (Kd.int .u8) _ 5 ?hg (N := 6) ?hd (xs := ([a0] : List Int)) (inner := [.int .u8 a0]) (ok := fun _ => True) (okp := fun _ => True) ?hr ?hp (fun _ hk => hk) trivial (Below.refl _ _) (Nat.le_refl _) (by simp) ?_; (case hd => rfl); (case hg => rfl); (case hr => first | (go_simp; done) | (go_simp; rfl)); (case hp => exact (Reps.one (show Kd.M (Kd.int .u8) _ _ _ a0 [.int .u8 a0] from rfl) (Reps.none _ _))); intro v113 w4 ho5 hb hg_ hnew_; clear hg_ hnew_; (first | rw [← Ny112.out] at ho5 | (simp only [Int.reduceToNat] at ho5; rw [← Ny112.out] at ho5)); have n0_ := Aside0.mk (Kd.R_lower ho5 (below_size (by repeat (first | (with_reducible first | exact HB.out | apply below_alloc | apply pw_below_drewN | apply below_drew1) | exact HB.out)))); have n1_ := Aside0.mk (below_step (by repeat (first | (with_reducible first | exact HB.out | apply below_alloc | apply pw_below_drewN | apply below_drew1) | exact HB.out)) hb); clear HB; have HO114 := n0_; have HB := n1_; clear n0_ n1_; clear hb ho5; have hcv6 := own_string (P := Tryd.prog) Tryd.underlying22 Tryd.underlying5 Tryd.underlying9 (Kd.own_of_R HO114.out)))
    go_ret
    exact ⟨by first | rfl | (simp [errW_none, errW_some] <;> rfl) | (simp [*, errW_none, errW_some] <;> rfl), by repeat (first | (with_reducible first | exact HB.out | apply below_alloc | apply pw_below_drewN | apply below_drew1) | exact HB.out)⟩
  · replace c3 := Bool.eq_false_iff.mpr c3
    subst c3
    have H1 : ((bobbinref04_Query.f a0).bind fun t115 => (some t115)) = some r := by rw [if_neg (show ¬ (false = true) by decide)] at H; exact H
    clear H
    have H := H1
    clear H1
    replace H := Option.bind_eq_some_iff.mp H
    obtain ⟨t115, A70, H⟩ := H
    replace H : (some t115) = some r := H
    have A7 := Aside0.mk A70
    clear A70
    obtain rfl := Option.some.inj H
    go_enter Tryd.func120, Tryd.ntmps120
    go_wp2_with (first | ((with_reducible refine gate_callee (f := 132) rfl ?_); refine goesL_ (some 4) rfl rfl Tryd.func132 (by kernel_rfl) rfl #[.int .u8 a0, .string (⟨#[33, 35, 36, 38, 40, 41, 42, 43, 44, 47, 58, 59, 61, 63, 64, 91, 93, 37]⟩ : ByteArray)] rfl (by (try simp only [List.map_toArray, List.map_cons, List.map_nil]); first | done | rfl | (simp only [List.length_drop, List.length_take]; rfl)) ?_; (with_reducible refine (bobbinref04_among.calls k a0 (⟨#[33, 35, 36, 38, 40, 41, 42, 43, 44, 47, 58, 59, 61, 63, 64, 91, 93, 37]⟩ : ByteArray) false _ A2.out).mono ?_); rintro e w' ⟨rfl, ⟨nd, rfl⟩⟩; refine ⟨_, rfl, ?_⟩) | ((with_reducible refine gate_callee (f := 121) rfl ?_); refine goesL_ (some 9) rfl rfl Tryd.func121 (by kernel_rfl) rfl #[.int .u8 a0] rfl (by (try simp only [List.map_toArray, List.map_cons, List.map_nil]); first | done | rfl | (simp only [List.length_drop, List.length_take]; rfl)) ?_; (with_reducible refine (bobbinref04_Query.calls a0 t115 _ A7.out).mono ?_); rintro e w8 ⟨rfl, hb⟩; refine ⟨_, rfl, ?_⟩; have n0_ := Aside0.mk (below_step (by repeat (first | (with_reducible first | exact HB.out | apply below_alloc | apply pw_below_drewN | apply below_drew1) | exact HB.out)) hb); clear HB; have HB := n0_; clear n0_; (try clear hb); (try clear hb2); (try clear hk); (try clear hi)))
    go_ret
    exact ⟨by first | rfl | (simp [errW_none, errW_some] <;> rfl) | (simp [*, errW_none, errW_some] <;> rfl), by repeat (first | (with_reducible first | exact HB.out | apply below_alloc | apply pw_below_drewN | apply below_drew1) | exact HB.out)⟩
def bobbinref04_Paths.l0 : Nat → List Int → List Int → Int → Option (ByteArray)
  | 0, _, _, _ => none
  | k + 1, x0, x3, x4 => if x4 < (x0.length : Int) then (if 0 ≤ x4 then ((bobbinref04_Path.f k (rd x0 x4)).bind fun t117 => (if x3.length + t117.size < 140737488355328 then (bobbinref04_Paths.l0 k x0 (x3 ++ bytesOf t117) (wrap64 (x4 + 1))) else (none))) else (none)) else (some (strOfNums x3))
def bobbinref04_Paths.f (k : Nat) (l0 : List Int) : Option (ByteArray) := bobbinref04_Paths.l0 k l0 ([] : List Int) 0
set_option maxHeartbeats 8000000 in
set_option maxRecDepth 100000 in
theorem bobbinref04_Paths.calls (k : Nat) (A0 : Option Addr) (c0 : Nat) (l0 : List Int) (r : ByteArray) (w : World) (hr0 : Kd.C (Kd.int .u8) w A0 l0.length l0) (hc0 : l0.length ≤ c0) (h : bobbinref04_Paths.f k l0 = some r) :
    Calls Tryd.prog 102 #[.slice A0 l0.length c0] w fun e w' => e = .returned (.string r) ∧ Below w.heap.size w w' := by
  have HR0 := Aside0.mk hr0
  have HC0 := Aside0.mk hc0
  clear hr0 hc0
  have HB := Aside0.mk (Below.refl w.heap.size w)
  have H : (bobbinref04_Paths.l0 k l0 ([] : List Int) 0) = some r := h
  clear h
  have H' := Aside0.mk H
  clear H
  go_enter Tryd.func102, Tryd.ntmps102
  go_wp2
  go_loopg [3, 4] k (fun kq v3 v4 w' => ∃ (x3_1 : List Int) (x4_1 : Int), v4 = .int .i64 x4_1 ∧ Aside0 (bobbinref04_Paths.l0 kq l0 x3_1 x4_1 = some r) ∧ Aside0 (kq ≤ k) ∧ Aside0 (Kd.R (Kd.int .u8) 5 w' w.heap.size (fun _ => True) v3 x3_1) ∧ Aside0 (Below w.heap.size w w'))
  case atStart => exact ⟨(([] : List Int)), (0), (by first | rfl | (simp; done) | (simp [*]; done)), H', ⟨Nat.le_refl _⟩, ⟨by first | exact Kd.R_nil _ _ _ _ _ | exact Kd.N_nil _ _ _ _ _ | exact Kd.V_nil _ _ _ _ _ | exact Kd.Q_nil _ _ _ _ _ | exact Kd.S_nil _ _ _ _ _⟩, ⟨by repeat (first | (with_reducible first | exact HB.out | apply below_alloc | apply pw_below_drewN | apply below_drew1) | exact HB.out)⟩⟩
  case round =>
    clear H'
    try clear c1
    obtain ⟨x3_1, x4_1, rfl, HA, HK1, HO_3, HB⟩ := hrel
    cases gk with
    | zero => exact absurd HA.out (by simp [bobbinref04_Paths.l0])
    | succ k1 =>
      have H := HA.out
      clear HA
      simp only [bobbinref04_Paths.l0] at H
      by_cases c2 : x4_1 < (l0.length : Int)
      · rw [if_pos c2] at H
        have c2b0 : decide (x4_1 < (l0.length : Int)) = true := decide_eq_true c2
        clear c2
        by_cases c3 : 0 ≤ x4_1
        · rw [if_pos c3] at H
          have c3b0 : decide (0 ≤ x4_1) = true := decide_eq_true c3
          clear c3
          replace H := Option.bind_eq_some_iff.mp H
          obtain ⟨t117, A40, H⟩ := H
          replace H : (if x3_1.length + t117.size < 140737488355328 then (bobbinref04_Paths.l0 k1 l0 (x3_1 ++ bytesOf t117) (wrap64 (x4_1 + 1))) else (none)) = some r := H
          have A4 := Aside0.mk A40
          clear A40
          by_cases c5 : x3_1.length + t117.size < 140737488355328
          · rw [if_pos c5] at H
            have LMc5 := Aside0.mk c5
            clear c5
            obtain ⟨y118, hy118⟩ : ∃ y_ : List Int, y_ = (x3_1 ++ bytesOf t117) := ⟨_, rfl⟩
            replace H : (bobbinref04_Paths.l0 k1 l0 y118 (wrap64 (x4_1 + 1))) = some r := by first | (rw [hy118]; with_reducible exact H) | (have H2_ := (Option.bind_some _ _).symm.trans H; rw [hy118]; with_reducible exact H2_) | (have H2_ := (Option.bind_some _ _).symm.trans H; with_reducible exact H2_) | with_reducible exact H | (rw [hy118]; exact H) | exact H
            have Ny118 := Aside0.mk hy118
            clear hy118
            have H' := Aside0.mk H
            clear H
            have p116 : 0 ≤ (x4_1 : Int) := of_decide_eq_true (by first | (with_reducible assumption) | assumption)
            have q116 : x4_1 < (l0.length : Int) := of_decide_eq_true (by first | (with_reducible assumption) | assumption)
            obtain ⟨ad116, e116, hx116_0⟩ := Kd.at_int HR0.out x4_1 p116 q116
            cases e116
            replace hx116_0 := (HB.out.cell (World.block_lt_of_cell? w _ hx116_0)).trans hx116_0
            replace p116 := eq_true p116
            replace q116 := eq_true q116
            go_wp2_with (first | ((with_reducible refine gate_callee (f := 120) rfl ?_); refine goesL_ (some 16) rfl rfl Tryd.func120 (by kernel_rfl) rfl #[.int .u8 (rd l0 x4_1)] rfl (by (try simp only [List.map_toArray, List.map_cons, List.map_nil]); first | done | rfl | (simp only [List.length_drop, List.length_take]; rfl)) ?_; (with_reducible refine (bobbinref04_Path.calls k1 (rd l0 x4_1) t117 _ A4.out).mono ?_); rintro e w6 ⟨rfl, hb⟩; refine ⟨_, rfl, ?_⟩; have n0_ := Aside0.mk (Kd.R_below (by (with_reducible repeat (first | apply Kd.R_alloc | apply Kd.R_drewN | apply Kd.R_drew)); exact HO_3.out) hb); have n1_ := Aside0.mk (below_step (by repeat (first | (with_reducible first | exact HB.out | apply below_alloc | apply pw_below_drewN | apply below_drew1) | exact HB.out)) hb); clear HO_3; clear HB; have HO_3 := n0_; have HB := n1_; clear n0_ n1_; (try clear hb); (try clear hb2); (try clear hk); (try clear hi)) | (at_builtin; refine print_append_str (w0 := w) w.heap.size rfl (.tmp 11) _ 22 9 5 rfl Tryd.underlying22 Tryd.underlying9 info5 u3 x3_1 t117 rfl rfl ?aO ?aB ?aS ?aL ?_; (case aB => exact (by repeat (first | (with_reducible first | exact HB.out | apply below_alloc | apply pw_below_drewN | apply below_drew1) | exact HB.out))); (case aO => exact (Kd.own_of_R (by (with_reducible repeat (first | apply Kd.R_alloc | apply Kd.R_drewN | apply Kd.R_drew)); exact HO_3.out))); (case aS => exact (below_size (by repeat (first | (with_reducible first | exact HB.out | apply below_alloc | apply pw_below_drewN | apply below_drew1) | exact HB.out)))); (case aL => have := LMc5.out; first | omega | (simp only [ByteArray.size_append]; simp only [ByteArray.size, List.size_toArray, List.length_cons, List.length_nil] at this ⊢; omega)); intro v119 w7 ho0 hb hg; have ho := Kd.R_of_own (h1 := fun _ => rfl) (ok := fun _ => True) ho0 (fun _ _ => trivial); clear ho0; have hat := True.intro; rw [← Ny118.out] at ho; change Kd.R (Kd.int .u8) 5 w7 w.heap.size (fun _ => True) v119 y118 at ho; have n0_ := Aside0.mk (hb); have n1_ := Aside0.mk (ho); clear HB; clear HO_3; have HB := n0_; have HO120 := n1_; clear n0_ n1_; clear ho hb hg hat))
            go_roundg k1
            case measure => have := HK1.out; omega
            case rel => exact ⟨(y118), (wrap64 (x4_1 + 1)), (by first | rfl | (simp; done) | (simp [*]; done)), H', ⟨by have := HK1.out; omega⟩, ⟨by (with_reducible repeat (first | apply Kd.R_alloc | apply Kd.R_drewN | apply Kd.R_drew)); exact HO120.out⟩, ⟨by repeat (first | (with_reducible first | exact HB.out | apply below_alloc | apply pw_below_drewN | apply below_drew1) | exact HB.out)⟩⟩
          · rw [if_neg c5] at H
            exact absurd H (by simp)
        · rw [if_neg c3] at H
          exact absurd H (by simp)
      · rw [if_neg c2] at H
        have c2b0 : decide (x4_1 < (l0.length : Int)) = false := decide_eq_false c2
        clear c2
        obtain rfl := Option.some.inj H
        have hcv8 := own_string (P := Tryd.prog) Tryd.underlying22 Tryd.underlying5 Tryd.underlying9 (Kd.own_of_R HO_3.out)
        go_wp2
        go_ret
        exact ⟨by first | rfl | (simp [errW_none, errW_some] <;> rfl) | (simp [*, errW_none, errW_some] <;> rfl), by repeat (first | (with_reducible first | exact HB.out | apply below_alloc | apply pw_below_drewN | apply below_drew1) | exact HB.out)⟩
def bobbinref04_Queries.l0 : Nat → List Int → List Int → Int → Option (ByteArray)
  | 0, _, _, _ => none
  | k + 1, x0, x3, x4 => if x4 < (x0.length : Int) then (if 0 ≤ x4 then ((bobbinref04_Query.f (rd x0 x4)).bind fun t122 => (if x3.length + t122.size < 140737488355328 then (bobbinref04_Queries.l0 k x0 (x3 ++ bytesOf t122) (wrap64 (x4 + 1))) else (none))) else (none)) else (some (strOfNums x3))
def bobbinref04_Queries.f (k : Nat) (l0 : List Int) : Option (ByteArray) := bobbinref04_Queries.l0 k l0 ([] : List Int) 0
set_option maxHeartbeats 8000000 in
set_option maxRecDepth 100000 in
theorem bobbinref04_Queries.calls (k : Nat) (A0 : Option Addr) (c0 : Nat) (l0 : List Int) (r : ByteArray) (w : World) (hr0 : Kd.C (Kd.int .u8) w A0 l0.length l0) (hc0 : l0.length ≤ c0) (h : bobbinref04_Queries.f k l0 = some r) :
    Calls Tryd.prog 103 #[.slice A0 l0.length c0] w fun e w' => e = .returned (.string r) ∧ Below w.heap.size w w' := by
  have HR0 := Aside0.mk hr0
  have HC0 := Aside0.mk hc0
  clear hr0 hc0
  have HB := Aside0.mk (Below.refl w.heap.size w)
  have H : (bobbinref04_Queries.l0 k l0 ([] : List Int) 0) = some r := h
  clear h
  have H' := Aside0.mk H
  clear H
  go_enter Tryd.func103, Tryd.ntmps103
  go_wp2
  go_loopg [3, 4] k (fun kq v3 v4 w' => ∃ (x3_1 : List Int) (x4_1 : Int), v4 = .int .i64 x4_1 ∧ Aside0 (bobbinref04_Queries.l0 kq l0 x3_1 x4_1 = some r) ∧ Aside0 (kq ≤ k) ∧ Aside0 (Kd.R (Kd.int .u8) 5 w' w.heap.size (fun _ => True) v3 x3_1) ∧ Aside0 (Below w.heap.size w w'))
  case atStart => exact ⟨(([] : List Int)), (0), (by first | rfl | (simp; done) | (simp [*]; done)), H', ⟨Nat.le_refl _⟩, ⟨by first | exact Kd.R_nil _ _ _ _ _ | exact Kd.N_nil _ _ _ _ _ | exact Kd.V_nil _ _ _ _ _ | exact Kd.Q_nil _ _ _ _ _ | exact Kd.S_nil _ _ _ _ _⟩, ⟨by repeat (first | (with_reducible first | exact HB.out | apply below_alloc | apply pw_below_drewN | apply below_drew1) | exact HB.out)⟩⟩
  case round =>
    clear H'
    try clear c1
    obtain ⟨x3_1, x4_1, rfl, HA, HK1, HO_3, HB⟩ := hrel
    cases gk with
    | zero => exact absurd HA.out (by simp [bobbinref04_Queries.l0])
    | succ k1 =>
      have H := HA.out
      clear HA
      simp only [bobbinref04_Queries.l0] at H
      by_cases c2 : x4_1 < (l0.length : Int)
      · rw [if_pos c2] at H
        have c2b0 : decide (x4_1 < (l0.length : Int)) = true := decide_eq_true c2
        clear c2
        by_cases c3 : 0 ≤ x4_1
        · rw [if_pos c3] at H
          have c3b0 : decide (0 ≤ x4_1) = true := decide_eq_true c3
          clear c3
          replace H := Option.bind_eq_some_iff.mp H
          obtain ⟨t122, A40, H⟩ := H
          replace H : (if x3_1.length + t122.size < 140737488355328 then (bobbinref04_Queries.l0 k1 l0 (x3_1 ++ bytesOf t122) (wrap64 (x4_1 + 1))) else (none)) = some r := H
          have A4 := Aside0.mk A40
          clear A40
          by_cases c5 : x3_1.length + t122.size < 140737488355328
          · rw [if_pos c5] at H
            have LMc5 := Aside0.mk c5
            clear c5
            obtain ⟨y123, hy123⟩ : ∃ y_ : List Int, y_ = (x3_1 ++ bytesOf t122) := ⟨_, rfl⟩
            replace H : (bobbinref04_Queries.l0 k1 l0 y123 (wrap64 (x4_1 + 1))) = some r := by first | (rw [hy123]; with_reducible exact H) | (have H2_ := (Option.bind_some _ _).symm.trans H; rw [hy123]; with_reducible exact H2_) | (have H2_ := (Option.bind_some _ _).symm.trans H; with_reducible exact H2_) | with_reducible exact H | (rw [hy123]; exact H) | exact H
            have Ny123 := Aside0.mk hy123
            clear hy123
            have H' := Aside0.mk H
            clear H
            have p121 : 0 ≤ (x4_1 : Int) := of_decide_eq_true (by first | (with_reducible assumption) | assumption)
            have q121 : x4_1 < (l0.length : Int) := of_decide_eq_true (by first | (with_reducible assumption) | assumption)
            obtain ⟨ad121, e121, hx121_0⟩ := Kd.at_int HR0.out x4_1 p121 q121
            cases e121
            replace hx121_0 := (HB.out.cell (World.block_lt_of_cell? w _ hx121_0)).trans hx121_0
            replace p121 := eq_true p121
            replace q121 := eq_true q121
            go_wp2_with (first | ((with_reducible refine gate_callee (f := 121) rfl ?_); refine goesL_ (some 16) rfl rfl Tryd.func121 (by kernel_rfl) rfl #[.int .u8 (rd l0 x4_1)] rfl (by (try simp only [List.map_toArray, List.map_cons, List.map_nil]); first | done | rfl | (simp only [List.length_drop, List.length_take]; rfl)) ?_; (with_reducible refine (bobbinref04_Query.calls (rd l0 x4_1) t122 _ A4.out).mono ?_); rintro e w6 ⟨rfl, hb⟩; refine ⟨_, rfl, ?_⟩; have n0_ := Aside0.mk (Kd.R_below (by (with_reducible repeat (first | apply Kd.R_alloc | apply Kd.R_drewN | apply Kd.R_drew)); exact HO_3.out) hb); have n1_ := Aside0.mk (below_step (by repeat (first | (with_reducible first | exact HB.out | apply below_alloc | apply pw_below_drewN | apply below_drew1) | exact HB.out)) hb); clear HO_3; clear HB; have HO_3 := n0_; have HB := n1_; clear n0_ n1_; (try clear hb); (try clear hb2); (try clear hk); (try clear hi)) | (at_builtin; refine print_append_str (w0 := w) w.heap.size rfl (.tmp 11) _ 22 9 5 rfl Tryd.underlying22 Tryd.underlying9 info5 u3 x3_1 t122 rfl rfl ?aO ?aB ?aS ?aL ?_; (case aB => exact (by repeat (first | (with_reducible first | exact HB.out | apply below_alloc | apply pw_below_drewN | apply below_drew1) | exact HB.out))); (case aO => exact (Kd.own_of_R (by (with_reducible repeat (first | apply Kd.R_alloc | apply Kd.R_drewN | apply Kd.R_drew)); exact HO_3.out))); (case aS => exact (below_size (by repeat (first | (with_reducible first | exact HB.out | apply below_alloc | apply pw_below_drewN | apply below_drew1) | exact HB.out)))); (case aL => have := LMc5.out; first | omega | (simp only [ByteArray.size_append]; simp only [ByteArray.size, List.size_toArray, List.length_cons, List.length_nil] at this ⊢; omega)); intro v124 w7 ho0 hb hg; have ho := Kd.R_of_own (h1 := fun _ => rfl) (ok := fun _ => True) ho0 (fun _ _ => trivial); clear ho0; have hat := True.intro; rw [← Ny123.out] at ho; change Kd.R (Kd.int .u8) 5 w7 w.heap.size (fun _ => True) v124 y123 at ho; have n0_ := Aside0.mk (hb); have n1_ := Aside0.mk (ho); clear HB; clear HO_3; have HB := n0_; have HO125 := n1_; clear n0_ n1_; clear ho hb hg hat))
            go_roundg k1
            case measure => have := HK1.out; omega
            case rel => exact ⟨(y123), (wrap64 (x4_1 + 1)), (by first | rfl | (simp; done) | (simp [*]; done)), H', ⟨by have := HK1.out; omega⟩, ⟨by (with_reducible repeat (first | apply Kd.R_alloc | apply Kd.R_drewN | apply Kd.R_drew)); exact HO125.out⟩, ⟨by repeat (first | (with_reducible first | exact HB.out | apply below_alloc | apply pw_below_drewN | apply below_drew1) | exact HB.out)⟩⟩
          · rw [if_neg c5] at H
            exact absurd H (by simp)
        · rw [if_neg c3] at H
          exact absurd H (by simp)
      · rw [if_neg c2] at H
        have c2b0 : decide (x4_1 < (l0.length : Int)) = false := decide_eq_false c2
        clear c2
        obtain rfl := Option.some.inj H
        have hcv8 := own_string (P := Tryd.prog) Tryd.underlying22 Tryd.underlying5 Tryd.underlying9 (Kd.own_of_R HO_3.out)
        go_wp2
        go_ret
        exact ⟨by first | rfl | (simp [errW_none, errW_some] <;> rfl) | (simp [*, errW_none, errW_some] <;> rfl), by repeat (first | (with_reducible first | exact HB.out | apply below_alloc | apply pw_below_drewN | apply below_drew1) | exact HB.out)⟩
def bobbinref03_Unit.f (a0 : Int) : Option (ByteArray) := if a0 = 0 then (some (⟨#[239, 191, 189]⟩ : ByteArray)) else (if a0 = 38 then (some (⟨#[38, 97, 109, 112, 59]⟩ : ByteArray)) else (if a0 = 60 then (some (⟨#[38, 108, 116, 59]⟩ : ByteArray)) else (if a0 = 62 then (some (⟨#[38, 103, 116, 59]⟩ : ByteArray)) else (if a0 = 34 then (some (⟨#[38, 35, 51, 52, 59]⟩ : ByteArray)) else (if a0 = 39 then (some (⟨#[38, 35, 51, 57, 59]⟩ : ByteArray)) else (some (strOfNums (([a0] : List Int)))))))))
set_option maxHeartbeats 8000000 in
set_option maxRecDepth 100000 in
theorem bobbinref03_Unit.calls (a0 : Int) (r : ByteArray) (w : World) (h : bobbinref03_Unit.f a0 = some r) :
    Calls Tryd.prog 122 #[.int .u8 a0] w fun e w' => e = .returned (.string r) ∧ Below w.heap.size w w' := by
  have HB := Aside0.mk (Below.refl w.heap.size w)
  have H : (if a0 = 0 then (some (⟨#[239, 191, 189]⟩ : ByteArray)) else (if a0 = 38 then (some (⟨#[38, 97, 109, 112, 59]⟩ : ByteArray)) else (if a0 = 60 then (some (⟨#[38, 108, 116, 59]⟩ : ByteArray)) else (if a0 = 62 then (some (⟨#[38, 103, 116, 59]⟩ : ByteArray)) else (if a0 = 34 then (some (⟨#[38, 35, 51, 52, 59]⟩ : ByteArray)) else (if a0 = 39 then (some (⟨#[38, 35, 51, 57, 59]⟩ : ByteArray)) else (some (strOfNums (([a0] : List Int)))))))))) = some r := h
  clear h
  by_cases c2 : a0 = 0
  · rw [if_pos c2] at H
    have c2b0 : (a0 == 0) = true := beq_iff_eq.mpr c2
    have c2b1 : (a0 != 0) = false := bne_eq_false_iff_eq.mpr c2
    clear c2
    obtain rfl := Option.some.inj H
    go_enter Tryd.func122, Tryd.ntmps122
    go_wp2
    go_ret
    exact ⟨by first | rfl | (simp [errW_none, errW_some] <;> rfl) | (simp [*, errW_none, errW_some] <;> rfl), by repeat (first | (with_reducible first | exact HB.out | apply below_alloc | apply pw_below_drewN | apply below_drew1) | exact HB.out)⟩
  · rw [if_neg c2] at H
    have c2b0 : (a0 == 0) = false := beq_eq_false_iff_ne.mpr c2
    have c2b1 : (a0 != 0) = true := bne_iff_ne.mpr c2
    by_cases c3 : a0 = 38
    · rw [if_pos c3] at H
      have c3b0 : (a0 == 38) = true := beq_iff_eq.mpr c3
      have c3b1 : (a0 != 38) = false := bne_eq_false_iff_eq.mpr c3
      clear c3
      obtain rfl := Option.some.inj H
      go_enter Tryd.func122, Tryd.ntmps122
      go_wp2
      go_ret
      exact ⟨by first | rfl | (simp [errW_none, errW_some] <;> rfl) | (simp [*, errW_none, errW_some] <;> rfl), by repeat (first | (with_reducible first | exact HB.out | apply below_alloc | apply pw_below_drewN | apply below_drew1) | exact HB.out)⟩
    · rw [if_neg c3] at H
      have c3b0 : (a0 == 38) = false := beq_eq_false_iff_ne.mpr c3
      have c3b1 : (a0 != 38) = true := bne_iff_ne.mpr c3
      by_cases c4 : a0 = 60
      · rw [if_pos c4] at H
        have c4b0 : (a0 == 60) = true := beq_iff_eq.mpr c4
        have c4b1 : (a0 != 60) = false := bne_eq_false_iff_eq.mpr c4
        clear c4
        obtain rfl := Option.some.inj H
        go_enter Tryd.func122, Tryd.ntmps122
        go_wp2
        go_ret
        exact ⟨by first | rfl | (simp [errW_none, errW_some] <;> rfl) | (simp [*, errW_none, errW_some] <;> rfl), by repeat (first | (with_reducible first | exact HB.out | apply below_alloc | apply pw_below_drewN | apply below_drew1) | exact HB.out)⟩
      · rw [if_neg c4] at H
        have c4b0 : (a0 == 60) = false := beq_eq_false_iff_ne.mpr c4
        have c4b1 : (a0 != 60) = true := bne_iff_ne.mpr c4
        by_cases c5 : a0 = 62
        · rw [if_pos c5] at H
          have c5b0 : (a0 == 62) = true := beq_iff_eq.mpr c5
          have c5b1 : (a0 != 62) = false := bne_eq_false_iff_eq.mpr c5
          clear c5
          obtain rfl := Option.some.inj H
          go_enter Tryd.func122, Tryd.ntmps122
          go_wp2
          go_ret
          exact ⟨by first | rfl | (simp [errW_none, errW_some] <;> rfl) | (simp [*, errW_none, errW_some] <;> rfl), by repeat (first | (with_reducible first | exact HB.out | apply below_alloc | apply pw_below_drewN | apply below_drew1) | exact HB.out)⟩
        · rw [if_neg c5] at H
          have c5b0 : (a0 == 62) = false := beq_eq_false_iff_ne.mpr c5
          have c5b1 : (a0 != 62) = true := bne_iff_ne.mpr c5
          by_cases c6 : a0 = 34
          · rw [if_pos c6] at H
            have c6b0 : (a0 == 34) = true := beq_iff_eq.mpr c6
            have c6b1 : (a0 != 34) = false := bne_eq_false_iff_eq.mpr c6
            clear c6
            obtain rfl := Option.some.inj H
            go_enter Tryd.func122, Tryd.ntmps122
            go_wp2
            go_ret
            exact ⟨by first | rfl | (simp [errW_none, errW_some] <;> rfl) | (simp [*, errW_none, errW_some] <;> rfl), by repeat (first | (with_reducible first | exact HB.out | apply below_alloc | apply pw_below_drewN | apply below_drew1) | exact HB.out)⟩
          · rw [if_neg c6] at H
            have c6b0 : (a0 == 34) = false := beq_eq_false_iff_ne.mpr c6
            have c6b1 : (a0 != 34) = true := bne_iff_ne.mpr c6
            by_cases c7 : a0 = 39
            · rw [if_pos c7] at H
              have c7b0 : (a0 == 39) = true := beq_iff_eq.mpr c7
              have c7b1 : (a0 != 39) = false := bne_eq_false_iff_eq.mpr c7
              clear c7
              obtain rfl := Option.some.inj H
              go_enter Tryd.func122, Tryd.ntmps122
              go_wp2
              go_ret
              exact ⟨by first | rfl | (simp [errW_none, errW_some] <;> rfl) | (simp [*, errW_none, errW_some] <;> rfl), by repeat (first | (with_reducible first | exact HB.out | apply below_alloc | apply pw_below_drewN | apply below_drew1) | exact HB.out)⟩
            · rw [if_neg c7] at H
              have c7b0 : (a0 == 39) = false := beq_eq_false_iff_ne.mpr c7
              have c7b1 : (a0 != 39) = true := bne_iff_ne.mpr c7
              obtain ⟨y126, hy126⟩ : ∃ y_ : List Int, y_ = (([a0] : List Int)) := ⟨_, rfl⟩
              replace H : (some (strOfNums y126)) = some r := by first | (rw [hy126]; with_reducible exact H) | (have H2_ := (Option.bind_some _ _).symm.trans H; rw [hy126]; with_reducible exact H2_) | (have H2_ := (Option.bind_some _ _).symm.trans H; with_reducible exact H2_) | with_reducible exact H | (rw [hy126]; exact H) | exact H
              have Ny126 := Aside0.mk hy126
              clear hy126
              obtain rfl := Option.some.inj H
              go_enter Tryd.func122, Tryd.ntmps122
              go_wp2_with (first | ((with_reducible refine gate_dst (N := 17) rfl ?_); refine Kd.R_lit (Kd.int .u8) _ 5 ?hg (N := 17) ?hd (xs := ([a0] : List Int)) (inner := [.int .u8 a0]) (ok := fun _ => True) (okp := fun _ => True) ?hr ?hp (fun _ hk => hk) trivial (Below.refl _ _) (Nat.le_refl _) (by simp) ?_; (case hd => rfl); (case hg => rfl); (case hr => first | (go_simp; done) | (go_simp; rfl)); (case hp => exact (Reps.one (show Kd.M (Kd.int .u8) _ _ _ a0 [.int .u8 a0] from rfl) (Reps.none _ _))); intro v127 w8 ho9 hb hg_ hnew_; clear hg_ hnew_; (first | rw [← Ny126.out] at ho9 | (simp only [Int.reduceToNat] at ho9; rw [← Ny126.out] at ho9)); have n0_ := Aside0.mk (Kd.R_lower ho9 (below_size (by repeat (first | (with_reducible first | exact HB.out | apply below_alloc | apply pw_below_drewN | apply below_drew1) | exact HB.out)))); have n1_ := Aside0.mk (below_step (by repeat (first | (with_reducible first | exact HB.out | apply below_alloc | apply pw_below_drewN | apply below_drew1) | exact HB.out)) hb); clear HB; have HO128 := n0_; have HB := n1_; clear n0_ n1_; clear hb ho9; have hcv10 := own_string (P := Tryd.prog) Tryd.underlying22 Tryd.underlying5 Tryd.underlying9 (Kd.own_of_R HO128.out)))
              go_ret
              exact ⟨by first | rfl | (simp [errW_none, errW_some] <;> rfl) | (simp [*, errW_none, errW_some] <;> rfl), by repeat (first | (with_reducible first | exact HB.out | apply below_alloc | apply pw_below_drewN | apply below_drew1) | exact HB.out)⟩
def bobbinref03_Text.l0 : Nat → List Int → List Int → Int → Option (ByteArray)
  | 0, _, _, _ => none
  | k + 1, x0, x3, x4 => if x4 < (x0.length : Int) then (if 0 ≤ x4 then ((bobbinref03_Unit.f (rd x0 x4)).bind fun t130 => (if x3.length + t130.size < 140737488355328 then (bobbinref03_Text.l0 k x0 (x3 ++ bytesOf t130) (wrap64 (x4 + 1))) else (none))) else (none)) else (some (strOfNums x3))
def bobbinref03_Text.f (k : Nat) (l0 : List Int) : Option (ByteArray) := bobbinref03_Text.l0 k l0 ([] : List Int) 0
set_option maxHeartbeats 8000000 in
set_option maxRecDepth 100000 in
theorem bobbinref03_Text.calls (k : Nat) (A0 : Option Addr) (c0 : Nat) (l0 : List Int) (r : ByteArray) (w : World) (hr0 : Kd.C (Kd.int .u8) w A0 l0.length l0) (hc0 : l0.length ≤ c0) (h : bobbinref03_Text.f k l0 = some r) :
    Calls Tryd.prog 104 #[.slice A0 l0.length c0] w fun e w' => e = .returned (.string r) ∧ Below w.heap.size w w' := by
  have HR0 := Aside0.mk hr0
  have HC0 := Aside0.mk hc0
  clear hr0 hc0
  have HB := Aside0.mk (Below.refl w.heap.size w)
  have H : (bobbinref03_Text.l0 k l0 ([] : List Int) 0) = some r := h
  clear h
  have H' := Aside0.mk H
  clear H
  go_enter Tryd.func104, Tryd.ntmps104
  go_wp2
  go_loopg [3, 4] k (fun kq v3 v4 w' => ∃ (x3_1 : List Int) (x4_1 : Int), v4 = .int .i64 x4_1 ∧ Aside0 (bobbinref03_Text.l0 kq l0 x3_1 x4_1 = some r) ∧ Aside0 (kq ≤ k) ∧ Aside0 (Kd.R (Kd.int .u8) 5 w' w.heap.size (fun _ => True) v3 x3_1) ∧ Aside0 (Below w.heap.size w w'))
  case atStart => exact ⟨(([] : List Int)), (0), (by first | rfl | (simp; done) | (simp [*]; done)), H', ⟨Nat.le_refl _⟩, ⟨by first | exact Kd.R_nil _ _ _ _ _ | exact Kd.N_nil _ _ _ _ _ | exact Kd.V_nil _ _ _ _ _ | exact Kd.Q_nil _ _ _ _ _ | exact Kd.S_nil _ _ _ _ _⟩, ⟨by repeat (first | (with_reducible first | exact HB.out | apply below_alloc | apply pw_below_drewN | apply below_drew1) | exact HB.out)⟩⟩
  case round =>
    clear H'
    try clear c1
    obtain ⟨x3_1, x4_1, rfl, HA, HK1, HO_3, HB⟩ := hrel
    cases gk with
    | zero => exact absurd HA.out (by simp [bobbinref03_Text.l0])
    | succ k1 =>
      have H := HA.out
      clear HA
      simp only [bobbinref03_Text.l0] at H
      by_cases c2 : x4_1 < (l0.length : Int)
      · rw [if_pos c2] at H
        have c2b0 : decide (x4_1 < (l0.length : Int)) = true := decide_eq_true c2
        clear c2
        by_cases c3 : 0 ≤ x4_1
        · rw [if_pos c3] at H
          have c3b0 : decide (0 ≤ x4_1) = true := decide_eq_true c3
          clear c3
          replace H := Option.bind_eq_some_iff.mp H
          obtain ⟨t130, A40, H⟩ := H
          replace H : (if x3_1.length + t130.size < 140737488355328 then (bobbinref03_Text.l0 k1 l0 (x3_1 ++ bytesOf t130) (wrap64 (x4_1 + 1))) else (none)) = some r := H
          have A4 := Aside0.mk A40
          clear A40
          by_cases c5 : x3_1.length + t130.size < 140737488355328
          · rw [if_pos c5] at H
            have LMc5 := Aside0.mk c5
            clear c5
            obtain ⟨y131, hy131⟩ : ∃ y_ : List Int, y_ = (x3_1 ++ bytesOf t130) := ⟨_, rfl⟩
            replace H : (bobbinref03_Text.l0 k1 l0 y131 (wrap64 (x4_1 + 1))) = some r := by first | (rw [hy131]; with_reducible exact H) | (have H2_ := (Option.bind_some _ _).symm.trans H; rw [hy131]; with_reducible exact H2_) | (have H2_ := (Option.bind_some _ _).symm.trans H; with_reducible exact H2_) | with_reducible exact H | (rw [hy131]; exact H) | exact H
            have Ny131 := Aside0.mk hy131
            clear hy131
            have H' := Aside0.mk H
            clear H
            have p129 : 0 ≤ (x4_1 : Int) := of_decide_eq_true (by first | (with_reducible assumption) | assumption)
            have q129 : x4_1 < (l0.length : Int) := of_decide_eq_true (by first | (with_reducible assumption) | assumption)
            obtain ⟨ad129, e129, hx129_0⟩ := Kd.at_int HR0.out x4_1 p129 q129
            cases e129
            replace hx129_0 := (HB.out.cell (World.block_lt_of_cell? w _ hx129_0)).trans hx129_0
            replace p129 := eq_true p129
            replace q129 := eq_true q129
            go_wp2_with (first | ((with_reducible refine gate_callee (f := 122) rfl ?_); refine goesL_ (some 16) rfl rfl Tryd.func122 (by kernel_rfl) rfl #[.int .u8 (rd l0 x4_1)] rfl (by (try simp only [List.map_toArray, List.map_cons, List.map_nil]); first | done | rfl | (simp only [List.length_drop, List.length_take]; rfl)) ?_; (with_reducible refine (bobbinref03_Unit.calls (rd l0 x4_1) t130 _ A4.out).mono ?_); rintro e w6 ⟨rfl, hb⟩; refine ⟨_, rfl, ?_⟩; have n0_ := Aside0.mk (Kd.R_below (by (with_reducible repeat (first | apply Kd.R_alloc | apply Kd.R_drewN | apply Kd.R_drew)); exact HO_3.out) hb); have n1_ := Aside0.mk (below_step (by repeat (first | (with_reducible first | exact HB.out | apply below_alloc | apply pw_below_drewN | apply below_drew1) | exact HB.out)) hb); clear HO_3; clear HB; have HO_3 := n0_; have HB := n1_; clear n0_ n1_; (try clear hb); (try clear hb2); (try clear hk); (try clear hi)) | (at_builtin; refine print_append_str (w0 := w) w.heap.size rfl (.tmp 11) _ 22 9 5 rfl Tryd.underlying22 Tryd.underlying9 info5 u3 x3_1 t130 rfl rfl ?aO ?aB ?aS ?aL ?_; (case aB => exact (by repeat (first | (with_reducible first | exact HB.out | apply below_alloc | apply pw_below_drewN | apply below_drew1) | exact HB.out))); (case aO => exact (Kd.own_of_R (by (with_reducible repeat (first | apply Kd.R_alloc | apply Kd.R_drewN | apply Kd.R_drew)); exact HO_3.out))); (case aS => exact (below_size (by repeat (first | (with_reducible first | exact HB.out | apply below_alloc | apply pw_below_drewN | apply below_drew1) | exact HB.out)))); (case aL => have := LMc5.out; first | omega | (simp only [ByteArray.size_append]; simp only [ByteArray.size, List.size_toArray, List.length_cons, List.length_nil] at this ⊢; omega)); intro v132 w7 ho0 hb hg; have ho := Kd.R_of_own (h1 := fun _ => rfl) (ok := fun _ => True) ho0 (fun _ _ => trivial); clear ho0; have hat := True.intro; rw [← Ny131.out] at ho; change Kd.R (Kd.int .u8) 5 w7 w.heap.size (fun _ => True) v132 y131 at ho; have n0_ := Aside0.mk (hb); have n1_ := Aside0.mk (ho); clear HB; clear HO_3; have HB := n0_; have HO133 := n1_; clear n0_ n1_; clear ho hb hg hat))
            go_roundg k1
            case measure => have := HK1.out; omega
            case rel => exact ⟨(y131), (wrap64 (x4_1 + 1)), (by first | rfl | (simp; done) | (simp [*]; done)), H', ⟨by have := HK1.out; omega⟩, ⟨by (with_reducible repeat (first | apply Kd.R_alloc | apply Kd.R_drewN | apply Kd.R_drew)); exact HO133.out⟩, ⟨by repeat (first | (with_reducible first | exact HB.out | apply below_alloc | apply pw_below_drewN | apply below_drew1) | exact HB.out)⟩⟩
          · rw [if_neg c5] at H
            exact absurd H (by simp)
        · rw [if_neg c3] at H
          exact absurd H (by simp)
      · rw [if_neg c2] at H
        have c2b0 : decide (x4_1 < (l0.length : Int)) = false := decide_eq_false c2
        clear c2
        obtain rfl := Option.some.inj H
        have hcv8 := own_string (P := Tryd.prog) Tryd.underlying22 Tryd.underlying5 Tryd.underlying9 (Kd.own_of_R HO_3.out)
        go_wp2
        go_ret
        exact ⟨by first | rfl | (simp [errW_none, errW_some] <;> rfl) | (simp [*, errW_none, errW_some] <;> rfl), by repeat (first | (with_reducible first | exact HB.out | apply below_alloc | apply pw_below_drewN | apply below_drew1) | exact HB.out)⟩
end Go.Proofs.YtdpnnglfaofjeaaDoor.PEq
namespace Go.Proofs.YtdpnnglfaofjeaaDoor.Y
open Go.RowKit Go.Proofs.YtdpnnglfaofjeaaDoorW.PrintWords Go.Proofs.YtdpnnglfaofjeaaDoorW.PrintLast Go.Proofs.YtdpnnglfaofjeaaDoorW.PrintMore Go.Proofs.YtdpnnglfaofjeaaDoor.PEq
open Go.Proofs.YtdpnnglfaofjeaaDoor.PEp (html_Unit.f html_Unit.calls)
open Go.Proofs.YtdpnnglfaofjeaaDoor.V (RB RB.of_OB RB.lit info5)
set_option linter.unusedVariables false
set_option linter.unusedSimpArgs false
set_option maxRecDepth 100000
theorem of_bytes {P : Int → Prop} (h : ∀ n : Nat, n < 256 → P (n : Int)) (b : Int) (hb : 0 ≤ b ∧ b ≤ 255) : P b := by
  obtain ⟨n, rfl⟩ := Int.eq_ofNat_of_zero_le hb.1
  exact h n (by omega)
theorem htmlU_f : ∀ b : Int, 0 ≤ b ∧ b ≤ 255 → html_Unit.f b = some (htmlU b) := of_bytes (by decide +kernel)
theorem pathU_f : ∀ b : Int, 0 ≤ b ∧ b ≤ 255 → percent_PathUnit.f b = some (pathU b) := of_bytes (by decide +kernel)
theorem refPath_f : ∀ b : Int, 0 ≤ b ∧ b ≤ 255 → bobbinref04_Path.f 20 b = some (strOfNums (pathU b)) := of_bytes (by decide +kernel)
theorem refHtml_f : ∀ b : Int, 0 ≤ b ∧ b ≤ 255 → bobbinref03_Unit.f b = some (strOfNums (htmlU b)) := of_bytes (by decide +kernel)
theorem htmlU_ok : ∀ b : Int, 0 ≤ b ∧ b ≤ 255 → ((htmlU b).all (fun x => decide (0 ≤ x) && decide (x ≤ 255)) && decide ((htmlU b).length ≤ 6)) = true := of_bytes (by decide +kernel)
theorem pathU_ok : ∀ b : Int, 0 ≤ b ∧ b ≤ 255 → ((pathU b).all (fun x => decide (0 ≤ x) && decide (x ≤ 255)) && decide ((pathU b).length ≤ 6)) = true := of_bytes (by decide +kernel)
theorem queryU_ok : ∀ b : Int, 0 ≤ b ∧ b ≤ 255 → ((queryU b).all (fun x => decide (0 ≤ x) && decide (x ≤ 255)) && decide ((queryU b).length ≤ 6)) = true := of_bytes (by decide +kernel)
def IsU (u : Int → List Int) : Prop := ∀ b : Int, 0 ≤ b ∧ b ≤ 255 → (∀ x ∈ u b, 0 ≤ x ∧ x ≤ 255) ∧ (u b).length ≤ 6
theorem isU_of {u : Int → List Int} (h : ∀ b : Int, 0 ≤ b ∧ b ≤ 255 → ((u b).all (fun x => decide (0 ≤ x) && decide (x ≤ 255)) && decide ((u b).length ≤ 6)) = true) : IsU u := fun b hb => by
  have := h b hb
  simp only [Bool.and_eq_true, List.all_eq_true, decide_eq_true_eq] at this
  exact this
theorem isU_html : IsU htmlU := isU_of htmlU_ok
theorem isU_path : IsU pathU := isU_of pathU_ok
theorem isU_query : IsU queryU := isU_of queryU_ok
theorem y_bytesOf (l : List Int) (h : ∀ x ∈ l, 0 ≤ x ∧ x ≤ 255) : bytesOf (strOfNums l) = l := by
  unfold bytesOf
  rw [strOfNums_data, List.map_map]
  conv => rhs; rw [← List.map_id l]
  apply List.map_congr_left
  intro x hx
  have := h x hx
  simp
  omega
theorem y_wrap (n : Int) (h : -9223372036854775808 ≤ n ∧ n ≤ 9223372036854775807) : wrap64 n = n := by unfold wrap64; omega
theorem all_loop (L : Nat → List Int → List Int → Int → Option ByteArray) (F : Nat → Int → Option ByteArray) (u : Int → List Int) (hu : IsU u) (hF : ∀ b, 0 ≤ b ∧ b ≤ 255 → Ev (fun k => F k b) (strOfNums (u b)))
    (hL : ∀ k x0 x3 x4, L (k + 1) x0 x3 x4 = if x4 < (x0.length : Int) then (if 0 ≤ x4 then ((F k (rd x0 x4)).bind fun t => (if x3.length + t.size < 140737488355328 then (L k x0 (x3 ++ bytesOf t) (wrap64 (x4 + 1))) else (none))) else (none)) else (some (strOfNums x3))) :
    ∀ (q pre acc : List Int), (∀ x ∈ q, 0 ≤ x ∧ x ≤ 255) → (pre ++ q).length ≤ 4398046511104 → acc.length ≤ 6 * pre.length →
    Ev (fun k => L k (pre ++ q) acc (pre.length : Int)) (strOfNums (acc ++ q.flatMap u))
  | [], pre, acc, hq, hl, ha => by
    refine ⟨1, fun k hk => ?_⟩
    obtain ⟨k, rfl⟩ : ∃ m, k = m + 1 := ⟨k - 1, by omega⟩
    simp [hL]
  | r :: q, pre, acc, hq, hl, ha => by
    have hr := hq r List.mem_cons_self
    have hlen : (pre ++ r :: q).length = pre.length + (q.length + 1) := by simp
    obtain ⟨hub, hul⟩ := hu r hr
    have ih := all_loop L F u hu hF hL q (pre ++ [r]) (acc ++ u r) (fun x hx => hq x (List.mem_cons_of_mem _ hx)) (by simpa using hl) (by simp; omega)
    have e1 : (pre ++ [r]) ++ q = pre ++ r :: q := by simp
    have e2 : ((pre ++ [r]).length : Int) = (pre.length : Int) + 1 := by simp
    have e3 : acc ++ (r :: q).flatMap u = acc ++ u r ++ q.flatMap u := by rw [List.flatMap_cons, List.append_assoc]
    rw [e1, e2] at ih
    rw [e3]
    have hrd : rd (pre ++ r :: q) (pre.length : Int) = r := by simp [rd, rdOf, List.getD_eq_getElem?_getD]
    refine Ev.step (f := fun k => (F k r).bind fun t => (if acc.length + t.size < 140737488355328 then (L k (pre ++ r :: q) (acc ++ bytesOf t) (wrap64 ((pre.length : Int) + 1))) else (none))) (fun k => ?_) ?_
    · simp only [hL]
      rw [if_pos (by rw [hlen]; omega), if_pos (by omega), hrd]
    · refine Ev.bind (hF r hr) ?_
      refine Ev.congr (fun k => ?_) ih
      rw [if_pos (by rw [strOfNums_size]; omega), y_bytesOf _ hub, y_wrap _ (by omega)]
theorem paths_ev (l : List Int) (h : ∀ x ∈ l, 0 ≤ x ∧ x ≤ 255) (hl : l.length ≤ 4398046511104) : Ev (fun k => bobbinref04_Paths.f k l) (strOfNums (l.flatMap pathU)) := by
  have := all_loop bobbinref04_Paths.l0 bobbinref04_Path.f pathU isU_path (fun b hb => Ev.of (bobbinref04_Path.mono b) (refPath_f b hb)) (fun _ _ _ _ => rfl) l [] [] h (by simpa using hl) (by simp)
  simp only [List.nil_append, List.length_nil] at this; exact this
theorem queries_ev (l : List Int) (h : ∀ x ∈ l, 0 ≤ x ∧ x ≤ 255) (hl : l.length ≤ 4398046511104) : Ev (fun k => bobbinref04_Queries.f k l) (strOfNums (l.flatMap queryU)) := by
  have := all_loop bobbinref04_Queries.l0 (fun _ => bobbinref04_Query.f) queryU isU_query (fun b hb => by unfold bobbinref04_Query.f; rw [if_pos hb]; exact Ev.now _) (fun _ _ _ _ => rfl) l [] [] h (by simpa using hl) (by simp)
  simp only [List.nil_append, List.length_nil] at this; exact this
theorem htmls_ev (l : List Int) (h : ∀ x ∈ l, 0 ≤ x ∧ x ≤ 255) (hl : l.length ≤ 4398046511104) : Ev (fun k => bobbinref03_Text.f k l) (strOfNums (l.flatMap htmlU)) := by
  have := all_loop bobbinref03_Text.l0 (fun _ => bobbinref03_Unit.f) htmlU isU_html (fun b hb => by show Ev (fun _ => bobbinref03_Unit.f b) _; rw [refHtml_f b hb]; exact Ev.now _) (fun _ _ _ _ => rfl) l [] [] h (by simpa using hl) (by simp)
  simp only [List.nil_append, List.length_nil] at this; exact this
end Go.Proofs.YtdpnnglfaofjeaaDoor.Y
namespace Go.Proofs.YtdpnnglfaofjeaaDoor.U
open Go.RowKit Go.Proofs.YtdpnnglfaofjeaaDoorW.PrintWords Go.Proofs.YtdpnnglfaofjeaaDoorW.PrintLast Go.Proofs.YtdpnnglfaofjeaaDoorW.PrintMore
set_option linter.unusedVariables false
set_option linter.unusedSimpArgs false
def TabOK (w : World) : Prop := w.cell? ⟨3, 15, none⟩ = some (.int .u8 4)
theorem TabOK.below {w w1 : World} (h : TabOK w) (hb : Below w.heap.size w w1) : TabOK w1 := (hb.cell (World.block_lt_of_cell? w _ h)).trans h
set_option maxHeartbeats 1000000 in
theorem tz_calls (w : World) (h : TabOK w) : Calls Tryd.prog 124 #[.int .u64 16] w fun e w' => e = .returned (.int .i64 4) ∧ w = w' := by
  have h1 : w.cell? ⟨3, 15, none⟩ = some (.int .u8 4) := h
  have hE : IntKind.u64.wrap (bits BinOp.and IntKind.u64 16 (IntKind.u64.wrap (-16)) * 285870213051353865) / 288230376151711744 = 15 := by decide +kernel
  go_enter Tryd.func124, Tryd.ntmps124
  go_wp2
  go_ret
  exact ⟨rfl, rfl⟩
theorem tz109_calls (w : World) (h : TabOK w) : Calls Tryd.prog 109 #[.int .u64 16] w fun e w' => e = .returned (.int .i64 4) ∧ w = w' := by
  go_enter Tryd.func109, Tryd.ntmps109
  go_wp2_with (go_at_call 124; refine (tz_calls _ h).mono ?_; rintro e w' ⟨rfl, rfl⟩)
  go_ret
  exact ⟨rfl, rfl⟩
theorem pow_calls (w : World) : Calls Tryd.prog 108 #[.int .i64 16] w fun e w' => e = .returned (.bool true) ∧ w = w' := by
  have hE : bits BinOp.and IntKind.i64 16 15 = 0 := by decide +kernel
  go_enter Tryd.func108, Tryd.ntmps108
  go_wp2
  go_ret
  exact ⟨rfl, rfl⟩
def dig (d : Nat) : Int := if d < 10 then 48 + (d : Int) else 87 + (d : Int)
def hexN (n : Nat) : List Int := if h : n < 16 then [dig n] else hexN (n / 16) ++ [dig (n % 16)]
termination_by n
decreasing_by omega
theorem hexN_small (n : Nat) (h : n < 16) : hexN n = [dig n] := by rw [hexN, dif_pos h]
theorem hexN_big (n : Nat) (h : ¬ n < 16) : hexN n = hexN (n / 16) ++ [dig (n % 16)] := by rw [hexN, dif_neg h]
theorem digs (d : Nat) (h : d < (⟨#[48, 49, 50, 51, 52, 53, 54, 55, 56, 57, 97, 98, 99, 100, 101, 102, 103, 104, 105, 106, 107, 108, 109, 110, 111, 112, 113, 114, 115, 116, 117, 118, 119, 120, 121, 122]⟩ : ByteArray).size) (hd : d < 16) : ((((⟨#[48, 49, 50, 51, 52, 53, 54, 55, 56, 57, 97, 98, 99, 100, 101, 102, 103, 104, 105, 106, 107, 108, 109, 110, 111, 112, 113, 114, 115, 116, 117, 118, 119, 120, 121, 122]⟩ : ByteArray)[d]'h).toNat : Nat) : Int) = dig d := by
  have : d = 0 ∨ d = 1 ∨ d = 2 ∨ d = 3 ∨ d = 4 ∨ d = 5 ∨ d = 6 ∨ d = 7 ∨ d = 8 ∨ d = 9 ∨ d = 10 ∨ d = 11 ∨ d = 12 ∨ d = 13 ∨ d = 14 ∨ d = 15 := by omega
  rcases this with rfl | rfl | rfl | rfl | rfl | rfl | rfl | rfl | rfl | rfl | rfl | rfl | rfl | rfl | rfl | rfl <;> rfl
theorem wraps_u64 (n : Int) (h₀ : 0 ≤ n) (h₁ : n < 2 ^ 64) : IntKind.u64.wrap n = n := by simp [IntKind.wrap, IntKind.bits, IntKind.signed]; omega
theorem u64_and15 (x : Nat) (h : x < 65536) : bits .and .u64 (x : Int) 15 = ((x % 16 : Nat) : Int) := by
  have := bits_mask .u64 64 (by decide) wraps_u64 4 (by decide) (x : Int) (by omega) (by omega)
  simpa using this
theorem info5 : (Tryd.prog.info? 5).map (fun i => (i.zero, i.size, i.bytes)) = some (some (.int .u8 0), 1, 1) := by kernel_rfl
theorem under116 : Tryd.prog.underlying 116 = some (.array (Tryd.prog.arrayLen 116) (Tryd.prog.elem 116)) := by kernel_rfl
theorem len116 : Tryd.prog.arrayLen 116 = 65 := by kernel_rfl
theorem elem116 : Tryd.prog.elem 116 = 5 := by kernel_rfl
theorem slice116 (g j : Nat) (hj : j < 65) (W : World) : (Instr.sliceAt 116 (.pointer (some ⟨g, 0, none⟩)) (some (.int .i64 (j : Int))) none none).run Tryd.prog W = .ok (.slice (some ⟨g, j, none⟩) (65 - j) (65 - j)) W := by
  obtain ⟨i0, hi0, _, hsz0, _⟩ := info_parts info5
  rw [run_sliceAt_array_l W 116 ⟨g, 0, none⟩ under116 .i64 (j : Int) (by omega) (by rw [len116]; omega), len116, elem116]
  have hne : ¬ 65 = j := by omega
  have hadd := add_plain g j
  simp [sizeOf, typeInfo, hi0, hsz0, slicedAt, Result.andThen, hne, hadd]
set_option maxRecDepth 100000 in
set_option maxHeartbeats 4000000 in
theorem bits_calls (u : Nat) (hu : u < 65536) (w : World) (h : TabOK w) : Calls Tryd.prog 93 #[.slice none 0 0, .int .u64 (u : Int), .int .i64 16, .bool false, .bool false] w fun e w' => e = .returned (.tuple #[.slice none 0 0, .string (strOfNums (hexN u))]) ∧ Below w.heap.size w w' := by
  have hb0 := (Below.refl w.heap.size w).alloc (Nat.le_refl _) (.cells Tryd.zeroCells116 116)
  have h0 := h.below hb0
  have hg0 := heap_alloc_new w (.cells Tryd.zeroCells116 116)
  go_enter Tryd.func93, Tryd.ntmps93
  go_wp2_with (first
    | (go_at_call 108; refine (pow_calls _).mono ?_; rintro e w' ⟨rfl, rfl⟩)
    | (go_at_call 109; refine (tz109_calls _ h0).mono ?_; rintro e w' ⟨rfl, rfl⟩))
  go_loopw [1, 13] (fun v1 v13 wr => ∃ (x : Nat) (t : List Int) (cur : Array Value), v1 = .int .u64 (x : Int) ∧ v13 = .int .i64 (65 - (t.length : Int)) ∧ wr.heap[w.heap.size]? = some (.cells cur 116 (0, 0)) ∧ cur.size = 65 ∧
      cur.toList.drop (65 - t.length) = t.map (Value.int .u8) ∧ Below w.heap.size w wr ∧ hexN u = hexN x ++ t ∧ (t.length = 0 ∧ x < 65536 ∨ t.length = 1 ∧ x < 4096 ∨ t.length = 2 ∧ x < 256 ∨ t.length = 3 ∧ x < 16)) (fun v1 _ _ => match v1 with | .int _ x => x.toNat | _ => 0)
  case atStart => exact ⟨u, [], Tryd.zeroCells116, rfl, rfl, hg0, by kernel_rfl, by kernel_rfl, hb0, by simp, .inl ⟨rfl, hu⟩⟩
  case round =>
    obtain ⟨x, t, cur, rfl, rfl, hg, hcs, hct, hb, hhex, hbd⟩ := hrel
    have hlt : t.length ≤ 3 := by omega
    obtain ⟨j, hj, hjl, hjt⟩ : ∃ j : Nat, 65 - (t.length : Int) - 1 = (j : Int) ∧ j < 65 ∧ j + 1 + t.length = 65 := ⟨64 - t.length, by omega, by omega, by omega⟩
    have hc := blk_cell hg j
    have hf := blk_frozen hg j
    have hcc : cur[j]? = some (cur[j]'(by omega)) := by simp [hcs, hjl]
    rw [hcc] at hc
    by_cases hx : x < 16
    · have hx1 : ¬ 16 ≤ (x : Int) := by omega
      have hx2 : (x : Int) < 36 := by omega
      have hxs := digs x (show x < 36 by omega) hx
      have hsl := slice116 w.heap.size j hjl
      have hb2 := hb.setCell (p := ⟨w.heap.size, j, none⟩) (Nat.le_refl _) (.int .u8 (dig x))
      have hbk := blk_set hg j (.int .u8 (dig x))
      have hcur : (cur.setIfInBounds j (.int .u8 (dig x))).toList.drop j = (dig x :: t).map (Value.int .u8) := by
        rw [List.map_cons, ← hct, show 65 - t.length = j + 1 from by omega, Array.toList_setIfInBounds, List.drop_eq_getElem_cons (by simp [hcs, hjl])]
        have e2 : (cur.toList.set j (Value.int .u8 (dig x)))[j]'(by simp [hcs, hjl]) = Value.int .u8 (dig x) := by simp
        rw [e2, List.drop_set_of_lt (by omega)]
      have hC : Kd.C (Kd.int .u8) (wr.setCell ⟨w.heap.size, j, none⟩ (.int .u8 (dig x))) (some ⟨w.heap.size, j, none⟩) (65 - j) (dig x :: t) := by
        refine Kd.C_of_reads (d := 0) (h1 := fun _ => rfl) ⟨by rw [List.length_cons]; omega, by omega, fun _ => ⟨_, rfl, fun k hk => ?_⟩⟩
        have ea : (⟨w.heap.size, j, none⟩ : Addr).add k = ⟨w.heap.size, j + k, none⟩ := by unfold Addr.add; split <;> simp_all
        rw [ea, cell_of_row _ _ _ _ _ _ hbk]
        have h1 := congrArg (fun l => l[k]?) hcur
        have hk2 : k < (dig x :: t).length := by rw [List.length_cons]; omega
        simp only [List.getElem?_drop, Array.getElem?_toList, List.getElem?_map] at h1
        rw [h1, List.getD_eq_getElem?_getD, List.getElem?_eq_getElem hk2]
        rfl
      have hstr := Kd.C_string (P := Tryd.prog) (c := 65 - j) Tryd.underlying22 Tryd.underlying5 Tryd.underlying9 hC
      have hfin : hexN x ++ t = dig x :: t := by rw [hexN_small x hx]; rfl
      generalize dig x = dx at *
      go_wp2_with fail
      go_ret2
      exact ⟨rfl, hb2⟩
    · have hx1 : 16 ≤ (x : Int) := by omega
      obtain ⟨d, hd, hd1, hd16, hd2⟩ : ∃ d : Nat, bits BinOp.and IntKind.u64 (x : Int) 15 = (d : Int) ∧ Hid (d = x % 16) ∧ d < 16 ∧ (d : Int) < 36 := ⟨x % 16, u64_and15 x (by omega), Lib.hid rfl, by omega, by omega⟩
      go_wp2
      go_roundw
      case rel =>
        refine ⟨x / 16, dig d :: t, cur.setIfInBounds j (.int .u8 (dig d)), by simp, by simp; omega, ?_, by simp [hcs], ?_, hb.setCell (p := ⟨w.heap.size, j, none⟩) (Nat.le_refl _) _, ?_, by rw [List.length_cons]; omega⟩
        · rw [digs d (show d < 36 by omega) hd16]
          exact blk_set hg j _
        · have e1 : 65 - (dig d :: t).length = j := by simp; omega
          rw [e1, List.map_cons, ← hct, show 65 - t.length = j + 1 from by omega, Array.toList_setIfInBounds, List.drop_eq_getElem_cons (by simp [hcs, hjl])]
          have e2 : (cur.toList.set j (Value.int .u8 (dig d)))[j]'(by simp [hcs, hjl]) = Value.int .u8 (dig d) := by simp
          rw [e2, List.drop_set_of_lt (by omega)]
        · rw [hhex, hexN_big x hx, hd1.out]
          simp
      case measure => simp; omega
theorem format80_calls (u : Nat) (hu : u < 65536) (w : World) (h : TabOK w) : Calls Tryd.prog 80 #[.int .u64 (u : Int), .int .i64 16] w fun e w' => e = .returned (.string (strOfNums (hexN u))) ∧ Below w.heap.size w w' := by
  go_enter Tryd.func80, Tryd.ntmps80
  go_wp2_with (go_at_call 93; refine (bits_calls u hu _ h).mono ?_; rintro e w' ⟨rfl, hb⟩)
  go_ret
  exact ⟨rfl, hb⟩
theorem format_calls (u : Nat) (hu : u < 65536) (w : World) (h : TabOK w) : Calls Tryd.prog 60 #[.int .u64 (u : Int), .int .i64 16] w fun e w' => e = .returned (.string (strOfNums (hexN u))) ∧ Below w.heap.size w w' := by
  go_enter Tryd.func60, Tryd.ntmps60
  go_wp2_with (go_at_call 80; refine (format80_calls u hu _ h).mono ?_; rintro e w' ⟨rfl, hb⟩)
  go_ret
  exact ⟨rfl, hb⟩
end Go.Proofs.YtdpnnglfaofjeaaDoor.U
namespace Go.Proofs.YtdpnnglfaofjeaaDoor.U
open Go.RowKit Go.Proofs.YtdpnnglfaofjeaaDoorW.PrintWords Go.Proofs.YtdpnnglfaofjeaaDoorW.PrintLast Go.Proofs.YtdpnnglfaofjeaaDoorW.PrintMore
set_option linter.unusedVariables false
set_option linter.unusedSimpArgs false
set_option maxRecDepth 100000
section
variable {ops : Array Oper} {rest : List Oper} {o : Oper} {a : Act} {Q : Exit → Act → World → Prop}
theorem appB {w0 W : World} (hgd : o.guard = none) (s x : Operand) (ho : o.op = .call { callee := .builtin .append, args := #[s, x], argTypes := #[22, 22] })
    (v : Value) (xs ys : List Int) (A : Option Addr) (m c : Nat) (hs : a.eval s = v) (hx : a.eval x = .slice A m c)
    (HO : Kd.R (Kd.int .u8) 5 W w0.heap.size (fun _ => True) v xs) (HR : Kd.C (Kd.int .u8) W A m ys) (HB : Below w0.heap.size w0 W) (hl : xs.length + m ≤ 140737488355328)
    (h : ∀ v1 w1, Kd.R (Kd.int .u8) 5 w1 w0.heap.size (fun _ => True) v1 (xs ++ ys) → Below w0.heap.size w0 w1 → W.grownBy w1 v.ownBlock → (v1.ownBlock = v.ownBlock ∨ ∃ b, v1.ownBlock = some b ∧ W.heap.size ≤ b) → wpList Tryd.prog ops Q rest (a.put o.dst v1) w1) :
    wpList Tryd.prog ops Q (o :: rest) a W :=
  Kd.R_append_rows (Kd.int .u8) (w0 := w0) w0.heap.size hgd s x 22 5 (.int .u8 0) 1 ho Tryd.underlying22 info5 rfl (by decide) (by omega) v xs ys A m c (fun _ => True) (fun _ => False) hs hx
    HO HR (fun _ _ h => h) (fun _ h => h.elim) (fun _ _ => trivial) HB HB.size (by omega) h
end
theorem run_append_str_at {P : Program} (w : World) (base : Nat) (t u ty e : TypeId) (i : TypeInfo) (ht : P.underlying t = some (.slice e)) (hu : P.underlying u = some .string) (hi : P.info? e = some i) (hz : i.zero = some (.int .u8 0))
    (hsize : i.size = 1) (hby : i.bytes = 1) (v : Value) (n : Nat) (xs : List Value) (hown : w.ownsRow base e 1 v n xs) (s : ByteArray) (hbytes : n + s.size ≤ 140737488355328) (hbase : base ≤ w.heap.size) :
    ∃ v' w', (Builtin.append_ #[t, u] ty #[v, .string s]).run P w = .ok v' w' ∧ w'.ownsRow base e 1 v' (n + s.size) (xs ++ Lib.strCells s) ∧ w.grownBy w' v.ownBlock ∧
      (v'.ownBlock = v.ownBlock ∨ ∃ b, v'.ownBlock = some b ∧ w.heap.size ≤ b) := by
  have h63 : n + s.size ≤ maxLen := by simp only [maxLen]; omega
  rcases hown.2 with ⟨rfl, rfl⟩ | ⟨g, cap, cur, rfl, hbg, hg, hnc, hcm, hcs, htake⟩
  · have hown' : w.ownsRow w.heap.size e 1 (.slice none 0 0) 0 xs := ⟨hown.1, .inl ⟨rfl, rfl⟩⟩
    obtain ⟨v', w', hr, h1, h2, _⟩ := Lib.run_append_own_string (P := P) w w.heap.size t u ty e i ht hu hi hz hsize hby _ 0 xs hown' s h63 hbytes (Nat.le_refl _)
    refine ⟨v', w', hr, own_weaken h1 hbase, h2, ?_⟩
    cases hv : v'.ownBlock with
    | none => exact .inl rfl
    | some k => exact .inr ⟨k, rfl, own_base h1 k hv⟩
  · obtain ⟨v', w', hr, h1, h2, _⟩ := Lib.run_append_own_string (P := P) w base t u ty e i ht hu hi hz hsize hby _ n xs hown s h63 hbytes hbase
    refine ⟨v', w', hr, h1, h2, ?_⟩
    by_cases hroom : n + s.size ≤ cap
    · have hr2 := Lib.run_append_room_string (P := P) w t u ty e i ht hu hi hsize g n cap cur hg s hroom (by rw [hcs]; omega)
      rw [hr] at hr2
      injection hr2 with hr2 _
      rw [hr2]
      exact .inl rfl
    · have holds : ∀ j u, xs[j]? = some u → w.cell? ((⟨g, 0, none⟩ : Addr).add j) = some u := hown.cells (g := g) rfl
      have hr2 := Lib.run_append_grow_string (P := P) w t u ty e i _ ht hu hi hz ⟨g, 0, none⟩ n cap xs (by rw [hsize]; exact hown.1) holds s (by omega) (by omega)
        (growslice_fits (by omega) (by rw [hby]; omega))
      rw [hr] at hr2
      injection hr2 with hr2 _
      rw [hr2]
      exact .inr ⟨_, rfl, Nat.le_refl _⟩
section
variable {ops : Array Oper} {rest : List Oper} {o : Oper} {a : Act} {Q : Exit → Act → World → Prop}
theorem appS {w0 W : World} (hgd : o.guard = none) (s x : Operand) (ho : o.op = .call { callee := .builtin .append, args := #[s, x], argTypes := #[22, 9] })
    (v : Value) (xs : List Int) (y : ByteArray) (hs : a.eval s = v) (hx : a.eval x = .string y)
    (HO : Kd.R (Kd.int .u8) 5 W w0.heap.size (fun _ => True) v xs) (HB : Below w0.heap.size w0 W) (hl : xs.length + y.size ≤ 140737488355328)
    (h : ∀ v1 w1, Kd.R (Kd.int .u8) 5 w1 w0.heap.size (fun _ => True) v1 (xs ++ bytesOf y) → Below w0.heap.size w0 w1 → W.grownBy w1 v.ownBlock → (v1.ownBlock = v.ownBlock ∨ ∃ b, v1.ownBlock = some b ∧ W.heap.size ≤ b) → wpList Tryd.prog ops Q rest (a.put o.dst v1) w1) :
    wpList Tryd.prog ops Q (o :: rest) a W := by
  obtain ⟨i0, hi, hz0, hz1, hz2⟩ := info_parts info5
  have HO' := Kd.own_of_R HO
  obtain ⟨v1, w1, hr, hown, hg, hat⟩ := run_append_str_at (P := Tryd.prog) W w0.heap.size 22 9 o.type 5 i0 Tryd.underlying22 Tryd.underlying9 hi hz0 hz1 hz2 v xs.length _ HO' y hl HB.size
  refine wpList_plain hgd fun K hK => ?_
  unfold Oper.wp execOp
  simp only [ho, resolve, invoke, builtin, Sem.run_bind, Sem.run_pure, Result.andThen_ok, List.map_toArray, List.map_cons, List.map_nil, hs, hx, hr]
  refine hK _ _ (h v1 w1 (Kd.R_of_own ?_ (fun _ _ => trivial)) (HB.grown hg HB.size (own_base HO')) hg hat)
  have hl2 : (xs ++ bytesOf y).length = xs.length + y.size := by rw [List.length_append, bytesOf_length]
  have hc : encs (Value.int .u8) (xs ++ bytesOf y) = encs (Value.int .u8) xs ++ Lib.strCells y := by
    rw [encs_append]
    congr 1
    simp [encs, bytesOf, Lib.strCells]
  rw [hl2, hc]
  exact hown
end
theorem R_empty (W : World) (base : Nat) (hb : base ≤ W.heap.size) : Kd.R (Kd.int .u8) 5 (W.alloc (.cells #[] 5)) base (fun _ => True) (.slice (some ⟨W.heap.size, 0, none⟩) 0 0) [] :=
  Kd.R_of_own (enc := Value.int .u8) (h1 := fun _ => rfl) (own_lit_of W base 5 ([] : List Int) hb (by simp)) (fun _ _ => trivial)
abbrev OB (w w' : World) (v : Value) (l : List Int) : Prop := Kd.R (Kd.int .u8) 5 w' w.heap.size (fun _ => True) v l
theorem blk_lt' {w : World} {g : Nat} {o : Obj} (h : w.heap[g]? = some o) : g < w.heap.size := (Array.getElem?_eq_some_iff.1 h).1
def RB (B : Nat) (W : World) (v : Value) (l : List Int) : Prop := ∃ A c, v = .slice A l.length c ∧ l.length ≤ c ∧ Kd.F (Kd.int .u8) W (fun k => B ≤ k) A l.length l
theorem RB.nil (B : Nat) (W : World) : RB B W (.slice none 0 0) [] := ⟨none, 0, rfl, Nat.le_refl _, Kd.F_nil _ _ _⟩
theorem RB.of_OB {w w' : World} {v : Value} {l : List Int} (h : OB w w' v l) : RB w.heap.size w' v l := by
  obtain ⟨A, c, rfl, hc, _⟩ := Kd.R_reads h
  exact ⟨A, c, rfl, hc, Kd.F_mono (Kd.R_F (Kd.R_bound h)) (fun k hk => hk.2.1)⟩
theorem RB.step {B : Nat} {W W1 : World} {v : Value} {l : List Int} (h : RB B W v l) (hm : ∀ k, B ≤ k → k < W.heap.size → W1.heap[k]? = W.heap[k]?) : RB B W1 v l := by
  obtain ⟨A, c, hv, hc, hF⟩ := h
  exact ⟨A, c, hv, hc, Kd.F_step hF hm⟩
theorem RB.below {B : Nat} {W W1 : World} {v : Value} {l : List Int} (h : RB B W v l) (hb : Below W.heap.size W W1) : RB B W1 v l := h.step (fun k _ hk => hb.block k hk)
theorem RB.lower {B B' : Nat} {W : World} {v : Value} {l : List Int} (h : RB B W v l) (hB : B' ≤ B) : RB B' W v l := by
  obtain ⟨A, c, hv, hc, hF⟩ := h
  exact ⟨A, c, hv, hc, Kd.F_mono hF (fun k hk => Nat.le_trans hB hk)⟩
theorem RB.reads {B : Nat} {W : World} {v : Value} {l : List Int} (h : RB B W v l) : ∃ A c, v = .slice A l.length c ∧ l.length ≤ c ∧ Kd.C (Kd.int .u8) W A l.length l := by
  obtain ⟨A, c, hv, hc, hF⟩ := h
  exact ⟨A, c, hv, hc, Kd.F_now hF⟩
theorem RB.lit {B g c : Nat} {W : World} {l : List Int} {fr : Nat × Nat} (hg : W.heap[g]? = some (.cells (nums .u8 l).toArray 5 fr)) (hB : B ≤ g) (hl : l.length ≤ 9223372036854775807) (hc : l.length ≤ c) : RB B W (.slice (some ⟨g, 0, none⟩) l.length c) l := by
  refine ⟨_, _, rfl, hc, fun W' hW => ?_⟩
  have hg' := (hW g hB (blk_lt' hg)).trans hg
  refine Kd.C_of_reads (d := 0) (h1 := fun _ => rfl) ⟨rfl, hl, fun hn => ⟨_, rfl, fun j hj => ?_⟩⟩
  rw [add_plain, cell_of_row W' g j _ _ _ hg']
  simp [nums, List.getD_eq_getElem?_getD, hj]
theorem size_set (w : World) (p : Addr) (v : Value) : (w.setCell p v).heap.size = w.heap.size := by simp [World.setCell]
theorem conv_const (w : World) (p : Addr) (v : Value) (C : Array Value) (n c : Nat) :
    (convert 22 22 (.slice (some ⟨w.heap.size, 0, none⟩) n c)).run Tryd.prog ((w.setCell p v).alloc (.cells C 5)) = .ok (.slice (some ⟨w.heap.size, 0, none⟩) n c) ((w.setCell p v).alloc (.cells C 5 (C.size, C.size + 1))) := by
  have h := Lib.run_convert_bytes_const (P := Tryd.prog) (w.setCell p v) 22 5 C n c Tryd.underlying22 Tryd.underlying5
  rwa [size_set] at h
end Go.Proofs.YtdpnnglfaofjeaaDoor.U
namespace Go.Proofs.YtdpnnglfaofjeaaDoor.U
open Go.RowKit Go.Proofs.YtdpnnglfaofjeaaDoorW.PrintWords Go.Proofs.YtdpnnglfaofjeaaDoorW.PrintLast Go.Proofs.YtdpnnglfaofjeaaDoorW.PrintMore
set_option linter.unusedVariables false
set_option linter.unusedSimpArgs false
set_option maxRecDepth 100000
def AppIs (w0 w : World) (P0 : Nat → Prop) (l : List Int) (e : Ending) (w' : World) : Prop :=
  ∃ v0_ : Value, e = .returned (v0_) ∧ Kd.R (Kd.int .u8) 5 w' w0.heap.size (fun k_ => (P0 k_ ∨ w.heap.size ≤ k_)) v0_ l ∧ Below w0.heap.size w0 w' ∧ Kept w w' (fun k_ => P0 k_)
theorem app_fin {w0 w w1 : World} {P0 : Nat → Prop} {u v1 : Value} {l0 l1 : List Int} {o : Obj} (ho0 : Kd.R (Kd.int .u8) 5 w w0.heap.size P0 u l0) (hB : Below w0.heap.size w0 w) (ho1 : Kd.R (Kd.int .u8) 5 w1 w0.heap.size (fun _ => True) v1 l1)
    (hb1 : Below w0.heap.size w0 w1) (hg : (w.alloc o).grownBy w1 u.ownBlock) (hat : v1.ownBlock = u.ownBlock ∨ ∃ b, v1.ownBlock = some b ∧ (w.alloc o).heap.size ≤ b) : AppIs w0 w P0 l1 (.returned v1) w1 := by
  have hsz : w.heap.size ≤ (w.alloc o).heap.size := by simp
  refine ⟨v1, rfl, Kd.R_of_own (enc := Value.int .u8) (h1 := fun _ => rfl) (Kd.own_of_R ho1) (fun k hk => ?_), hb1, ?_⟩
  · rcases hat with hat | ⟨b, hb, hle⟩
    · exact .inl (ho0.1 k (by rw [← hat]; exact hk))
    · right
      rw [hb] at hk
      injection hk with hk
      omega
  · exact Kept.of_grown hg (Kept.alloc (Kept.refl w _) o) (fun k hk => .inl (ho0.1 k hk))
theorem lit_C (W : World) (l : List Int) (C : Array Value) (hC : C = (nums .u8 l).toArray) (hl : l.length ≤ 9223372036854775807) : Kd.C (Kd.int .u8) (W.alloc (.cells C 5)) (some ⟨W.heap.size, 0, none⟩) l.length l := by
  subst hC
  obtain ⟨A, c, he, hc, hF⟩ := RB.lit (B := 0) (c := l.length) (heap_alloc_new W (.cells (nums .u8 l).toArray 5)) (Nat.zero_le _) hl (Nat.le_refl _)
  injection he with h1 h2 h3
  subst h1
  exact Kd.F_now hF
set_option maxHeartbeats 4000000 in
theorem na_calls (P0 : Nat → Prop) (u : Value) (l0 : List Int) (r : Int) (w0 w : World) (hB : Below w0.heap.size w0 w) (ho0 : Kd.R (Kd.int .u8) 5 w w0.heap.size P0 u l0) (hr0 : -2147483648 ≤ r) (hr1 : r ≤ 2147483647) (hna : r < 0 ∨ 128 ≤ r)
    (hl : l0.length + 4 ≤ 140737488355328) : Calls Tryd.prog 84 #[u, .int .i32 r] w (AppIs w0 w P0 (l0 ++ Lib.encodeRuneZ r)) := by
  have hoT := Kd.R_mono (ok' := fun _ => True) ho0 (fun _ _ => trivial)
  have hBa := fun o => hB.alloc hB.size o
  have fin : ∀ (ys : List Int) (o : Obj) v1 w1, l0 ++ Lib.encodeRuneZ r = l0 ++ ys → Kd.R (Kd.int .u8) 5 w1 w0.heap.size (fun _ => True) v1 (l0 ++ ys) → Below w0.heap.size w0 w1 → (w.alloc o).grownBy w1 u.ownBlock →
      (v1.ownBlock = u.ownBlock ∨ ∃ b, v1.ownBlock = some b ∧ (w.alloc o).heap.size ≤ b) → AppIs w0 w P0 (l0 ++ Lib.encodeRuneZ r) (.returned v1) w1 := fun ys o v1 w1 he h1 h2 h3 h4 => by
    rw [he]; exact app_fin ho0 hB h1 h2 h3 h4
  by_cases c1 : 0 ≤ r ∧ r ≤ 2047
  · obtain ⟨h0, h1⟩ : 128 ≤ r ∧ r ≤ 2047 := by omega
    have he := Lib.encodeRuneZ_two h0 h1
    have HE := Lib.hid he
    clear he hna c1
    have FIN := Lib.hid fin
    clear fin
    go_enter Tryd.func84, Tryd.ntmps84
    go_wp2_with (at_builtin; refine appB (w0 := w0) rfl _ _ rfl u l0 [192 + r / 64, 128 + r % 64] _ _ _ rfl rfl (Kd.R_alloc hoT _) (lit_C w [192 + r / 64, 128 + r % 64] _ rfl (by simp)) (hBa _) (by simp; omega) ?_; intro v1 w1 ho1 hb1 hg1 hat1)
    go_ret
    exact FIN.out [192 + r / 64, 128 + r % 64] _ v1 w1 (by rw [HE.out]) ho1 hb1 hg1 hat1
  · by_cases c2 : (2048 ≤ r ∧ r < 55296)
    · obtain ⟨h0, h1⟩ := c2
      have he := Lib.encodeRuneZ_three (r := r) (.inl ⟨h0, h1⟩)
      have HE := Lib.hid he
      clear he hna c1
      have FIN := Lib.hid fin
      clear fin
      go_enter Tryd.func84, Tryd.ntmps84
      go_wp2_with (at_builtin; refine appB (w0 := w0) rfl _ _ rfl u l0 [224 + r / 4096, 128 + r / 64 % 64, 128 + r % 64] _ _ _ rfl rfl (Kd.R_alloc hoT _) (lit_C w [224 + r / 4096, 128 + r / 64 % 64, 128 + r % 64] _ rfl (by simp)) (hBa _) (by simp; omega) ?_; intro v1 w1 ho1 hb1 hg1 hat1)
      go_ret
      exact FIN.out [224 + r / 4096, 128 + r / 64 % 64, 128 + r % 64] _ v1 w1 (by rw [HE.out]) ho1 hb1 hg1 hat1
    · by_cases c3 : 57343 < r ∧ r ≤ 65535
      · obtain ⟨h0, h1⟩ := c3
        have he := Lib.encodeRuneZ_three (r := r) (.inr ⟨h0, h1⟩)
        have HE := Lib.hid he
        clear he hna c1 c2
        have FIN := Lib.hid fin
        clear fin
        go_enter Tryd.func84, Tryd.ntmps84
        go_wp2_with (at_builtin; refine appB (w0 := w0) rfl _ _ rfl u l0 [224 + r / 4096, 128 + r / 64 % 64, 128 + r % 64] _ _ _ rfl rfl (Kd.R_alloc hoT _) (lit_C w [224 + r / 4096, 128 + r / 64 % 64, 128 + r % 64] _ rfl (by simp)) (hBa _) (by simp; omega) ?_; intro v1 w1 ho1 hb1 hg1 hat1)
        go_ret
        exact FIN.out [224 + r / 4096, 128 + r / 64 % 64, 128 + r % 64] _ v1 w1 (by rw [HE.out]) ho1 hb1 hg1 hat1
      · by_cases c4 : 65536 ≤ r ∧ r ≤ 1114111
        · obtain ⟨h0, h1⟩ := c4
          have he : Lib.encodeRuneZ r = [240 + r / 262144, 128 + r / 4096 % 64, 128 + r / 64 % 64, 128 + r % 64] := by
            unfold Lib.encodeRuneZ; rw [if_neg (by omega), if_neg (by omega), if_neg (by omega), if_pos ⟨h0, h1⟩]
          have HE := Lib.hid he
          clear he hna c1 c2 c3
          have FIN := Lib.hid fin
          clear fin
          go_enter Tryd.func84, Tryd.ntmps84
          go_wp2_with (at_builtin; refine appB (w0 := w0) rfl _ _ rfl u l0 [240 + r / 262144, 128 + r / 4096 % 64, 128 + r / 64 % 64, 128 + r % 64] _ _ _ rfl rfl (Kd.R_alloc hoT _) (lit_C w [240 + r / 262144, 128 + r / 4096 % 64, 128 + r / 64 % 64, 128 + r % 64] _ rfl (by simp)) (hBa _) (by simp; omega) ?_; intro v1 w1 ho1 hb1 hg1 hat1)
          go_ret
          exact FIN.out [240 + r / 262144, 128 + r / 4096 % 64, 128 + r / 64 % 64, 128 + r % 64] _ v1 w1 (by rw [HE.out]) ho1 hb1 hg1 hat1
        · have he : Lib.encodeRuneZ r = [239, 191, 189] := by
            unfold Lib.encodeRuneZ; rw [if_neg (by omega), if_neg (by omega), if_neg (by omega), if_neg c4]
          have HE := Lib.hid he
          clear he
          have FIN := Lib.hid fin
          clear fin
          rcases (show r < 0 ∨ (55296 ≤ r ∧ r ≤ 57343) ∨ 1114111 < r by omega) with h | ⟨h, h'⟩ | h
          all_goals
            clear hna c1 c2 c3 c4
            go_enter Tryd.func84, Tryd.ntmps84
            go_wp2_with (at_builtin; refine appB (w0 := w0) rfl _ _ rfl u l0 [239, 191, 189] _ _ _ rfl rfl (Kd.R_alloc hoT _) (lit_C w [239, 191, 189] _ rfl (by simp)) (hBa _) (by simp; omega) ?_; intro v1 w1 ho1 hb1 hg1 hat1)
            go_ret
            exact FIN.out [239, 191, 189] _ v1 w1 (by rw [HE.out]) ho1 hb1 hg1 hat1
theorem digs16j (d : Nat) (h : d < (⟨#[48, 49, 50, 51, 52, 53, 54, 55, 56, 57, 97, 98, 99, 100, 101, 102]⟩ : ByteArray).size) : ((((⟨#[48, 49, 50, 51, 52, 53, 54, 55, 56, 57, 97, 98, 99, 100, 101, 102]⟩ : ByteArray)[d]'h).toNat : Nat) : Int) = dig d := by
  have h1 : ∀ i : Fin 16, ((((⟨#[48, 49, 50, 51, 52, 53, 54, 55, 56, 57, 97, 98, 99, 100, 101, 102]⟩ : ByteArray)[i.1]'i.2).toNat : Nat) : Int) = dig i.1 := by decide +kernel
  exact h1 ⟨d, h⟩
theorem lit_strj (W : World) (l : List Int) (C : Array Value) (hC : C = (nums .u8 l).toArray) (n : Nat) (hn : n = l.length) (hl : l.length ≤ 9223372036854775807) :
    (convert 22 9 (.slice (some ⟨W.heap.size, 0, none⟩) n n)).run Tryd.prog (W.alloc (.cells C 5)) = .ok (.string (strOfNums l)) (W.alloc (.cells C 5)) := by
  subst hC
  subst hn
  obtain ⟨A, c, he, hc, hF⟩ := RB.lit (B := 0) (c := l.length) (heap_alloc_new W (.cells (nums .u8 l).toArray 5)) (Nat.zero_le _) hl (Nat.le_refl _)
  injection he with h1 h2 h3
  subst h1
  subst h3
  exact Kd.C_string (P := Tryd.prog) Tryd.underlying22 Tryd.underlying5 Tryd.underlying9 (Kd.F_now hF)
end Go.Proofs.YtdpnnglfaofjeaaDoor.U
namespace Go.Proofs.YtdpnnglfaofjeaaDoor.PJh
open Go.RowKit Go.Proofs.YtdpnnglfaofjeaaDoorW.PrintWords Go.Proofs.YtdpnnglfaofjeaaDoorW.PrintLast Go.Proofs.YtdpnnglfaofjeaaDoorW.PrintMore
attribute [local go_sem] max2_int min2_int max_two min_two max_three min_three max_four min_four   -- for this text's walks alone
set_option linter.unusedVariables false
set_option linter.unusedSimpArgs false
def errW : Option Int → Value
  | none => .nilIface
  | some c => .iface 0 (.int .i64 c)
theorem errW_none : errW none = .nilIface := rfl
theorem errW_some (c : Int) : errW (some c) = .iface 0 (.int .i64 c) := rfl
theorem info5 : (Tryd.prog.info? 5).map (fun i => (i.zero, i.size, i.bytes)) = some (some (.int .u8 0), 1, 1) := by kernel_rfl
end Go.Proofs.YtdpnnglfaofjeaaDoor.PJh
namespace Go.Proofs.YtdpnnglfaofjeaaDoor.PJh
open Go.RowKit Go.Proofs.YtdpnnglfaofjeaaDoorW.PrintWords Go.Proofs.YtdpnnglfaofjeaaDoorW.PrintLast Go.Proofs.YtdpnnglfaofjeaaDoorW.PrintMore
attribute [local go_sem] max2_int min2_int max_two min_two max_three min_three max_four min_four   -- for this text's walks alone
set_option linter.unusedVariables false
set_option linter.unusedSimpArgs false
def bobbinref06_UTF8.j0 : Nat → Int → Bool → Option (ByteArray)
  | 0, _, _ => none
  | k + 1, x0, x16 => if x16 = true then (some (⟨#[239, 191, 189]⟩ : ByteArray)) else (if x0 < 128 then (some (strOfNums (([(x0) % 256] : List Int)))) else (if x0 < 2048 then (some (strOfNums (([(Go.bits .or .i64 192 (x0 / 64)) % 256, (Go.bits .or .i64 128 (Go.bits .and .i64 x0 63)) % 256] : List Int)))) else (if x0 < 65536 then (some (strOfNums (([(Go.bits .or .i64 224 (x0 / 4096)) % 256, (Go.bits .or .i64 128 (Go.bits .and .i64 (x0 / 64) 63)) % 256, (Go.bits .or .i64 128 (Go.bits .and .i64 x0 63)) % 256] : List Int)))) else (some (strOfNums (([(Go.bits .or .i64 240 (x0 / 262144)) % 256, (Go.bits .or .i64 128 (Go.bits .and .i64 (x0 / 4096) 63)) % 256, (Go.bits .or .i64 128 (Go.bits .and .i64 (x0 / 64) 63)) % 256, (Go.bits .or .i64 128 (Go.bits .and .i64 x0 63)) % 256] : List Int)))))))
def bobbinref06_UTF8.f (k : Nat) (a0 : Int) : Option (ByteArray) := if a0 < 0 then (bobbinref06_UTF8.j0 k a0 true) else (if a0 > 1114111 then (bobbinref06_UTF8.j0 k a0 true) else (if a0 ≥ 55296 then (bobbinref06_UTF8.j0 k a0 (decide (a0 ≤ 57343))) else (bobbinref06_UTF8.j0 k a0 false)))
set_option maxHeartbeats 8000000 in
set_option maxRecDepth 100000 in
theorem bobbinref06_UTF8.calls (k : Nat) (a0 : Int) (r : ByteArray) (w : World) (h : bobbinref06_UTF8.f k a0 = some r) :
    Calls Tryd.prog 65 #[.int .i64 a0] w fun e w' => e = .returned (.string r) ∧ Below w.heap.size w w' := by
  have HB := Aside0.mk (Below.refl w.heap.size w)
  have H : (if a0 < 0 then (bobbinref06_UTF8.j0 k a0 true) else (if a0 > 1114111 then (bobbinref06_UTF8.j0 k a0 true) else (if a0 ≥ 55296 then (bobbinref06_UTF8.j0 k a0 (decide (a0 ≤ 57343))) else (bobbinref06_UTF8.j0 k a0 false)))) = some r := h
  clear h
  have HC2 := Aside0.mk H
  clear H
  go_enter Tryd.func65, Tryd.ntmps65
  go_upto_region 1 with (fail)
  go_cut [16] (fun v16 wc => ∃ (kq : Nat) (x16_1 : Bool), v16 = .bool x16_1 ∧ Aside0 (bobbinref06_UTF8.j0 kq a0 x16_1 = some r) ∧ Aside0 (kq ≤ k) ∧ Aside0 (Below w.heap.size w wc))
  case first =>
    have H := HC2.out
    clear HC2
    by_cases c3 : a0 < 0
    · rw [if_pos c3] at H
      have c3b0 : decide (a0 < 0) = true := decide_eq_true c3
      clear c3
      (first | rw [c3b0] | (simp only [i64_w, i32_w]; rw [c3b0]) | skip)
      have H' := Aside0.mk H
      clear H
      go_wp2
      go_meet
      case rel => exact ⟨_, (true), (by first | rfl | (simp; done) | (simp [*]; done)), H', ⟨by first | omega | exact Nat.le_refl _⟩, ⟨by repeat (first | (with_reducible first | exact HB.out | apply below_alloc | apply pw_below_drewN | apply below_drew1) | exact HB.out)⟩⟩
    · rw [if_neg c3] at H
      have c3b0 : decide (a0 < 0) = false := decide_eq_false c3
      clear c3
      (first | rw [c3b0] | (simp only [i64_w, i32_w]; rw [c3b0]) | skip)
      by_cases c4 : a0 > 1114111
      · rw [if_pos c4] at H
        have c4b0 : decide (1114111 < a0) = true := decide_eq_true c4
        clear c4
        have H' := Aside0.mk H
        clear H
        go_wp2
        go_meet
        case rel => exact ⟨_, (true), (by first | rfl | (simp; done) | (simp [*]; done)), H', ⟨by first | omega | exact Nat.le_refl _⟩, ⟨by repeat (first | (with_reducible first | exact HB.out | apply below_alloc | apply pw_below_drewN | apply below_drew1) | exact HB.out)⟩⟩
      · rw [if_neg c4] at H
        have c4b0 : decide (1114111 < a0) = false := decide_eq_false c4
        clear c4
        by_cases c5 : a0 ≥ 55296
        · rw [if_pos c5] at H
          have c5b0 : decide (55296 ≤ a0) = true := decide_eq_true c5
          clear c5
          have H' := Aside0.mk H
          clear H
          go_wp2
          go_meet
          case rel => exact ⟨_, (decide (a0 ≤ 57343)), (by first | rfl | (simp; done) | (simp [*]; done)), H', ⟨by first | omega | exact Nat.le_refl _⟩, ⟨by repeat (first | (with_reducible first | exact HB.out | apply below_alloc | apply pw_below_drewN | apply below_drew1) | exact HB.out)⟩⟩
        · rw [if_neg c5] at H
          have c5b0 : decide (55296 ≤ a0) = false := decide_eq_false c5
          clear c5
          have H' := Aside0.mk H
          clear H
          go_wp2
          go_meet
          case rel => exact ⟨_, (false), (by first | rfl | (simp; done) | (simp [*]; done)), H', ⟨by first | omega | exact Nat.le_refl _⟩, ⟨by repeat (first | (with_reducible first | exact HB.out | apply below_alloc | apply pw_below_drewN | apply below_drew1) | exact HB.out)⟩⟩
  case rest =>
    clear HC2
    try clear p2
    try clear c3
    try clear c3b0
    try clear c4
    try clear c4b0
    try clear c5
    try clear c5b0
    obtain ⟨kq, x16_1, rfl, HA, HJ1, HB⟩ := hcut
    cases kq with
    | zero => exact absurd HA.out (by simp [bobbinref06_UTF8.j0])
    | succ kj1 =>
      have H := HA.out
      clear HA
      simp only [bobbinref06_UTF8.j0] at H
      by_cases c6 : x16_1 = true
      · subst c6
        have H1 : (some (⟨#[239, 191, 189]⟩ : ByteArray)) = some r := by rw [if_pos rfl] at H; exact H
        clear H
        have H := H1
        clear H1
        obtain rfl := Option.some.inj H
        go_wp2
        go_ret
        exact ⟨by first | rfl | (simp [errW_none, errW_some] <;> rfl) | (simp [*, errW_none, errW_some] <;> rfl), by repeat (first | (with_reducible first | exact HB.out | apply below_alloc | apply pw_below_drewN | apply below_drew1) | exact HB.out)⟩
      · replace c6 := Bool.eq_false_iff.mpr c6
        subst c6
        have H1 : (if a0 < 128 then (some (strOfNums (([(a0) % 256] : List Int)))) else (if a0 < 2048 then (some (strOfNums (([(Go.bits .or .i64 192 (a0 / 64)) % 256, (Go.bits .or .i64 128 (Go.bits .and .i64 a0 63)) % 256] : List Int)))) else (if a0 < 65536 then (some (strOfNums (([(Go.bits .or .i64 224 (a0 / 4096)) % 256, (Go.bits .or .i64 128 (Go.bits .and .i64 (a0 / 64) 63)) % 256, (Go.bits .or .i64 128 (Go.bits .and .i64 a0 63)) % 256] : List Int)))) else (some (strOfNums (([(Go.bits .or .i64 240 (a0 / 262144)) % 256, (Go.bits .or .i64 128 (Go.bits .and .i64 (a0 / 4096) 63)) % 256, (Go.bits .or .i64 128 (Go.bits .and .i64 (a0 / 64) 63)) % 256, (Go.bits .or .i64 128 (Go.bits .and .i64 a0 63)) % 256] : List Int))))))) = some r := by rw [if_neg (show ¬ (false = true) by decide)] at H; exact H
        clear H
        have H := H1
        clear H1
        by_cases c7 : a0 < 128
        · rw [if_pos c7] at H
          have c7b0 : decide (a0 < 128) = true := decide_eq_true c7
          clear c7
          obtain ⟨y193, hy193⟩ : ∃ y_ : List Int, y_ = (([(a0) % 256] : List Int)) := ⟨_, rfl⟩
          replace H : (some (strOfNums y193)) = some r := by first | (rw [hy193]; with_reducible exact H) | (have H2_ := (Option.bind_some _ _).symm.trans H; rw [hy193]; with_reducible exact H2_) | (have H2_ := (Option.bind_some _ _).symm.trans H; with_reducible exact H2_) | with_reducible exact H | (rw [hy193]; exact H) | exact H
          have Ny193 := Aside0.mk hy193
          clear hy193
          obtain rfl := Option.some.inj H
          go_wp2_with (first | ((with_reducible refine gate_dst (N := 21) rfl ?_); refine Kd.R_lit (Kd.int .u8) _ 5 ?hg (N := 21) ?hd (xs := ([(a0) % 256] : List Int)) (inner := [.int .u8 ((a0) % 256)]) (ok := fun _ => True) (okp := fun _ => True) ?hr ?hp (fun _ hk => hk) trivial (Below.refl _ _) (Nat.le_refl _) (by simp) ?_; (case hd => rfl); (case hg => rfl); (case hr => first | (go_simp; done) | (go_simp; rfl)); (case hp => exact (Reps.one (show Kd.M (Kd.int .u8) _ _ _ ((a0) % 256) [.int .u8 ((a0) % 256)] from rfl) (Reps.none _ _))); intro v194 w8 ho9 hb hg_ hnew_; clear hg_ hnew_; (first | rw [← Ny193.out] at ho9 | (simp only [Int.reduceToNat] at ho9; rw [← Ny193.out] at ho9)); have n0_ := Aside0.mk (Kd.R_lower ho9 (below_size (by repeat (first | (with_reducible first | exact HB.out | apply below_alloc | apply pw_below_drewN | apply below_drew1) | exact HB.out)))); have n1_ := Aside0.mk (below_step (by repeat (first | (with_reducible first | exact HB.out | apply below_alloc | apply pw_below_drewN | apply below_drew1) | exact HB.out)) hb); clear HB; have HO195 := n0_; have HB := n1_; clear n0_ n1_; clear hb ho9; have hcv10 := own_string (P := Tryd.prog) Tryd.underlying22 Tryd.underlying5 Tryd.underlying9 (Kd.own_of_R HO195.out)))
          go_ret
          exact ⟨by first | rfl | (simp [errW_none, errW_some] <;> rfl) | (simp [*, errW_none, errW_some] <;> rfl), by repeat (first | (with_reducible first | exact HB.out | apply below_alloc | apply pw_below_drewN | apply below_drew1) | exact HB.out)⟩
        · rw [if_neg c7] at H
          have c7b0 : decide (a0 < 128) = false := decide_eq_false c7
          clear c7
          by_cases c11 : a0 < 2048
          · rw [if_pos c11] at H
            have c11b0 : decide (a0 < 2048) = true := decide_eq_true c11
            clear c11
            obtain ⟨y196, hy196⟩ : ∃ y_ : List Int, y_ = (([(Go.bits .or .i64 192 (a0 / 64)) % 256, (Go.bits .or .i64 128 (Go.bits .and .i64 a0 63)) % 256] : List Int)) := ⟨_, rfl⟩
            replace H : (some (strOfNums y196)) = some r := by first | (rw [hy196]; with_reducible exact H) | (have H2_ := (Option.bind_some _ _).symm.trans H; rw [hy196]; with_reducible exact H2_) | (have H2_ := (Option.bind_some _ _).symm.trans H; with_reducible exact H2_) | with_reducible exact H | (rw [hy196]; exact H) | exact H
            have Ny196 := Aside0.mk hy196
            clear hy196
            obtain rfl := Option.some.inj H
            go_wp2_with (first | ((with_reducible refine gate_dst (N := 33) rfl ?_); refine Kd.R_lit (Kd.int .u8) _ 5 ?hg (N := 33) ?hd (xs := ([(Go.bits .or .i64 192 (a0 / 64)) % 256, (Go.bits .or .i64 128 (Go.bits .and .i64 a0 63)) % 256] : List Int)) (inner := [.int .u8 ((Go.bits .or .i64 192 (a0 / 64)) % 256), .int .u8 ((Go.bits .or .i64 128 (Go.bits .and .i64 a0 63)) % 256)]) (ok := fun _ => True) (okp := fun _ => True) ?hr ?hp (fun _ hk => hk) trivial (Below.refl _ _) (Nat.le_refl _) (by simp) ?_; (case hd => rfl); (case hg => rfl); (case hr => first | (go_simp; done) | (go_simp; rfl)); (case hp => exact (Reps.one (show Kd.M (Kd.int .u8) _ _ _ ((Go.bits .or .i64 192 (a0 / 64)) % 256) [.int .u8 ((Go.bits .or .i64 192 (a0 / 64)) % 256)] from rfl) (Reps.one (show Kd.M (Kd.int .u8) _ _ _ ((Go.bits .or .i64 128 (Go.bits .and .i64 a0 63)) % 256) [.int .u8 ((Go.bits .or .i64 128 (Go.bits .and .i64 a0 63)) % 256)] from rfl) (Reps.none _ _)))); intro v197 w12 ho13 hb hg_ hnew_; clear hg_ hnew_; (first | rw [← Ny196.out] at ho13 | (simp only [Int.reduceToNat] at ho13; rw [← Ny196.out] at ho13)); have n0_ := Aside0.mk (Kd.R_lower ho13 (below_size (by repeat (first | (with_reducible first | exact HB.out | apply below_alloc | apply pw_below_drewN | apply below_drew1) | exact HB.out)))); have n1_ := Aside0.mk (below_step (by repeat (first | (with_reducible first | exact HB.out | apply below_alloc | apply pw_below_drewN | apply below_drew1) | exact HB.out)) hb); clear HB; have HO198 := n0_; have HB := n1_; clear n0_ n1_; clear hb ho13; have hcv14 := own_string (P := Tryd.prog) Tryd.underlying22 Tryd.underlying5 Tryd.underlying9 (Kd.own_of_R HO198.out)))
            go_ret
            exact ⟨by first | rfl | (simp [errW_none, errW_some] <;> rfl) | (simp [*, errW_none, errW_some] <;> rfl), by repeat (first | (with_reducible first | exact HB.out | apply below_alloc | apply pw_below_drewN | apply below_drew1) | exact HB.out)⟩
          · rw [if_neg c11] at H
            have c11b0 : decide (a0 < 2048) = false := decide_eq_false c11
            clear c11
            by_cases c15 : a0 < 65536
            · rw [if_pos c15] at H
              have c15b0 : decide (a0 < 65536) = true := decide_eq_true c15
              clear c15
              obtain ⟨y199, hy199⟩ : ∃ y_ : List Int, y_ = (([(Go.bits .or .i64 224 (a0 / 4096)) % 256, (Go.bits .or .i64 128 (Go.bits .and .i64 (a0 / 64) 63)) % 256, (Go.bits .or .i64 128 (Go.bits .and .i64 a0 63)) % 256] : List Int)) := ⟨_, rfl⟩
              replace H : (some (strOfNums y199)) = some r := by first | (rw [hy199]; with_reducible exact H) | (have H2_ := (Option.bind_some _ _).symm.trans H; rw [hy199]; with_reducible exact H2_) | (have H2_ := (Option.bind_some _ _).symm.trans H; with_reducible exact H2_) | with_reducible exact H | (rw [hy199]; exact H) | exact H
              have Ny199 := Aside0.mk hy199
              clear hy199
              obtain rfl := Option.some.inj H
              go_wp2_with (first | ((with_reducible refine gate_dst (N := 50) rfl ?_); refine Kd.R_lit (Kd.int .u8) _ 5 ?hg (N := 50) ?hd (xs := ([(Go.bits .or .i64 224 (a0 / 4096)) % 256, (Go.bits .or .i64 128 (Go.bits .and .i64 (a0 / 64) 63)) % 256, (Go.bits .or .i64 128 (Go.bits .and .i64 a0 63)) % 256] : List Int)) (inner := [.int .u8 ((Go.bits .or .i64 224 (a0 / 4096)) % 256), .int .u8 ((Go.bits .or .i64 128 (Go.bits .and .i64 (a0 / 64) 63)) % 256), .int .u8 ((Go.bits .or .i64 128 (Go.bits .and .i64 a0 63)) % 256)]) (ok := fun _ => True) (okp := fun _ => True) ?hr ?hp (fun _ hk => hk) trivial (Below.refl _ _) (Nat.le_refl _) (by simp) ?_; (case hd => rfl); (case hg => rfl); (case hr => first | (go_simp; done) | (go_simp; rfl)); (case hp => exact (Reps.one (show Kd.M (Kd.int .u8) _ _ _ ((Go.bits .or .i64 224 (a0 / 4096)) % 256) [.int .u8 ((Go.bits .or .i64 224 (a0 / 4096)) % 256)] from rfl) (Reps.one (show Kd.M (Kd.int .u8) _ _ _ ((Go.bits .or .i64 128 (Go.bits .and .i64 (a0 / 64) 63)) % 256) [.int .u8 ((Go.bits .or .i64 128 (Go.bits .and .i64 (a0 / 64) 63)) % 256)] from rfl) (Reps.one (show Kd.M (Kd.int .u8) _ _ _ ((Go.bits .or .i64 128 (Go.bits .and .i64 a0 63)) % 256) [.int .u8 ((Go.bits .or .i64 128 (Go.bits .and .i64 a0 63)) % 256)] from rfl) (Reps.none _ _))))); intro v200 w16 ho17 hb hg_ hnew_; clear hg_ hnew_; (first | rw [← Ny199.out] at ho17 | (simp only [Int.reduceToNat] at ho17; rw [← Ny199.out] at ho17)); have n0_ := Aside0.mk (Kd.R_lower ho17 (below_size (by repeat (first | (with_reducible first | exact HB.out | apply below_alloc | apply pw_below_drewN | apply below_drew1) | exact HB.out)))); have n1_ := Aside0.mk (below_step (by repeat (first | (with_reducible first | exact HB.out | apply below_alloc | apply pw_below_drewN | apply below_drew1) | exact HB.out)) hb); clear HB; have HO201 := n0_; have HB := n1_; clear n0_ n1_; clear hb ho17; have hcv18 := own_string (P := Tryd.prog) Tryd.underlying22 Tryd.underlying5 Tryd.underlying9 (Kd.own_of_R HO201.out)))
              go_ret
              exact ⟨by first | rfl | (simp [errW_none, errW_some] <;> rfl) | (simp [*, errW_none, errW_some] <;> rfl), by repeat (first | (with_reducible first | exact HB.out | apply below_alloc | apply pw_below_drewN | apply below_drew1) | exact HB.out)⟩
            · rw [if_neg c15] at H
              have c15b0 : decide (a0 < 65536) = false := decide_eq_false c15
              clear c15
              obtain ⟨y202, hy202⟩ : ∃ y_ : List Int, y_ = (([(Go.bits .or .i64 240 (a0 / 262144)) % 256, (Go.bits .or .i64 128 (Go.bits .and .i64 (a0 / 4096) 63)) % 256, (Go.bits .or .i64 128 (Go.bits .and .i64 (a0 / 64) 63)) % 256, (Go.bits .or .i64 128 (Go.bits .and .i64 a0 63)) % 256] : List Int)) := ⟨_, rfl⟩
              replace H : (some (strOfNums y202)) = some r := by first | (rw [hy202]; with_reducible exact H) | (have H2_ := (Option.bind_some _ _).symm.trans H; rw [hy202]; with_reducible exact H2_) | (have H2_ := (Option.bind_some _ _).symm.trans H; with_reducible exact H2_) | with_reducible exact H | (rw [hy202]; exact H) | exact H
              have Ny202 := Aside0.mk hy202
              clear hy202
              obtain rfl := Option.some.inj H
              go_wp2_with (first | ((with_reducible refine gate_dst (N := 70) rfl ?_); refine Kd.R_lit (Kd.int .u8) _ 5 ?hg (N := 70) ?hd (xs := ([(Go.bits .or .i64 240 (a0 / 262144)) % 256, (Go.bits .or .i64 128 (Go.bits .and .i64 (a0 / 4096) 63)) % 256, (Go.bits .or .i64 128 (Go.bits .and .i64 (a0 / 64) 63)) % 256, (Go.bits .or .i64 128 (Go.bits .and .i64 a0 63)) % 256] : List Int)) (inner := [.int .u8 ((Go.bits .or .i64 240 (a0 / 262144)) % 256), .int .u8 ((Go.bits .or .i64 128 (Go.bits .and .i64 (a0 / 4096) 63)) % 256), .int .u8 ((Go.bits .or .i64 128 (Go.bits .and .i64 (a0 / 64) 63)) % 256), .int .u8 ((Go.bits .or .i64 128 (Go.bits .and .i64 a0 63)) % 256)]) (ok := fun _ => True) (okp := fun _ => True) ?hr ?hp (fun _ hk => hk) trivial (Below.refl _ _) (Nat.le_refl _) (by simp) ?_; (case hd => rfl); (case hg => rfl); (case hr => first | (go_simp; done) | (go_simp; rfl)); (case hp => exact (Reps.one (show Kd.M (Kd.int .u8) _ _ _ ((Go.bits .or .i64 240 (a0 / 262144)) % 256) [.int .u8 ((Go.bits .or .i64 240 (a0 / 262144)) % 256)] from rfl) (Reps.one (show Kd.M (Kd.int .u8) _ _ _ ((Go.bits .or .i64 128 (Go.bits .and .i64 (a0 / 4096) 63)) % 256) [.int .u8 ((Go.bits .or .i64 128 (Go.bits .and .i64 (a0 / 4096) 63)) % 256)] from rfl) (Reps.one (show Kd.M (Kd.int .u8) _ _ _ ((Go.bits .or .i64 128 (Go.bits .and .i64 (a0 / 64) 63)) % 256) [.int .u8 ((Go.bits .or .i64 128 (Go.bits .and .i64 (a0 / 64) 63)) % 256)] from rfl) (Reps.one (show Kd.M (Kd.int .u8) _ _ _ ((Go.bits .or .i64 128 (Go.bits .and .i64 a0 63)) % 256) [.int .u8 ((Go.bits .or .i64 128 (Go.bits .and .i64 a0 63)) % 256)] from rfl) (Reps.none _ _)))))); intro v203 w19 ho20 hb hg_ hnew_; clear hg_ hnew_; (first | rw [← Ny202.out] at ho20 | (simp only [Int.reduceToNat] at ho20; rw [← Ny202.out] at ho20)); have n0_ := Aside0.mk (Kd.R_lower ho20 (below_size (by repeat (first | (with_reducible first | exact HB.out | apply below_alloc | apply pw_below_drewN | apply below_drew1) | exact HB.out)))); have n1_ := Aside0.mk (below_step (by repeat (first | (with_reducible first | exact HB.out | apply below_alloc | apply pw_below_drewN | apply below_drew1) | exact HB.out)) hb); clear HB; have HO204 := n0_; have HB := n1_; clear n0_ n1_; clear hb ho20; have hcv21 := own_string (P := Tryd.prog) Tryd.underlying22 Tryd.underlying5 Tryd.underlying9 (Kd.own_of_R HO204.out)))
              go_ret
              exact ⟨by first | rfl | (simp [errW_none, errW_some] <;> rfl) | (simp [*, errW_none, errW_some] <;> rfl), by repeat (first | (with_reducible first | exact HB.out | apply below_alloc | apply pw_below_drewN | apply below_drew1) | exact HB.out)⟩
end Go.Proofs.YtdpnnglfaofjeaaDoor.PJh

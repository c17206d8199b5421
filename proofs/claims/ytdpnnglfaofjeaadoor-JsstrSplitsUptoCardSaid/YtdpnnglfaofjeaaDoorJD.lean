import Derived.Test.YtdpnnglfaofjeaaDoorPJhx2
import Derived.Test.YtdpnnglfaofjeaaDoorJB
import Derived.Deep.RegionWith
namespace Go.Proofs.YtdpnnglfaofjeaaDoor.PJh
open Go.RowKit Go.Proofs.YtdpnnglfaofjeaaDoorW.PrintWords Go.Proofs.YtdpnnglfaofjeaaDoorW.PrintLast Go.Proofs.YtdpnnglfaofjeaaDoorW.PrintMore
open U (dig hexN hexN_small hexN_big digs16j)
set_option linter.unusedVariables false
set_option linter.unusedSimpArgs false
set_option maxRecDepth 100000

/-! ### the document's UTF8 -/
theorem wraps_i64 (n : Int) (h₀ : 0 ≤ n) (h₁ : n < 2 ^ 63) : IntKind.i64.wrap n = n := by rw [IntKind.wrap_i64]; omega
theorem or_128 (y : Int) (h₀ : 0 ≤ y) (h₁ : y < 64) : Go.bits .or .i64 128 y = 128 + y := bits_join .i64 63 (by decide) wraps_i64 6 128 y (by omega) (by decide) (by omega) h₀ h₁ (by omega)
theorem or_192 (y : Int) (h₀ : 0 ≤ y) (h₁ : y < 32) : Go.bits .or .i64 192 y = 192 + y := bits_join .i64 63 (by decide) wraps_i64 5 192 y (by omega) (by decide) (by omega) h₀ h₁ (by omega)
theorem or_224 (y : Int) (h₀ : 0 ≤ y) (h₁ : y < 16) : Go.bits .or .i64 224 y = 224 + y := bits_join .i64 63 (by decide) wraps_i64 5 224 y (by omega) (by decide) (by omega) h₀ (by omega) (by omega)
theorem or_240 (y : Int) (h₀ : 0 ≤ y) (h₁ : y < 16) : Go.bits .or .i64 240 y = 240 + y := bits_join .i64 63 (by decide) wraps_i64 4 240 y (by omega) (by decide) (by omega) h₀ h₁ (by omega)
theorem and_63 (x : Int) (h₀ : 0 ≤ x) (h₁ : x < 2147483648) : Go.bits .and .i64 x 63 = x % 64 := bits_mask .i64 63 (by decide) wraps_i64 6 (by decide) x h₀ (by omega)
theorem utf8_ev (r : Int) : Ev (fun k => bobbinref06_UTF8.f k r) (strOfNums (Lib.encodeRuneZ r)) := by
  refine ⟨1, fun k hk => ?_⟩
  obtain ⟨k, rfl⟩ : ∃ m, k = m + 1 := ⟨k - 1, by omega⟩
  show bobbinref06_UTF8.f (k + 1) r = _
  unfold bobbinref06_UTF8.f Lib.encodeRuneZ
  by_cases c1 : r < 0
  · rw [if_pos c1, if_neg (by omega), if_neg (by omega), if_neg (by omega), if_neg (by omega)]
    simp only [bobbinref06_UTF8.j0]
    rw [if_pos (by first | rfl | trivial)]
    rfl
  rw [if_neg c1]
  by_cases c2 : r > 1114111
  · rw [if_pos c2, if_neg (by omega), if_neg (by omega), if_neg (by omega), if_neg (by omega)]
    simp only [bobbinref06_UTF8.j0]
    rw [if_pos (by first | rfl | trivial)]
    rfl
  rw [if_neg c2]
  by_cases c3 : 55296 ≤ r ∧ r ≤ 57343
  · rw [if_pos c3.1, decide_eq_true c3.2, if_neg (by omega), if_neg (by omega), if_neg (by omega), if_neg (by omega)]
    simp only [bobbinref06_UTF8.j0]
    rw [if_pos (by first | rfl | trivial)]
    rfl
  have e0 : (if r ≥ 55296 then bobbinref06_UTF8.j0 (k + 1) r (decide (r ≤ 57343)) else bobbinref06_UTF8.j0 (k + 1) r false) = bobbinref06_UTF8.j0 (k + 1) r false := by
    by_cases c : r ≥ 55296
    · rw [if_pos c, decide_eq_false (by omega)]
    · rw [if_neg c]
  rw [e0]
  simp only [bobbinref06_UTF8.j0]
  rw [if_neg (by simp)]
  by_cases d1 : r ≤ 127
  · rw [if_pos (show r < 128 by omega), if_pos (show 0 ≤ r ∧ r ≤ 127 by omega), show r % 256 = r from by omega]
  rw [if_neg (show ¬ r < 128 by omega), if_neg (show ¬ (0 ≤ r ∧ r ≤ 127) by omega)]
  by_cases d2 : r ≤ 2047
  · rw [if_pos (show r < 2048 by omega), if_pos (show 128 ≤ r ∧ r ≤ 2047 by omega), or_192 _ (by omega) (by omega), and_63 _ (by omega) (by omega), or_128 _ (by omega) (by omega), show (192 + r / 64) % 256 = 192 + r / 64 from by omega, show (128 + r % 64) % 256 = 128 + r % 64 from by omega]
  rw [if_neg (show ¬ r < 2048 by omega), if_neg (show ¬ (128 ≤ r ∧ r ≤ 2047) by omega)]
  by_cases d3 : r ≤ 65535
  · rw [if_pos (show r < 65536 by omega), if_pos (show (2048 ≤ r ∧ r < 55296) ∨ (57343 < r ∧ r ≤ 65535) by omega), or_224 _ (by omega) (by omega), and_63 (r / 64) (by omega) (by omega), and_63 r (by omega) (by omega), or_128 (r / 64 % 64) (by omega) (by omega), or_128 (r % 64) (by omega) (by omega),
      show (224 + r / 4096) % 256 = 224 + r / 4096 from by omega, show (128 + r / 64 % 64) % 256 = 128 + r / 64 % 64 from by omega, show (128 + r % 64) % 256 = 128 + r % 64 from by omega]
  · rw [if_neg (show ¬ r < 65536 by omega), if_neg (show ¬ ((2048 ≤ r ∧ r < 55296) ∨ (57343 < r ∧ r ≤ 65535)) by omega), if_pos (show 65536 ≤ r ∧ r ≤ 1114111 by omega), or_240 _ (by omega) (by omega), and_63 (r / 4096) (by omega) (by omega), and_63 (r / 64) (by omega) (by omega), and_63 r (by omega) (by omega), or_128 (r / 4096 % 64) (by omega) (by omega), or_128 (r / 64 % 64) (by omega) (by omega), or_128 (r % 64) (by omega) (by omega),
      show (240 + r / 262144) % 256 = 240 + r / 262144 from by omega, show (128 + r / 4096 % 64) % 256 = 128 + r / 4096 % 64 from by omega, show (128 + r / 64 % 64) % 256 = 128 + r / 64 % 64 from by omega, show (128 + r % 64) % 256 = 128 + r % 64 from by omega]

/-! ### the document's Unit -/
set_option maxHeartbeats 4000000 in
theorem hexed_call (n : Nat) (hn : n < 128) (w : World) (h1 : n ≠ 10) (h2 : n ≠ 13) (h3 : n ≠ 9) (hx : n < 32 ∨ n = 127 ∨ n = 39 ∨ n = 34 ∨ n = 60 ∨ n = 62 ∨ n = 38 ∨ n = 61 ∨ n = 96) :
    Calls Tryd.prog 34 #[.int .i64 (n : Int)] w fun e w' => e = .returned (.string (strOfNums [92, 120, dig (n / 16), dig (n % 16)])) ∧ Below w.heap.size w w' := by
  obtain ⟨m1, hm1, hl1, hl1'⟩ : ∃ m1 : Nat, n / 16 = m1 ∧ m1 < 16 ∧ (m1 : Int) < 16 := ⟨_, rfl, by omega, by omega⟩
  obtain ⟨m2, hm2, hl2, hl2'⟩ : ∃ m2 : Nat, n % 16 = m2 ∧ m2 < 16 ∧ (m2 : Int) < 16 := ⟨_, rfl, by omega, by omega⟩
  rw [hm1, hm2]
  have hq1 : (n : Int) / 16 = (m1 : Int) := by omega
  have hq2 : (n : Int) % 16 = (m2 : Int) := by omega
  have hq3 : (n : Int).tdiv 16 = (m1 : Int) := by rw [Int.tdiv_eq_ediv_of_nonneg (by omega)]; exact hq1
  have hq4 : IntKind.i64.wrap ((n : Int).tdiv 16) = (m1 : Int) := by rw [hq3]; exact wraps_i64 _ (by omega) (by omega)
  have hq5 : IntKind.i64.wrap (m1 : Int) = (m1 : Int) := wraps_i64 _ (by omega) (by omega)
  have hq6 : (n : Int).tmod 16 = (m2 : Int) := by rw [Int.tmod_eq_emod_of_nonneg (by omega)]; exact hq2
  have hq7 : IntKind.i64.wrap ((n : Int).tmod 16) = (m2 : Int) := by rw [hq6]; exact wraps_i64 _ (by omega) (by omega)
  have hd1 := digs16j m1 (show m1 < 16 by omega)
  have hd2 := digs16j m2 (show m2 < 16 by omega)
  generalize dig m1 = d1 at hd1 ⊢
  generalize dig m2 = d2 at hd2 ⊢
  have e1 : (({ data := #[92, 120] } : ByteArray) ++ strOfNums [d1, d2]) = strOfNums [92, 120, d1, d2] := by
    rw [show ([92, 120, d1, d2] : List Int) = [92, 120] ++ [d1, d2] from rfl, ← str_app]
    rfl
  have hszz : (strOfNums [d1, d2]).size = 2 := by rw [str_size]; rfl
  have hb1 : ((n : Int) == 92) = false := beq_eq_false_iff_ne.2 (by omega)
  have hb2 : ((n : Int) == 47) = false := beq_eq_false_iff_ne.2 (by omega)
  have hb3 : ((n : Int) == 10) = false := beq_eq_false_iff_ne.2 (by omega)
  have hb4 : ((n : Int) == 13) = false := beq_eq_false_iff_ne.2 (by omega)
  have hb5 : ((n : Int) == 9) = false := beq_eq_false_iff_ne.2 (by omega)
  have hb6 : ((n : Int) == 8232) = false := beq_eq_false_iff_ne.2 (by omega)
  have hb7 : ((n : Int) == 8233) = false := beq_eq_false_iff_ne.2 (by omega)
  have hge : (0 : Int) ≤ (n : Int) := by omega
  have fin : ∀ w1 : World, Below w.heap.size w w1 → (fun e w' => e = Ending.returned (.string (strOfNums [92, 120, d1, d2])) ∧ Below w.heap.size w w') (.returned (.string (({ data := #[92, 120] } : ByteArray) ++ strOfNums [d1, d2]))) w1 := fun w1 h => ⟨by rw [e1], h⟩
  have hstr := U.lit_strj w.drew [d1, d2] #[.int .u8 d1, .int .u8 d2] rfl 2 rfl (by simp)
  have hstr2 : (convert 22 9 (.slice (some ⟨w.heap.size, 0, none⟩) 2 2)).run Tryd.prog (w.alloc (.cells #[.int .u8 d1, .int .u8 d2] 5)).drew = .ok (.string (strOfNums [d1, d2])) (w.alloc (.cells #[.int .u8 d1, .int .u8 d2] 5)).drew := hstr
  have FIN := Lib.hid fin
  clear fin e1 hm1 hm2
  rcases hx with hx | hx | hx | hx | hx | hx | hx | hx | hx
  · have hlt : (n : Int) < 32 := by omega
    clear hx
    go_enter Tryd.func34, Tryd.ntmps34
    go_wp2
    go_region_with (fail)
    all_goals go_wp2
    all_goals go_ret
    all_goals exact FIN.out _ (((Below.refl _ _).alloc (Nat.le_refl _) _).drew)
  · have hlt : ¬ (n : Int) < 32 := by omega
    have t127 : ((n : Int) == 127) = true := beq_iff_eq.2 (by omega)
    clear hx
    go_enter Tryd.func34, Tryd.ntmps34
    go_wp2
    go_region_with (fail)
    all_goals go_wp2
    all_goals go_ret
    all_goals exact FIN.out _ (((Below.refl _ _).alloc (Nat.le_refl _) _).drew)
  · have hlt : ¬ (n : Int) < 32 := by omega
    have t127 : ((n : Int) == 127) = false := beq_eq_false_iff_ne.2 (by omega)
    have t39 : ((n : Int) == 39) = true := beq_iff_eq.2 (by omega)
    clear hx
    go_enter Tryd.func34, Tryd.ntmps34
    go_wp2
    go_region_with (fail)
    all_goals go_wp2
    all_goals go_ret
    all_goals exact FIN.out _ (((Below.refl _ _).alloc (Nat.le_refl _) _).drew)
  · have hlt : ¬ (n : Int) < 32 := by omega
    have t127 : ((n : Int) == 127) = false := beq_eq_false_iff_ne.2 (by omega)
    have t39 : ((n : Int) == 39) = false := beq_eq_false_iff_ne.2 (by omega)
    have t34 : ((n : Int) == 34) = true := beq_iff_eq.2 (by omega)
    clear hx
    go_enter Tryd.func34, Tryd.ntmps34
    go_wp2
    go_region_with (fail)
    all_goals go_wp2
    all_goals go_ret
    all_goals exact FIN.out _ (((Below.refl _ _).alloc (Nat.le_refl _) _).drew)
  · have hlt : ¬ (n : Int) < 32 := by omega
    have t127 : ((n : Int) == 127) = false := beq_eq_false_iff_ne.2 (by omega)
    have t39 : ((n : Int) == 39) = false := beq_eq_false_iff_ne.2 (by omega)
    have t34 : ((n : Int) == 34) = false := beq_eq_false_iff_ne.2 (by omega)
    have t60 : ((n : Int) == 60) = true := beq_iff_eq.2 (by omega)
    clear hx
    go_enter Tryd.func34, Tryd.ntmps34
    go_wp2
    go_region_with (fail)
    all_goals go_wp2
    all_goals go_ret
    all_goals exact FIN.out _ (((Below.refl _ _).alloc (Nat.le_refl _) _).drew)
  · have hlt : ¬ (n : Int) < 32 := by omega
    have t127 : ((n : Int) == 127) = false := beq_eq_false_iff_ne.2 (by omega)
    have t39 : ((n : Int) == 39) = false := beq_eq_false_iff_ne.2 (by omega)
    have t34 : ((n : Int) == 34) = false := beq_eq_false_iff_ne.2 (by omega)
    have t60 : ((n : Int) == 60) = false := beq_eq_false_iff_ne.2 (by omega)
    have t62 : ((n : Int) == 62) = true := beq_iff_eq.2 (by omega)
    clear hx
    go_enter Tryd.func34, Tryd.ntmps34
    go_wp2
    go_region_with (fail)
    all_goals go_wp2
    all_goals go_ret
    all_goals exact FIN.out _ (((Below.refl _ _).alloc (Nat.le_refl _) _).drew)
  · have hlt : ¬ (n : Int) < 32 := by omega
    have t127 : ((n : Int) == 127) = false := beq_eq_false_iff_ne.2 (by omega)
    have t39 : ((n : Int) == 39) = false := beq_eq_false_iff_ne.2 (by omega)
    have t34 : ((n : Int) == 34) = false := beq_eq_false_iff_ne.2 (by omega)
    have t60 : ((n : Int) == 60) = false := beq_eq_false_iff_ne.2 (by omega)
    have t62 : ((n : Int) == 62) = false := beq_eq_false_iff_ne.2 (by omega)
    have t38 : ((n : Int) == 38) = true := beq_iff_eq.2 (by omega)
    clear hx
    go_enter Tryd.func34, Tryd.ntmps34
    go_wp2
    go_region_with (fail)
    all_goals go_wp2
    all_goals go_ret
    all_goals exact FIN.out _ (((Below.refl _ _).alloc (Nat.le_refl _) _).drew)
  · have hlt : ¬ (n : Int) < 32 := by omega
    have t127 : ((n : Int) == 127) = false := beq_eq_false_iff_ne.2 (by omega)
    have t39 : ((n : Int) == 39) = false := beq_eq_false_iff_ne.2 (by omega)
    have t34 : ((n : Int) == 34) = false := beq_eq_false_iff_ne.2 (by omega)
    have t60 : ((n : Int) == 60) = false := beq_eq_false_iff_ne.2 (by omega)
    have t62 : ((n : Int) == 62) = false := beq_eq_false_iff_ne.2 (by omega)
    have t38 : ((n : Int) == 38) = false := beq_eq_false_iff_ne.2 (by omega)
    have t61 : ((n : Int) == 61) = true := beq_iff_eq.2 (by omega)
    clear hx
    go_enter Tryd.func34, Tryd.ntmps34
    go_wp2
    go_region_with (fail)
    all_goals go_wp2
    all_goals go_ret
    all_goals exact FIN.out _ (((Below.refl _ _).alloc (Nat.le_refl _) _).drew)
  · have hlt : ¬ (n : Int) < 32 := by omega
    have t127 : ((n : Int) == 127) = false := beq_eq_false_iff_ne.2 (by omega)
    have t39 : ((n : Int) == 39) = false := beq_eq_false_iff_ne.2 (by omega)
    have t34 : ((n : Int) == 34) = false := beq_eq_false_iff_ne.2 (by omega)
    have t60 : ((n : Int) == 60) = false := beq_eq_false_iff_ne.2 (by omega)
    have t62 : ((n : Int) == 62) = false := beq_eq_false_iff_ne.2 (by omega)
    have t38 : ((n : Int) == 38) = false := beq_eq_false_iff_ne.2 (by omega)
    have t61 : ((n : Int) == 61) = false := beq_eq_false_iff_ne.2 (by omega)
    have t96 : ((n : Int) == 96) = true := beq_iff_eq.2 (by omega)
    clear hx
    go_enter Tryd.func34, Tryd.ntmps34
    go_wp2
    go_region_with (fail)
    all_goals go_wp2
    all_goals go_ret
    all_goals exact FIN.out _ (((Below.refl _ _).alloc (Nat.le_refl _) _).drew)
set_option maxHeartbeats 4000000 in
theorem ref_unitj_calls (r : Int) (w : World) (h0 : -9223372036854775808 ≤ r) (h1 : r ≤ 9223372036854775807) : Calls Tryd.prog 34 #[.int .i64 r] w fun e w' => e = .returned (.string (strOfNums (unitJ r))) ∧ Below w.heap.size w w' := by
  unfold unitJ
  by_cases e1 : r = 92
  · subst e1
    rw [if_pos rfl]
    go_enter Tryd.func34, Tryd.ntmps34
    go_wp2
    go_ret
    exact ⟨rfl, Below.refl _ _⟩
  rw [if_neg e1]
  by_cases e2 : r = 47
  · subst e2
    rw [if_pos rfl]
    go_enter Tryd.func34, Tryd.ntmps34
    go_wp2
    go_ret
    exact ⟨rfl, Below.refl _ _⟩
  rw [if_neg e2]
  by_cases e3 : r = 10
  · subst e3
    rw [if_pos rfl]
    go_enter Tryd.func34, Tryd.ntmps34
    go_wp2
    go_ret
    exact ⟨rfl, Below.refl _ _⟩
  rw [if_neg e3]
  by_cases e4 : r = 13
  · subst e4
    rw [if_pos rfl]
    go_enter Tryd.func34, Tryd.ntmps34
    go_wp2
    go_ret
    exact ⟨rfl, Below.refl _ _⟩
  rw [if_neg e4]
  by_cases e5 : r = 9
  · subst e5
    rw [if_pos rfl]
    go_enter Tryd.func34, Tryd.ntmps34
    go_wp2
    go_ret
    exact ⟨rfl, Below.refl _ _⟩
  rw [if_neg e5]
  by_cases e6 : r = 8232
  · subst e6
    rw [if_pos rfl]
    go_enter Tryd.func34, Tryd.ntmps34
    go_wp2
    go_ret
    exact ⟨rfl, Below.refl _ _⟩
  rw [if_neg e6]
  by_cases e7 : r = 8233
  · subst e7
    rw [if_pos rfl]
    go_enter Tryd.func34, Tryd.ntmps34
    go_wp2
    go_ret
    exact ⟨rfl, Below.refl _ _⟩
  rw [if_neg e7]
  by_cases hh : Hexed r
  · rw [if_pos hh]
    unfold Hexed at hh
    obtain ⟨n, rfl⟩ := Int.eq_ofNat_of_zero_le (show 0 ≤ r by omega)
    rw [Int.toNat_natCast]
    exact hexed_call n (by omega) w (by omega) (by omega) (by omega) (by omega)
  · rw [if_neg hh]
    unfold Hexed at hh
    obtain ⟨k, hk⟩ := (utf8_ev r).rounds
    have b1 : (r == 92) = false := beq_eq_false_iff_ne.2 e1
    have b2 : (r == 47) = false := beq_eq_false_iff_ne.2 e2
    have b3 : (r == 10) = false := beq_eq_false_iff_ne.2 e3
    have b4 : (r == 13) = false := beq_eq_false_iff_ne.2 e4
    have b5 : (r == 9) = false := beq_eq_false_iff_ne.2 e5
    have b6 : (r == 8232) = false := beq_eq_false_iff_ne.2 e6
    have b7 : (r == 8233) = false := beq_eq_false_iff_ne.2 e7
    have t127 : (r == 127) = false := beq_eq_false_iff_ne.2 (by omega)
    have t39 : (r == 39) = false := beq_eq_false_iff_ne.2 (by omega)
    have t34 : (r == 34) = false := beq_eq_false_iff_ne.2 (by omega)
    have t60 : (r == 60) = false := beq_eq_false_iff_ne.2 (by omega)
    have t62 : (r == 62) = false := beq_eq_false_iff_ne.2 (by omega)
    have t38 : (r == 38) = false := beq_eq_false_iff_ne.2 (by omega)
    have t61 : (r == 61) = false := beq_eq_false_iff_ne.2 (by omega)
    have t96 : (r == 96) = false := beq_eq_false_iff_ne.2 (by omega)
    clear e1 e2 e3 e4 e5 e6 e7
    by_cases hneg : 0 ≤ r
    · have hlt : ¬ r < 32 := by omega
      clear hh
      go_enter Tryd.func34, Tryd.ntmps34
      go_wp2_with (go_at_call 65; refine (bobbinref06_UTF8.calls k r _ _ hk).mono ?_; rintro e w1 ⟨rfl, hb⟩)
      go_ret
      exact ⟨rfl, hb⟩
    · have hneg' : ¬ r ≥ 0 := by omega
      clear hh
      go_enter Tryd.func34, Tryd.ntmps34
      go_wp2_with (go_at_call 65; refine (bobbinref06_UTF8.calls k r _ _ hk).mono ?_; rintro e w1 ⟨rfl, hb⟩)
      go_ret
      exact ⟨rfl, hb⟩
end Go.Proofs.YtdpnnglfaofjeaaDoor.PJh

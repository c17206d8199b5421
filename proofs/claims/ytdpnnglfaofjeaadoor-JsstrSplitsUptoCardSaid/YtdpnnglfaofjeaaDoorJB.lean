import Derived.Test.YtdpnnglfaofjeaaDoorPJhx1
namespace Go.Proofs.YtdpnnglfaofjeaaDoor.PJh
open Go.RowKit Go.Proofs.YtdpnnglfaofjeaaDoorW.PrintWords Go.Proofs.YtdpnnglfaofjeaaDoorW.PrintLast Go.Proofs.YtdpnnglfaofjeaaDoorW.PrintMore
open U (dig hexN hexN_small hexN_big)
set_option linter.unusedVariables false
set_option linter.unusedSimpArgs false

/-! ### small words -/
def IsB (l : List Int) : Prop := ∀ x ∈ l, 0 ≤ x ∧ x ≤ 255
theorem ev_some {α β : Type} {g : Nat → β → Option α} {v : β} {r : α} (h : Ev (fun k => g k v) r) : Ev (fun k => (some v).bind (g k)) r := h
theorem ev_neg {α : Type} {c : Prop} {_ : Decidable c} {a b : Nat → Option α} {r : α} (hc : ¬ c) (h : Ev b r) : Ev (fun k => if c then a k else b k) r := Ev.congr (fun k => if_neg hc) h
theorem ev_pos {α : Type} {c : Prop} {_ : Decidable c} {a b : Nat → Option α} {r : α} (hc : c) (h : Ev a r) : Ev (fun k => if c then a k else b k) r := Ev.congr (fun k => if_pos hc) h
theorem bytesOf_str (l : List Int) (h : IsB l) : bytesOf (strOfNums l) = l := by
  unfold bytesOf
  rw [strOfNums_data, List.map_map]
  conv => rhs; rw [← List.map_id l]
  apply List.map_congr_left
  intro x hx
  have := h x hx
  simp
  omega
theorem str_app (a b : List Int) : strOfNums a ++ strOfNums b = strOfNums (a ++ b) := by
  apply ByteArray.ext
  apply Array.toList_inj.1
  simp [strOfNums]
theorem str_size (l : List Int) : (strOfNums l).size = l.length := by
  show (strOfNums l).data.size = _
  rw [← Array.length_toList, strOfNums_data, List.length_map]
theorem dig_range (d : Nat) (h : d < 16) : 0 ≤ dig d ∧ dig d ≤ 255 := by unfold dig; split <;> omega

/-! ### the units -/
def Hexed (r : Int) : Prop := r = 39 ∨ r = 34 ∨ r = 60 ∨ r = 62 ∨ r = 38 ∨ r = 96 ∨ r = 61 ∨ (0 ≤ r ∧ r < 32) ∨ r = 127
instance (r : Int) : Decidable (Hexed r) := by unfold Hexed; infer_instance
def unitJ (r : Int) : List Int :=
  if r = 92 then [92, 92] else if r = 47 then [92, 47] else if r = 10 then [92, 110] else if r = 13 then [92, 114] else if r = 9 then [92, 116]
  else if r = 8232 then [92, 117, 50, 48, 50, 56] else if r = 8233 then [92, 117, 50, 48, 50, 57]
  else if Hexed r then [92, 120, dig (r.toNat / 16), dig (r.toNat % 16)] else Lib.encodeRuneZ r
theorem hex2_ev (n : Nat) (h : n < 256) : Ev (fun k => jsstr_hex.f k (n : Int) 2) (strOfNums [dig (n / 16), dig (n % 16)]) := by
  have hf : strconv_FormatUint.f (n : Int) 16 = some (strOfNums (hexN n)) := by
    unfold strconv_FormatUint.f
    rw [if_pos ⟨by omega, by omega, rfl⟩, Int.toNat_natCast]
  refine ⟨3, fun k hk => ?_⟩
  obtain ⟨k, rfl⟩ : ∃ m, k = m + 2 := ⟨k - 2, by omega⟩
  show jsstr_hex.f (k + 2) (n : Int) 2 = _
  unfold jsstr_hex.f
  rw [hf, Option.bind_some]
  by_cases h16 : n < 16
  · rw [hexN_small n h16]
    simp only [jsstr_hex.l0]
    have e1 : (⟨#[48]⟩ : ByteArray) ++ strOfNums [dig n] = strOfNums [dig (n / 16), dig (n % 16)] := by
      rw [show n / 16 = 0 from by omega, show n % 16 = n from by omega, show ([dig 0, dig n] : List Int) = [dig 0] ++ [dig n] from rfl, ← str_app]
      rfl
    rw [if_pos (by rw [str_size]; simp), if_pos (by rw [str_size]; simp), e1, if_neg (by rw [str_size]; simp)]
  · rw [hexN_big n h16, hexN_small (n / 16) (by omega)]
    simp only [jsstr_hex.l0]
    rw [if_neg (by rw [str_size]; simp)]
    rfl
theorem hex4_ev (n : Nat) (l : List Int) (h : n < 65536) (hl : hexN n = l) (h4 : l.length = 4) : Ev (fun k => jsstr_hex.f k (n : Int) 4) (strOfNums l) := by
  have hf : strconv_FormatUint.f (n : Int) 16 = some (strOfNums l) := by
    unfold strconv_FormatUint.f
    rw [if_pos ⟨by omega, by omega, rfl⟩, Int.toNat_natCast, hl]
  refine ⟨1, fun k hk => ?_⟩
  obtain ⟨k, rfl⟩ : ∃ m, k = m + 1 := ⟨k - 1, by omega⟩
  show jsstr_hex.f (k + 1) (n : Int) 4 = _
  unfold jsstr_hex.f
  rw [hf, Option.bind_some]
  simp only [jsstr_hex.l0]
  rw [if_neg (by rw [str_size, h4]; simp)]
theorem hexN4 (a b c d : Nat) (ha : 0 < a) (ha' : a < 16) (hb : b < 16) (hc : c < 16) (hd : d < 16) : hexN (a * 4096 + b * 256 + c * 16 + d) = [dig a, dig b, dig c, dig d] := by
  rw [hexN_big _ (by omega), hexN_big _ (by omega), hexN_big _ (by omega), hexN_small _ (by omega)]
  simp only [List.cons_append, List.nil_append]
  rw [show (a * 4096 + b * 256 + c * 16 + d) / 16 / 16 / 16 = a from by omega, show (a * 4096 + b * 256 + c * 16 + d) / 16 / 16 % 16 = b from by omega,
    show (a * 4096 + b * 256 + c * 16 + d) / 16 % 16 = c from by omega, show (a * 4096 + b * 256 + c * 16 + d) % 16 = d from by omega]
theorem append_f (r : Int) (h0 : -2147483648 ≤ r) (h1 : r ≤ 2147483647) : utf8_AppendRune.f [] r = some (Lib.encodeRuneZ r) := by
  unfold utf8_AppendRune.f
  by_cases h : 0 ≤ r ∧ r ≤ 127
  · rw [if_pos (by omega), if_pos (by simp), Lib.encodeRuneZ_one h.1 h.2, show r % 256 = r from by omega]
    rfl
  · rw [if_neg (by omega)]
    unfold utf8_appendRuneNonASCII.f
    rw [if_pos ⟨h0, h1, by omega, by simp⟩]
    rfl
theorem hexed_tail (r : Int) (h : 0 ≤ r ∧ r < 256) : ∀ (g : Nat → ByteArray → Option (List Int)), (g = fun k t138 => (if 2 + t138.size ≤ 9223372036854775807 then (if 2 + t138.size < 140737488355328 then (some (([] : List Int) ++ bytesOf ((⟨#[92, 120]⟩ : ByteArray) ++ t138))) else (none)) else (none))) →
    Ev (fun k => (jsstr_hex.f k (IntKind.u64.wrap r) 2).bind (g k)) [92, 120, dig (r.toNat / 16), dig (r.toNat % 16)] := by
  intro g hg
  subst hg
  obtain ⟨n, rfl⟩ := Int.eq_ofNat_of_zero_le h.1
  rw [U.wraps_u64 _ (by omega) (by omega), Int.toNat_natCast]
  refine Ev.bind (hex2_ev n (by omega)) ?_
  have h1 := dig_range (n / 16) (by omega)
  have h2 := dig_range (n % 16) (by omega)
  have e1 : (⟨#[92, 120]⟩ : ByteArray) ++ strOfNums [dig (n / 16), dig (n % 16)] = strOfNums [92, 120, dig (n / 16), dig (n % 16)] := by
    rw [show ([92, 120, dig (n / 16), dig (n % 16)] : List Int) = [92, 120] ++ [dig (n / 16), dig (n % 16)] from rfl, ← str_app]
    rfl
  rw [if_pos (by rw [str_size]; simp), if_pos (by rw [str_size]; simp), e1, bytesOf_str _ (by intro x hx; simp at hx; rcases hx with rfl | rfl | rfl | rfl <;> omega)]
  exact Ev.now _
theorem wide_tail (n : Nat) (l : List Int) (h : n < 65536) (hl : hexN n = l) (h4 : l.length = 4) (hB : IsB l) : ∀ (g : Nat → ByteArray → Option (List Int)), (g = fun k t142 => (if 2 + t142.size ≤ 9223372036854775807 then (if 2 + t142.size < 140737488355328 then (some (([] : List Int) ++ bytesOf ((⟨#[92, 117]⟩ : ByteArray) ++ t142))) else (none)) else (none))) →
    Ev (fun k => (jsstr_hex.f k (IntKind.u64.wrap (n : Int)) 4).bind (g k)) (92 :: 117 :: l) := by
  intro g hg
  subst hg
  rw [U.wraps_u64 _ (by omega) (by omega)]
  refine Ev.bind (hex4_ev n l h hl h4) ?_
  have e1 : (⟨#[92, 117]⟩ : ByteArray) ++ strOfNums l = strOfNums (92 :: 117 :: l) := by
    rw [show (92 :: 117 :: l : List Int) = [92, 117] ++ l from rfl, ← str_app]
    rfl
  rw [if_pos (by rw [str_size, h4]; decide), if_pos (by rw [str_size, h4]; decide), e1, bytesOf_str _ (by intro x hx; simp at hx; rcases hx with rfl | rfl | hx; omega; omega; exact hB x hx)]
  exact Ev.now _
theorem j1_ev (r : Int) (b : Bool) (h0 : -2147483648 ≤ r) (h1 : r ≤ 2147483647) (hb : b = true → 0 ≤ r ∧ r < 256) : Ev (fun k => jsstr_Unit.j1 k r b) (if b = true then [92, 120, dig (r.toNat / 16), dig (r.toNat % 16)] else Lib.encodeRuneZ r) := by
  cases b with
  | true =>
    rw [if_pos rfl]
    refine Ev.step (fun k => ?_) (hexed_tail r (hb rfl) _ rfl)
    simp only [jsstr_Unit.j1]
    rw [if_pos (by first | rfl | trivial)]
  | false =>
    rw [if_neg (by simp)]
    refine Ev.step (f := fun _ => some (Lib.encodeRuneZ r)) (fun k => ?_) (Ev.now _)
    simp only [jsstr_Unit.j1]
    rw [if_neg (by simp), append_f r h0 h1]
    rfl
theorem j0_true (r x3 : Int) (h : 0 ≤ r ∧ r < 256) : Ev (fun k => jsstr_Unit.j0 k r x3 true) [92, 120, dig (r.toNat / 16), dig (r.toNat % 16)] := by
  refine Ev.step (fun k => ?_) (hexed_tail r h _ rfl)
  simp only [jsstr_Unit.j0]
  rw [if_pos (by first | rfl | trivial)]
theorem j0_false (r : Int) (h0 : -2147483648 ≤ r) (h1 : r ≤ 2147483647) : Ev (fun k => jsstr_Unit.j0 k r r false) (if r = 8232 then [92, 117, 50, 48, 50, 56] else if r = 8233 then [92, 117, 50, 48, 50, 57] else if (0 ≤ r ∧ r < 32) ∨ r = 127 then [92, 120, dig (r.toNat / 16), dig (r.toNat % 16)] else Lib.encodeRuneZ r) := by
  by_cases c1 : r = 8232
  · subst c1
    rw [if_pos rfl]
    have hl : hexN 8232 = [50, 48, 50, 56] := hexN4 2 0 2 8 (by omega) (by omega) (by omega) (by omega) (by omega)
    refine Ev.step (fun k => ?_) (wide_tail 8232 _ (by omega) hl rfl (by intro x hx; simp at hx; omega) _ rfl)
    simp only [jsstr_Unit.j0]
    rw [if_neg (by simp), if_pos (by first | rfl | trivial)]
    rfl
  · rw [if_neg c1]
    by_cases c2 : r = 8233
    · subst c2
      rw [if_pos rfl]
      have hl : hexN 8233 = [50, 48, 50, 57] := hexN4 2 0 2 9 (by omega) (by omega) (by omega) (by omega) (by omega)
      refine Ev.step (fun k => ?_) (wide_tail 8233 _ (by omega) hl rfl (by intro x hx; simp at hx; omega) _ rfl)
      simp only [jsstr_Unit.j0]
      rw [if_neg (by simp), if_neg (by omega), if_pos (by first | rfl | trivial)]
      rfl
    · rw [if_neg c2]
      by_cases c3 : 0 ≤ r ∧ r < 32
      · have := j1_ev r true h0 h1 (fun _ => by omega)
        rw [if_pos rfl] at this
        rw [if_pos (.inl c3)]
        refine Ev.step (fun k => ?_) this
        simp only [jsstr_Unit.j0]
        rw [if_neg (by simp), if_neg c1, if_neg c2, if_pos c3.1, if_pos c3.2]
      · have hj := j1_ev r (r == 127) h0 h1 (fun h => by have := beq_iff_eq.1 h; omega)
        have e1 : (if (r == 127) = true then [92, 120, dig (r.toNat / 16), dig (r.toNat % 16)] else Lib.encodeRuneZ r) = (if (0 ≤ r ∧ r < 32) ∨ r = 127 then [92, 120, dig (r.toNat / 16), dig (r.toNat % 16)] else Lib.encodeRuneZ r) := by
          by_cases c4 : r = 127
          · rw [if_pos (beq_iff_eq.2 c4), if_pos (.inr c4)]
          · rw [if_neg (fun h => c4 (beq_iff_eq.1 h)), if_neg (by omega)]
        rw [e1] at hj
        refine Ev.step (fun k => ?_) hj
        simp only [jsstr_Unit.j0]
        rw [if_neg (by simp), if_neg c1, if_neg c2]
        by_cases c5 : r ≥ 0
        · rw [if_pos c5, if_neg (by omega)]
        · rw [if_neg c5]
theorem unit_ev (r : Int) (h0 : -2147483648 ≤ r) (h1 : r ≤ 2147483647) : Ev (fun k => jsstr_Unit.f k r) (unitJ r) := by
  have hf := j0_false r h0 h1
  unfold jsstr_Unit.f unitJ
  by_cases e1 : r = 92
  · simp only [if_pos e1]; exact Ev.now _
  by_cases e2 : r = 47
  · simp only [if_neg e1, if_pos e2]; exact Ev.now _
  by_cases e3 : r = 10
  · simp only [if_neg e1, if_neg e2, if_pos e3]; exact Ev.now _
  by_cases e4 : r = 13
  · simp only [if_neg e1, if_neg e2, if_neg e3, if_pos e4]; exact Ev.now _
  by_cases e5 : r = 9
  · simp only [if_neg e1, if_neg e2, if_neg e3, if_neg e4, if_pos e5]; exact Ev.now _
  simp only [if_neg e1, if_neg e2, if_neg e3, if_neg e4, if_neg e5]
  by_cases q1 : r = 39
  · subst q1; exact j0_true 39 39 (by omega)
  by_cases q2 : r = 34
  · subst q2; exact j0_true 34 34 (by omega)
  by_cases q3 : r = 60
  · subst q3; exact j0_true 60 60 (by omega)
  by_cases q4 : r = 62
  · subst q4; exact j0_true 62 62 (by omega)
  by_cases q5 : r = 38
  · subst q5; exact j0_true 38 38 (by omega)
  by_cases q6 : r = 96
  · subst q6; exact j0_true 96 96 (by omega)
  simp only [if_neg q1, if_neg q2, if_neg q3, if_neg q4, if_neg q5, if_neg q6]
  by_cases q7 : r = 61
  · subst q7; exact j0_true 61 61 (by omega)
  rw [show (r == 61) = false from beq_eq_false_iff_ne.2 q7]
  have e9 : (if Hexed r then [92, 120, dig (r.toNat / 16), dig (r.toNat % 16)] else Lib.encodeRuneZ r) = (if (0 ≤ r ∧ r < 32) ∨ r = 127 then [92, 120, dig (r.toNat / 16), dig (r.toNat % 16)] else Lib.encodeRuneZ r) := by
    by_cases c : (0 ≤ r ∧ r < 32) ∨ r = 127
    · rw [if_pos c, if_pos (by unfold Hexed; omega)]
    · rw [if_neg c, if_neg (by unfold Hexed; omega)]
  rw [e9]
  exact hf
end Go.Proofs.YtdpnnglfaofjeaaDoor.PJh

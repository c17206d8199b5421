import Derived.Test.YtdpnnglfaofjeaaDoorSL
namespace Go.Proofs.YtdpnnglfaofjeaaDoor.Z
open Go.RowKit Go.Lib Go.Proofs.YtdpnnglfaofjeaaDoorW.PrintWords
set_option linter.unusedVariables false
set_option linter.unusedSimpArgs false

/-! ### The plain law of SchemeNames -/
theorem getD_app_left (l t : List Int) (j : Nat) (h : j < l.length) : (l ++ t).getD j 0 = l.getD j 0 := by
  simp [List.getD_eq_getElem?_getD, List.getElem?_append_left h]
theorem getD_app_mid (l t : List Int) (x : Int) : (l ++ x :: t).getD l.length 0 = x := by
  simp [List.getD_eq_getElem?_getD]
theorem names_mark (l t : List Int) (hn : ∀ j : Nat, j < l.length → ¬ stop (l.getD j 0)) : mark (l ++ 58 :: t) = (l.length : Int) := by
  refine (mark_is _).unique (.inr ⟨l.length, rfl, by simp, ?_, fun j hj => ?_⟩)
  · rw [getD_app_mid]; exact .inl rfl
  · rw [getD_app_left _ _ _ hj]; exact hn j hj
theorem allowed_short (l : List Int) (h : allowed l = true) : l.length ≤ 6 := by
  have hl : (strOfNums (l.map low)).toList.length = l.length := by
    rw [Lib.toList_data, ← Lib.size_eq, strOfNums_size, List.length_map]
  unfold allowed okName at h
  rw [Bool.or_eq_true, Bool.or_eq_true, decide_eq_true_iff, decide_eq_true_iff, decide_eq_true_iff] at h
  rcases h with (h | h) | h <;> (rw [h] at hl; simp at hl; omega)
theorem names_stopped (l t : List Int) (hn : ∀ j : Nat, j < l.length → ¬ stop (l.getD j 0)) : stopped (l ++ 58 :: t) = !allowed l := by
  unfold stopped
  rw [names_mark l t hn, if_neg (by omega), Int.toNat_natCast, getD_app_mid, if_pos rfl, List.take_left]
  by_cases h : (l.length : Int) > 16
  · rw [if_pos h]
    cases ha : allowed l
    · rfl
    · have := allowed_short l ha
      omega
  · rw [if_neg h]
theorem slash_free (v : List Int) : stopped (47 :: v) = false := by
  have hm : mark (47 :: v) = 0 := (mark_is _).unique (.inr ⟨0, rfl, by simp, by simp [stop], fun j hj => by omega⟩)
  unfold stopped
  rw [hm]
  simp
end Go.Proofs.YtdpnnglfaofjeaaDoor.Z

import Derived.Test.YtdpnnglfaofjeaaJ
namespace Go.Proofs.Ytdpnnglfaofjeaa.PUtf
open Go.RowKit Go.Proofs.YtdpnnglfaofjeaaW.PrintWords Go.Proofs.YtdpnnglfaofjeaaW.PrintLast Go.Proofs.YtdpnnglfaofjeaaW.PrintMore
open U
set_option linter.unusedVariables false
set_option linter.unusedSimpArgs false

/-! ### the document's reading -/
theorem wrap_small {x : Int} (h : -9223372036854775808 ≤ x) (h2 : x ≤ 9223372036854775807) : wrap64 x = x := by unfold wrap64; omega
def needL (b : Int) : Int := if b < 128 then 1 else if b < 194 then 0 else if 244 < b then 0 else if b < 224 then 2 else if b < 240 then 3 else 4
theorem need_ev (b : Int) : Ev (fun k => bobbinref01_Need.f k b) (needL b) := by
  refine ⟨1, fun k hk => ?_⟩
  obtain ⟨k, rfl⟩ : ∃ m, k = m + 1 := ⟨k - 1, by omega⟩
  show bobbinref01_Need.f (k + 1) b = _
  simp only [bobbinref01_Need.f, bobbinref01_Need.j0, needL, if_true, decide_eq_true_eq]
  repeat' split
  all_goals first | rfl | (exfalso; omega) | (congr 1; omega)
theorem need_tail (b : Int) (h : 128 ≤ b) : needL b = if tailL b = [] then 0 else 1 + ((tailL b).length : Int) := by
  unfold needL tailL
  rw [if_neg (by omega)]
  repeat' split
  all_goals first | (simp at *; done) | (simp; done) | omega | (exfalso; omega)
def withinL (b : Int) (i : Int) (c : Int) : Bool :=
  if needL b ≤ i ∨ c < 128 ∨ 191 < c then false else if 1 < i then true
  else !(decide (b = 224 ∧ c < 160 ∨ b = 237 ∧ 159 < c ∨ b = 240 ∧ c < 144 ∨ b = 244 ∧ 143 < c))
theorem within_ev (b i c : Int) : Ev (fun k => bobbinref01_within.f k b i c) (withinL b i c) := by
  obtain ⟨K, hK⟩ := need_ev b
  refine ⟨K + 1, fun k hk => ?_⟩
  obtain ⟨k, rfl⟩ : ∃ m, k = m + 1 := ⟨k - 1, by omega⟩
  have hn : bobbinref01_Need.f (k + 1) b = some (needL b) := hK _ (by omega)
  show bobbinref01_within.f (k + 1) b i c = _
  simp only [bobbinref01_within.f, hn, Option.bind_some, bobbinref01_within.j0, withinL, if_true, decide_eq_true_eq]
  by_cases h1 : needL b ≤ i
  · rw [if_pos h1, if_pos (.inl h1)]
  · rw [if_neg (show ¬ i ≥ needL b from h1)]
    by_cases h2 : c < 128
    · rw [if_pos h2, if_pos (.inr (.inl h2))]
    · rw [if_neg h2]
      by_cases h3 : 191 < c
      · rw [if_pos h3, if_pos (.inr (.inr h3))]
      · rw [if_neg h3, if_neg (show ¬ (needL b ≤ i ∨ c < 128 ∨ 191 < c) from by omega)]
        by_cases h4 : 1 < i
        · rw [if_pos h4, if_pos h4]
        · rw [if_neg h4, if_neg h4]
          by_cases a1 : b = 224
          · subst a1; by_cases hc : c < 160 <;> simp [hc] <;> omega
          by_cases a2 : b = 237
          · subst a2; by_cases hc : 159 < c <;> simp [hc] <;> omega
          by_cases a3 : b = 240
          · subst a3; by_cases hc : c < 144 <;> simp [hc] <;> omega
          by_cases a4 : b = 244
          · subst a4; simp
          simp [a1, a2, a3, a4]
end Go.Proofs.Ytdpnnglfaofjeaa.PUtf

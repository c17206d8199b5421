import Derived.Test.YtdpnnglfaofjeaaPUtfx
namespace Go.Proofs.Ytdpnnglfaofjeaa.PUtf
open Go.RowKit Go.Proofs.YtdpnnglfaofjeaaW.PrintWords Go.Proofs.YtdpnnglfaofjeaaW.PrintLast Go.Proofs.YtdpnnglfaofjeaaW.PrintMore
open U
set_option linter.unusedVariables false
set_option linter.unusedSimpArgs false

theorem same_self (l : List Int) : ((strOfNums l).toList == (strOfNums l).toList) = true := by simp
theorem awake_true : bobbinlaw01_awake.f = some true := by
  have h1 : clean [226, 130] = fffd := clean_open _ (by decide) (by rfl)
  have h2 : clean [65, 226, 130] = [65] ++ fffd := by
    rw [clean_good _ (by decide) (by rfl) (by rfl)]
    exact congrArg (fun q => [65] ++ q) h1
  have h3 : utf_Clean.f [65, 226, 130] = some ([65] ++ fffd) := by unfold utf_Clean.f; rw [if_pos (by decide), h2]
  unfold bobbinlaw01_awake.f
  rw [h3]
  rfl
theorem clean_f (l : List Int) (h : l.length ≤ 1099511627776) : utf_Clean.f l = some (clean l) := by unfold utf_Clean.f; rw [if_pos h]
theorem isB_all (l : List Int) (h : IsB l) : (l.all fun x => decide (0 ≤ x) && decide (x ≤ 255)) = true := List.all_eq_true.2 fun x hx => by have := h x hx; simp; omega
theorem count_f (l : List Int) (h : l.length ≤ 1099511627776) (hB : IsB l) : utf_Count.f l = some ((chars l).length : Int) := by unfold utf_Count.f; rw [if_pos ⟨h, isB_all l hB⟩]
theorem clean_len (l : List Int) : (clean l).length ≤ 3 * l.length := by
  have h := run_len l
  unfold clean rest3
  rw [List.length_append]
  split <;> simp [fffd] <;> omega
theorem isB_wf (l : List Int) (h : ∀ x ∈ l, (Lit.int .u8 x).wf = true) : IsB l := fun x hx => by
  have := h x hx
  simpa [Lit.wf, IntKind.min, IntKind.max, IntKind.signed, IntKind.bits] using this

/-! ### a byte below 80 parts the text -/
theorem tailL_ge (x : Int) : ∀ s ∈ tailL x, 128 ≤ s.1 := by
  rintro ⟨a, b⟩ hs
  unfold tailL at hs
  repeat' split at hs
  all_goals simp at hs
  all_goals (simp only; omega)
theorem matchLen_stop : ∀ (t : List (Int × Int)) (l : List Int) (m : Int) (q : List Int), (∀ s ∈ t, 128 ≤ s.1) → m < 128 → matchLen t l = l.length → matchLen t l ≠ t.length → matchLen t (l ++ m :: q) = l.length
  | [], l, m, q, _, _, h, hn => by simp [matchLen] at hn
  | s :: t, [], m, q, hs, hm, h, hn => by
    have := hs s List.mem_cons_self
    simp [matchLen]
    omega
  | s :: t, x :: l, m, q, hs, hm, h, hn => by
    unfold matchLen at h hn ⊢
    simp only [List.cons_append]
    split at h
    · simp at h
    split at h
    · simp at h
    · rename_i h1 h2
      rw [if_neg h1, if_neg h2] at hn ⊢
      rw [matchLen_stop t l m q (fun s hs' => hs s (List.mem_cons_of_mem _ hs')) hm (by simp at h; omega) (by simp at hn; omega)]
      simp; omega
theorem clean_ascii (m : Int) (q : List Int) (hm : m < 128) : clean (m :: q) = m :: clean q := by
  have hf : firstL (m :: q) = (1, true, false) := by rw [firstL_cons]; unfold firstM; rw [if_pos hm]
  rw [clean_good _ (by simp) (by rw [hf]) (by rw [hf]), hf]
  rfl
theorem clean_rest (r : List Int) (hr : run r = ([], r)) (m : Int) (q : List Int) (hm : m < 128) : clean (r ++ m :: q) = rest3 r ++ m :: clean q := by
  by_cases hp : 0 < r.length
  · have ho : (firstL r).2.2 = true := by
      cases ho : (firstL r).2.2
      · exfalso
        cases hg : (firstL r).2.1
        · rw [run_bad r hp ho hg] at hr
          have := congrArg (fun z => z.1.length) hr
          simp [fffd] at this
        · rw [run_good r hp ho hg] at hr
          have h1 := firstL_pos r hp
          have h2 := firstL_le r hp
          have := congrArg (fun z => z.1.length) hr
          simp only [List.length_append, List.length_take, List.length_nil] at this
          omega
      · rfl
    cases r with
    | nil => simp at hp
    | cons x l =>
      rw [firstL_cons] at ho
      have hf : firstL (x :: l ++ m :: q) = (1 + (l.length : Int), false, false) := by
        rw [List.cons_append, firstL_cons]
        unfold firstM at ho ⊢
        by_cases h1 : x < 128
        · rw [if_pos h1] at ho; simp at ho
        · rw [if_neg h1] at ho ⊢
          by_cases h2 : tailL x = []
          · rw [if_pos h2] at ho; simp at ho
          · rw [if_neg h2] at ho ⊢
            by_cases h3 : matchLen (tailL x) l = (tailL x).length
            · rw [if_pos h3] at ho; simp at ho
            · rw [if_neg h3] at ho
              by_cases h4 : matchLen (tailL x) l = l.length
              · have hs := matchLen_stop (tailL x) l m q (tailL_ge x) hm h4 h3
                rw [hs, if_neg (by omega), if_neg (by simp)]
              · rw [if_neg h4] at ho; simp at ho
      have hp' : 0 < (x :: l ++ m :: q).length := by simp
      rw [clean_bad _ hp' (by rw [hf]) (by rw [hf]), hf]
      have hd : (x :: l ++ m :: q).drop (1 + (l.length : Int)).toNat = m :: q := by
        rw [show (1 + (l.length : Int)).toNat = l.length + 1 from by omega]
        simp
      rw [hd, clean_ascii m q hm]
      simp [rest3]
  · have : r = [] := List.eq_nil_of_length_eq_zero (by omega)
    subst this
    simp [rest3, clean_ascii m q hm]
theorem clean_lines (p q : List Int) (m : Int) (hm : m < 128) : clean (p ++ m :: q) = clean p ++ m :: clean q := by
  have h := run_append p (m :: q)
  have h2 := clean_rest (run p).2 (run_idem p) m q hm
  unfold clean at h2 ⊢
  rw [h]
  simp only
  rw [List.append_assoc, h2, List.append_assoc]
theorem lines_pure (l0 l1 : List Int) (a2 : Int) (h0 : l0.length + l1.length ≤ 1048576) (ha : 0 ≤ a2 ∧ a2 ≤ 255) : bobbinlaw01_UtfLines.f l0 l1 a2 = some true := by
  have c0 := clean_len l0
  have c1 := clean_len l1
  have hm : Int.tmod a2 128 < 128 := by rw [Int.tmod_eq_emod_of_nonneg ha.1]; omega
  have key := clean_lines l0 l1 (Int.tmod a2 128) hm
  have e1 : ([] ++ l0 ++ [Int.tmod a2 128] ++ l1 : List Int) = l0 ++ Int.tmod a2 128 :: l1 := by simp
  unfold bobbinlaw01_UtfLines.f
  rw [awake_true]
  simp only [Option.bind_some, if_true]
  rw [if_pos (by simp; omega), if_pos (by simp; omega), if_pos (by simp; omega), clean_f l0 (by omega)]
  simp only [Option.bind_some]
  rw [if_pos (by simp; omega), if_pos (by simp; omega), clean_f l1 (by omega)]
  simp only [Option.bind_some]
  rw [if_pos (by simp; omega), e1, clean_f _ (by simp; omega), key]
  simp [bobbinlaw01_same.f]
end Go.Proofs.Ytdpnnglfaofjeaa.PUtf

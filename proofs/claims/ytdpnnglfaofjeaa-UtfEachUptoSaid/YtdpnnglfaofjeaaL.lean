import Derived.Test.YtdpnnglfaofjeaaK
namespace Go.Proofs.Ytdpnnglfaofjeaa.PUtf
open Go.RowKit Go.Proofs.YtdpnnglfaofjeaaW.PrintWords Go.Proofs.YtdpnnglfaofjeaaW.PrintLast Go.Proofs.YtdpnnglfaofjeaaW.PrintMore
open U
set_option linter.unusedVariables false
set_option linter.unusedSimpArgs false

theorem within_span (x : Int) (i : Nat) (s : Int × Int) (c : Int) (h : (tailL x)[i]? = some s) : withinL x ((i : Int) + 1) c = (!decide (c < s.1) && !decide (s.2 < c)) := by
  have hx : 128 ≤ x := by
    rcases Int.lt_or_le x 128 with h1 | h1
    · have : tailL x = [] := by unfold tailL; repeat' (rw [if_neg (by omega)])
      rw [this] at h; simp at h
    · exact h1
  have hi : i < (tailL x).length := (List.getElem?_eq_some_iff.1 h).1
  have hn := need_tail x hx
  have hne : tailL x ≠ [] := by intro e; rw [e] at hi; simp at hi
  rw [if_neg hne] at hn
  unfold withinL
  rw [hn]
  unfold tailL at h hi ⊢
  split at h
  · rename_i a; rw [if_pos a] at hi ⊢
    match i, hi with
    | 0, _ => simp at h; subst h; rw [Bool.eq_iff_iff]; simp <;> omega
  split at h
  · rename_i a b; rw [if_neg a, if_pos b] at hi ⊢
    match i, hi with
    | 0, _ => simp at h; subst h; rw [Bool.eq_iff_iff]; simp <;> omega
    | 1, _ => simp at h; subst h; rw [Bool.eq_iff_iff]; simp <;> omega
  split at h
  · rename_i a b d; rw [if_neg a, if_neg b, if_pos d] at hi ⊢
    match i, hi with
    | 0, _ => simp at h; subst h; rw [Bool.eq_iff_iff]; simp <;> omega
    | 1, _ => simp at h; subst h; rw [Bool.eq_iff_iff]; simp <;> omega
  split at h
  · rename_i a b d e; rw [if_neg a, if_neg b, if_neg d, if_pos e] at hi ⊢
    match i, hi with
    | 0, _ => simp at h; subst h; rw [Bool.eq_iff_iff]; simp <;> omega
    | 1, _ => simp at h; subst h; rw [Bool.eq_iff_iff]; simp <;> omega
  split at h
  · rename_i a b d e f; rw [if_neg a, if_neg b, if_neg d, if_neg e, if_pos f] at hi ⊢
    match i, hi with
    | 0, _ => simp at h; subst h; rw [Bool.eq_iff_iff]; simp <;> omega
    | 1, _ => simp at h; subst h; rw [Bool.eq_iff_iff]; simp <;> omega
    | 2, _ => simp at h; subst h; rw [Bool.eq_iff_iff]; simp <;> omega
  split at h
  · rename_i a b d e f g; rw [if_neg a, if_neg b, if_neg d, if_neg e, if_neg f, if_pos g] at hi ⊢
    match i, hi with
    | 0, _ => simp at h; subst h; rw [Bool.eq_iff_iff]; simp <;> omega
    | 1, _ => simp at h; subst h; rw [Bool.eq_iff_iff]; simp <;> omega
    | 2, _ => simp at h; subst h; rw [Bool.eq_iff_iff]; simp <;> omega
  split at h
  · rename_i a b d e f g j; rw [if_neg a, if_neg b, if_neg d, if_neg e, if_neg f, if_neg g, if_pos j] at hi ⊢
    match i, hi with
    | 0, _ => simp at h; subst h; rw [Bool.eq_iff_iff]; simp <;> omega
    | 1, _ => simp at h; subst h; rw [Bool.eq_iff_iff]; simp <;> omega
    | 2, _ => simp at h; subst h; rw [Bool.eq_iff_iff]; simp <;> omega
  · simp at h

theorem piece_loop (x : Int) (q : List Int) (hq : q.length ≤ 1099511627776) : ∀ (r : List (Int × Int)) (i : Nat), r = (tailL x).drop i → i ≤ (tailL x).length → i ≤ q.length →
    Ev (fun k => bobbinref01_Piece.l0 k (x :: q) (1 + ((tailL x).length : Int)) (1 + (i : Int)))
      (1 + ((i + matchLen r (q.drop i) : Nat) : Int), decide (i + matchLen r (q.drop i) = (tailL x).length), decide (i + matchLen r (q.drop i) < (tailL x).length ∧ i + matchLen r (q.drop i) = q.length)) := by
  intro r
  have hlen : (((x :: q).length : Nat) : Int) = 1 + (q.length : Int) := by simp; omega
  induction r with
  | nil =>
    intro i hr hi hl
    have h1 : i = (tailL x).length := by
      have := congrArg List.length hr
      rw [List.length_drop, List.length_nil] at this
      omega
    refine ⟨1, fun k hk => ?_⟩
    obtain ⟨k, rfl⟩ : ∃ m, k = m + 1 := ⟨k - 1, by omega⟩
    show bobbinref01_Piece.l0 (k + 1) _ _ _ = _
    simp only [bobbinref01_Piece.l0, matchLen]
    rw [if_neg (by omega)]
    simp [h1]
  | cons s r ih =>
    intro i hr hi hl
    have hlt : i < (tailL x).length := by
      have := congrArg List.length hr
      rw [List.length_drop, List.length_cons] at this
      omega
    have hs : (tailL x)[i]? = some s := by
      have := congrArg (fun z => z[0]?) hr
      simpa using this.symm
    have hr' : r = (tailL x).drop (i + 1) := by
      rw [← List.drop_drop, ← hr]
      simp
    by_cases h1 : i < q.length
    · have hd : q.drop i = q.getD i 0 :: q.drop (i + 1) := by
        rw [List.drop_eq_getElem_cons h1]
        simp [List.getD_eq_getElem?_getD, h1]
      have hrd : rd (x :: q) (1 + (i : Int)) = q.getD i 0 := by rw [show (1 + (i : Int)) = (i : Int) + 1 from by omega]; exact rd_succ x q i
      have hr0 : rd (x :: q) 0 = x := by simp [rd]
      have hw := within_ev x (1 + (i : Int)) (q.getD i 0)
      have hws : withinL x (1 + (i : Int)) (q.getD i 0) = (!decide (q.getD i 0 < s.1) && !decide (s.2 < q.getD i 0)) := by rw [show (1 + (i : Int)) = (i : Int) + 1 from by omega]; exact within_span x i s _ hs
      rw [hws] at hw
      have hi2 := ih (i + 1) hr' (by omega) (by omega)
      refine Ev.step (f := fun k => (bobbinref01_within.f k x (1 + (i : Int)) (q.getD i 0)).bind fun t => if t = true then bobbinref01_Piece.l0 k (x :: q) (1 + ((tailL x).length : Int)) (wrap64 (1 + (i : Int) + 1)) else some (1 + (i : Int), 1 + (i : Int) == 1 + ((tailL x).length : Int), 1 + (i : Int) == ((x :: q).length : Int))) (fun k => ?_) (Ev.bind hw ?_)
      · simp only [bobbinref01_Piece.l0]
        rw [if_pos (by omega), if_pos (by omega), if_pos (by omega), if_pos (by omega), hr0, hrd]
      · rw [hd]
        by_cases h3 : q.getD i 0 < s.1
        · simp only [h3, decide_true, Bool.not_true, Bool.false_and, Bool.false_eq_true, if_false, matchLen, if_true, Nat.add_zero]
          have e1 : (1 + (i : Int) == 1 + ((tailL x).length : Int)) = decide (i = (tailL x).length) := by rw [Bool.eq_iff_iff]; simp <;> omega
          have e2 : (1 + (i : Int) == ((x :: q).length : Int)) = decide (i < (tailL x).length ∧ i = q.length) := by rw [hlen, Bool.eq_iff_iff]; simp <;> omega
          rw [e1, e2]
          exact Ev.now _
        · by_cases h4 : s.2 < q.getD i 0
          · simp only [h3, h4, decide_true, decide_false, Bool.not_true, Bool.and_false, Bool.false_eq_true, if_false, matchLen, if_true, Nat.add_zero]
            have e1 : (1 + (i : Int) == 1 + ((tailL x).length : Int)) = decide (i = (tailL x).length) := by rw [Bool.eq_iff_iff]; simp <;> omega
            have e2 : (1 + (i : Int) == ((x :: q).length : Int)) = decide (i < (tailL x).length ∧ i = q.length) := by rw [hlen, Bool.eq_iff_iff]; simp <;> omega
            rw [e1, e2]
            exact Ev.now _
          · simp only [h3, h4, decide_false, Bool.not_false, Bool.and_true, if_true, matchLen, if_false]
            rw [wrap_small (by omega) (by omega), show 1 + (i : Int) + 1 = 1 + ((i + 1 : Nat) : Int) from by omega]
            rw [show i + (1 + matchLen r (q.drop (i + 1))) = i + 1 + matchLen r (q.drop (i + 1)) from by omega]
            exact hi2
    · have hd : q.drop i = [] := List.drop_of_length_le (by omega)
      rw [hd]
      have hm : matchLen (s :: r) [] = 0 := by simp [matchLen]
      rw [hm]
      refine ⟨1, fun k hk => ?_⟩
      obtain ⟨k, rfl⟩ : ∃ m, k = m + 1 := ⟨k - 1, by omega⟩
      show bobbinref01_Piece.l0 (k + 1) _ _ _ = _
      simp only [bobbinref01_Piece.l0]
      rw [if_pos (by omega), if_neg (by omega)]
      have e1 : (1 + (i : Int) == 1 + ((tailL x).length : Int)) = decide (i + 0 = (tailL x).length) := by rw [Bool.eq_iff_iff]; simp <;> omega
      have e2 : (1 + (i : Int) == ((x :: q).length : Int)) = decide (i + 0 < (tailL x).length ∧ i + 0 = q.length) := by rw [hlen, Bool.eq_iff_iff]; simp <;> omega
      rw [e1, e2]
      rfl
theorem piece_ev (l : List Int) (hp : 0 < l.length) (hl : l.length ≤ 1099511627776) : Ev (fun k => bobbinref01_Piece.f k l) (firstL l) := by
  cases l with
  | nil => simp at hp
  | cons x q =>
    have hr0 : rd (x :: q) 0 = x := by simp [rd]
    simp at hl
    rw [firstL_cons]
    refine Ev.congr (f := fun k => (bobbinref01_Need.f k x).bind fun t => if t = 0 then some (1, false, false) else bobbinref01_Piece.l0 k (x :: q) t 1) (fun k => ?_) (Ev.bind (need_ev x) ?_)
    · unfold bobbinref01_Piece.f
      rw [if_pos (by simp), hr0]
    · unfold firstM
      by_cases h1 : x < 128
      · rw [if_pos h1, show needL x = 1 from by unfold needL; rw [if_pos h1]]
        refine ⟨1, fun k hk => ?_⟩
        obtain ⟨k, rfl⟩ : ∃ m, k = m + 1 := ⟨k - 1, by omega⟩
        simp [bobbinref01_Piece.l0]
      · rw [if_neg h1]
        have hn := need_tail x (by omega)
        by_cases h2 : tailL x = []
        · rw [if_pos h2] at hn ⊢
          rw [hn]
          exact Ev.now _
        · rw [if_neg h2] at hn ⊢
          rw [hn]
          have h := piece_loop x q (by omega) (tailL x) 0 (by simp) (by omega) (by omega)
          refine Ev.congr (f := fun k => bobbinref01_Piece.l0 k (x :: q) (1 + ((tailL x).length : Int)) (1 + ((0 : Nat) : Int))) (fun k => ?_) ?_
          · rw [if_neg (by omega)]; rfl
          · have hm := matchLen_le (tailL x) q
            simp only [Nat.zero_add, List.drop_zero] at h
            by_cases h3 : matchLen (tailL x) q = (tailL x).length
            · rw [if_pos h3]
              simpa [h3] using h
            · rw [if_neg h3]
              by_cases h4 : matchLen (tailL x) q = q.length
              · rw [if_pos h4]
                have h5 : q.length ≠ (tailL x).length := by omega
                have h6 : q.length < (tailL x).length := by omega
                simpa [h4, h5, h6] using h
              · rw [if_neg h4]
                simpa [h3, h4] using h
end Go.Proofs.Ytdpnnglfaofjeaa.PUtf

import Derived.Test.YtdpnnglfaofjeaaF
namespace Go.Proofs.Ytdpnnglfaofjeaa.U
open Go.RowKit Go.Proofs.YtdpnnglfaofjeaaW.PrintWords
set_option linter.unusedVariables false

/-- How many of the bytes fit, one behind the other. -/
def matchLen : List (Int × Int) → List Int → Nat
  | s :: t, x :: l => if x < s.1 then 0 else if s.2 < x then 0 else 1 + matchLen t l
  | _, _ => 0
theorem matchLen_le : ∀ t l, matchLen t l ≤ t.length ∧ matchLen t l ≤ l.length
  | [], l => by simp [matchLen]
  | s :: t, [] => by simp [matchLen]
  | s :: t, x :: l => by
    have := matchLen_le t l
    unfold matchLen
    split
    · simp
    split
    · simp
    · simp; omega
def firstM (x : Int) (l : List Int) : Int × Bool × Bool :=
  if x < 128 then (1, true, false) else
  if tailL x = [] then (1, false, false) else
  if matchLen (tailL x) l = (tailL x).length then (1 + ((tailL x).length : Int), true, false) else
  if matchLen (tailL x) l = l.length then (1 + (l.length : Int), false, true) else (1 + (matchLen (tailL x) l : Int), false, false)

theorem rd_succ (x : Int) (l : List Int) (i : Nat) : rd (x :: l) ((i : Int) + 1) = l.getD i 0 := by
  unfold rd
  rw [show ((i : Int) + 1).toNat = i + 1 from by omega]
  simp
theorem firstGo_eq (x : Int) (l : List Int) (t : List (Int × Int)) (ht : t ≠ []) : ∀ (r : List (Int × Int)) (i : Nat), r = t.drop i → i ≤ t.length → i ≤ l.length →
    firstGo (x :: l) t r i = if i + matchLen r (l.drop i) = t.length then (1 + (t.length : Int), true, false) else if i + matchLen r (l.drop i) = l.length then (1 + (l.length : Int), false, true) else (1 + ((i + matchLen r (l.drop i) : Nat) : Int), false, false)
  | [], i, hr, hi, hl => by
    have h1 : i = t.length := by
      have := congrArg List.length hr
      rw [List.length_drop, List.length_nil] at this
      omega
    simp [firstGo, matchLen, h1, ht]
  | s :: r, i, hr, hi, hl => by
    have hlt : i < t.length := by
      have := congrArg List.length hr
      rw [List.length_drop, List.length_cons] at this
      omega
    have hr' : r = t.drop (i + 1) := by
      rw [← List.drop_drop, ← hr]
      simp
    unfold firstGo
    by_cases h1 : i < l.length
    · have hd : l.drop i = l.getD i 0 :: l.drop (i + 1) := by
        rw [List.drop_eq_getElem_cons h1]
        simp [List.getD_eq_getElem?_getD, h1]
      rw [hd, rd_succ]
      have h2 : ¬ (((x :: l).length : Int) ≤ (i : Int) + 1) := by simp; omega
      rw [if_neg h2]
      unfold matchLen
      by_cases h3 : l.getD i 0 < s.1
      · rw [if_pos h3, if_pos h3]
        have e1 : ¬ (i + 0 = t.length) := by omega
        have e2 : ¬ (i + 0 = l.length) := by omega
        rw [if_neg e1, if_neg e2]
        simp; omega
      · rw [if_neg h3, if_neg h3]
        by_cases h4 : s.2 < l.getD i 0
        · rw [if_pos h4, if_pos h4]
          have e1 : ¬ (i + 0 = t.length) := by omega
          have e2 : ¬ (i + 0 = l.length) := by omega
          rw [if_neg e1, if_neg e2]
          simp; omega
        · rw [if_neg h4, if_neg h4, firstGo_eq x l t ht r (i + 1) hr' (by omega) (by omega)]
          rw [show i + 1 + matchLen r (l.drop (i + 1)) = i + (1 + matchLen r (l.drop (i + 1))) from by omega]
    · have h2 : ((x :: l).length : Int) ≤ (i : Int) + 1 := by simp; omega
      rw [if_pos h2]
      have hd : l.drop i = [] := List.drop_of_length_le (by omega)
      rw [hd]
      have hm : matchLen (s :: r) [] = 0 := by simp [matchLen]
      rw [hm]
      have e1 : ¬ (i + 0 = t.length) := by omega
      have e2 : i + 0 = l.length := by omega
      rw [if_neg e1, if_pos e2]
      simp; omega
theorem firstL_cons (x : Int) (l : List Int) : firstL (x :: l) = firstM x l := by
  have h0 : rd (x :: l) 0 = x := by simp [rd]
  unfold firstL firstM
  rw [h0]
  by_cases h1 : x < 128
  · rw [if_pos h1, if_pos h1]
  · rw [if_neg h1, if_neg h1]
    by_cases h2 : tailL x = []
    · rw [if_pos h2, h2]
      simp [firstGo]
    · rw [if_neg h2, firstGo_eq x l (tailL x) h2 (tailL x) 0 (by simp) (by omega) (by omega)]
      simp

theorem matchLen_append : ∀ t l l', matchLen t l < l.length ∨ matchLen t l = t.length → matchLen t (l ++ l') = matchLen t l
  | [], l, l', _ => by simp [matchLen]
  | s :: t, [], l', h => by simp [matchLen] at h
  | s :: t, x :: l, l', h => by
    unfold matchLen at h ⊢
    simp only [List.cons_append]
    split
    · rfl
    split
    · rfl
    · rename_i h1 h2
      rw [if_neg h1, if_neg h2] at h
      rw [matchLen_append t l l' (by simp at h; omega)]
theorem firstM_append (x : Int) (l l' : List Int) (h : (firstM x l).2.2 = false) : firstM x (l ++ l') = firstM x l := by
  have hle := matchLen_le (tailL x) l
  unfold firstM at h ⊢
  by_cases h1 : x < 128
  · rw [if_pos h1, if_pos h1]
  · rw [if_neg h1] at h ⊢
    rw [if_neg h1]
    by_cases h2 : tailL x = []
    · rw [if_pos h2, if_pos h2]
    · rw [if_neg h2] at h ⊢
      rw [if_neg h2]
      by_cases h3 : matchLen (tailL x) l = (tailL x).length
      · rw [matchLen_append _ _ _ (.inr h3)]
        simp [h3]
      · rw [if_neg h3] at h
        by_cases h4 : matchLen (tailL x) l = l.length
        · rw [if_pos h4] at h
          cases h
        · rw [matchLen_append _ _ _ (.inl (by omega)), if_neg h3, if_neg h3, if_neg h4, if_neg (by rw [List.length_append]; omega)]
theorem firstL_append (l l' : List Int) (hp : 0 < l.length) (h : (firstL l).2.2 = false) : firstL (l ++ l') = firstL l := by
  cases l with
  | nil => simp at hp
  | cons x l =>
    rw [firstL_cons] at h
    rw [List.cons_append, firstL_cons, firstL_cons, firstM_append x l l' h]
/-- Cut anywhere. -/
theorem run_append (a b : List Int) : run (a ++ b) = ((run a).1 ++ (run ((run a).2 ++ b)).1, (run ((run a).2 ++ b)).2) := by
  induction hn : a.length using Nat.strongRecOn generalizing a with
  | ind n ih =>
    by_cases hp : 0 < a.length
    · have hp' : 0 < (a ++ b).length := by rw [List.length_append]; omega
      have h1 := firstL_pos a hp
      have h2 := firstL_le a hp
      cases ho : (firstL a).2.2
      · have hf := firstL_append a b hp ho
        have hd : (a ++ b).drop (firstL a).1.toNat = a.drop (firstL a).1.toNat ++ b := List.drop_append_of_le_length (by omega)
        have ht : (a ++ b).take (firstL a).1.toNat = a.take (firstL a).1.toNat := List.take_append_of_le_length (by omega)
        have hi := ih (a.drop (firstL a).1.toNat).length (by rw [List.length_drop]; omega) _ rfl
        cases hg : (firstL a).2.1
        · rw [run_bad a hp ho hg, run_bad (a ++ b) hp' (by rw [hf]; exact ho) (by rw [hf]; exact hg), hf, hd, hi]
          simp [List.append_assoc]
        · rw [run_good a hp ho hg, run_good (a ++ b) hp' (by rw [hf]; exact ho) (by rw [hf]; exact hg), hf, hd, ht, hi]
          simp [List.append_assoc]
      · rw [run_open a hp ho]
        simp
    · have : a = [] := List.eq_nil_of_length_eq_zero (by omega)
      subst this
      rw [run_nil]
      simp
theorem run_idem (a : List Int) : run (run a).2 = ([], (run a).2) := by
  induction hn : a.length using Nat.strongRecOn generalizing a with
  | ind n ih =>
    by_cases hp : 0 < a.length
    · have h1 := firstL_pos a hp
      have hi := ih (a.drop (firstL a).1.toNat).length (by rw [List.length_drop]; omega) _ rfl
      cases ho : (firstL a).2.2
      · cases hg : (firstL a).2.1
        · rw [run_bad a hp ho hg]; exact hi
        · rw [run_good a hp ho hg]; exact hi
      · rw [run_open a hp ho]
        exact run_open a hp ho
    · have : a = [] := List.eq_nil_of_length_eq_zero (by omega)
      subst this
      rw [run_nil, run_nil]
theorem matchLen_take : ∀ t l j, matchLen t (l.take j) = min (matchLen t l) j
  | [], l, j => by simp [matchLen]
  | s :: t, [], j => by simp [matchLen]
  | s :: t, x :: l, 0 => by simp [matchLen]
  | s :: t, x :: l, j + 1 => by
    simp only [List.take_succ_cons]
    unfold matchLen
    split
    · simp
    split
    · simp
    · rw [matchLen_take t l j]
      omega
theorem firstM_take (x : Int) (l : List Int) (j : Nat) (hj : j ≤ l.length) (hn : (firstM x l).1 ≤ 1 + (j : Int)) (ho : (firstM x l).2.2 = false) :
    firstM x (l.take j) = firstM x l ∨ ((firstM x l).2.1 = false ∧ (firstM x l).1 = 1 + (j : Int) ∧ firstM x (l.take j) = (1 + (j : Int), false, true)) := by
  have hle := matchLen_le (tailL x) l
  unfold firstM at hn ho ⊢
  by_cases h1 : x < 128
  · rw [if_pos h1, if_pos h1]; exact .inl rfl
  · rw [if_neg h1] at hn ho ⊢
    rw [if_neg h1]
    by_cases h2 : tailL x = []
    · rw [if_pos h2, if_pos h2]; exact .inl rfl
    · rw [if_neg h2] at hn ho ⊢
      rw [if_neg h2, matchLen_take]
      have hl : (l.take j).length = j := by rw [List.length_take]; omega
      by_cases h3 : matchLen (tailL x) l = (tailL x).length
      · rw [if_pos h3] at hn
        simp only at hn
        rw [if_pos h3, if_pos (by omega)]
        exact .inl rfl
      · rw [if_neg h3] at hn ho ⊢
        by_cases h4 : matchLen (tailL x) l = l.length
        · rw [if_pos h4] at ho
          cases ho
        · rw [if_neg h4] at hn ⊢
          simp only at hn
          have hm : min (matchLen (tailL x) l) j = matchLen (tailL x) l := by omega
          rw [hm, if_neg h3, hl]
          by_cases h5 : matchLen (tailL x) l = j
          · rw [if_pos h5]
            exact .inr ⟨rfl, by simp only; omega, rfl⟩
          · rw [if_neg h5]
            exact .inl rfl
theorem firstL_take (a : List Int) (k : Nat) (hk : k ≤ a.length) (h0 : 0 < a.length) (hn : (firstL a).1 ≤ k) (ho : (firstL a).2.2 = false) :
    firstL (a.take k) = firstL a ∨ ((firstL a).2.1 = false ∧ (firstL a).1 = k ∧ firstL (a.take k) = ((k : Int), false, true)) := by
  cases a with
  | nil => simp at h0
  | cons x l =>
    have hp := firstL_pos (x :: l) h0
    rw [firstL_cons] at hn ho hp ⊢
    obtain ⟨j, rfl⟩ : ∃ j, k = j + 1 := ⟨k - 1, by omega⟩
    rw [List.take_succ_cons, firstL_cons]
    have h := firstM_take x l j (by simpa using hk) (by omega) ho
    have e : ((j + 1 : Nat) : Int) = 1 + (j : Int) := by omega
    rw [e]
    exact h
/-- The clean text. -/
theorem clean_nil : clean [] = [] := by simp [clean, run_nil, rest3]
theorem clean_open (l : List Int) (h : 0 < l.length) (ho : (firstL l).2.2 = true) : clean l = fffd := by simp [clean, run_open l h ho, rest3, h]
theorem clean_good (l : List Int) (h : 0 < l.length) (ho : (firstL l).2.2 = false) (hg : (firstL l).2.1 = true) : clean l = l.take (firstL l).1.toNat ++ clean (l.drop (firstL l).1.toNat) := by
  simp [clean, run_good l h ho hg, List.append_assoc]
theorem clean_bad (l : List Int) (h : 0 < l.length) (ho : (firstL l).2.2 = false) (hg : (firstL l).2.1 = false) : clean l = fffd ++ clean (l.drop (firstL l).1.toNat) := by
  simp [clean, run_bad l h ho hg, List.append_assoc]
theorem run_rest (a : List Int) : (run a).2 = a.drop (a.length - (run a).2.length) := by
  induction hn : a.length using Nat.strongRecOn generalizing a with
  | ind n ih =>
    subst hn
    by_cases hp : 0 < a.length
    · have h1 := firstL_pos a hp
      have h2 := firstL_le a hp
      have hlen := (run_len (a.drop (firstL a).1.toNat)).2
      have hi := ih (a.drop (firstL a).1.toNat).length (by rw [List.length_drop]; omega) _ rfl
      have key : (run (a.drop (firstL a).1.toNat)).2 = a.drop (a.length - (run (a.drop (firstL a).1.toNat)).2.length) := by
        rw [List.length_drop] at hlen
        rw [List.length_drop, List.drop_drop, show (firstL a).1.toNat + (a.length - (firstL a).1.toNat - (run (a.drop (firstL a).1.toNat)).2.length) = a.length - (run (a.drop (firstL a).1.toNat)).2.length from by omega] at hi
        exact hi
      cases ho : (firstL a).2.2
      · cases hg : (firstL a).2.1
        · rw [run_bad a hp ho hg]; exact key
        · rw [run_good a hp ho hg]; exact key
      · rw [run_open a hp ho]; simp
    · have : a = [] := List.eq_nil_of_length_eq_zero (by omega)
      subst this
      rw [run_nil]; rfl
/-- What is sure: the clean text of what stands in front of what waits. -/
theorem clean_sure (a : List Int) : clean (a.take (a.length - (run a).2.length)) = (run a).1 := by
  induction hn : a.length using Nat.strongRecOn generalizing a with
  | ind n ih =>
    subst hn
    by_cases hp : 0 < a.length
    · have h1 := firstL_pos a hp
      have h2 := firstL_le a hp
      cases ho : (firstL a).2.2
      · have hlen := (run_len (a.drop (firstL a).1.toNat)).2
        rw [List.length_drop] at hlen
        have hi := ih (a.drop (firstL a).1.toNat).length (by rw [List.length_drop]; omega) _ rfl
        rw [List.length_drop] at hi
        have hr2 : (run a).2 = (run (a.drop (firstL a).1.toNat)).2 := by
          cases hg : (firstL a).2.1
          · rw [run_bad a hp ho hg]
          · rw [run_good a hp ho hg]
        rw [hr2]
        generalize hk : a.length - (run (a.drop (firstL a).1.toNat)).2.length = k at *
        have hk1 : (firstL a).1.toNat ≤ k := by omega
        have hk2 : k ≤ a.length := by omega
        have hkl : (a.take k).length = k := by rw [List.length_take]; omega
        have hdt : (a.take k).drop (firstL a).1.toNat = (a.drop (firstL a).1.toNat).take (k - (firstL a).1.toNat) := by rw [List.drop_take]
        have he : a.length - (firstL a).1.toNat - (run (a.drop (firstL a).1.toNat)).2.length = k - (firstL a).1.toNat := by omega
        rw [he] at hi
        rcases firstL_take a k hk2 hp (by omega) ho with h | ⟨hg, hkn, h⟩
        · cases hg : (firstL a).2.1
          · rw [clean_bad (a.take k) (by omega) (by rw [h]; exact ho) (by rw [h]; exact hg), h, hdt, hi, run_bad a hp ho hg]
          · rw [clean_good (a.take k) (by omega) (by rw [h]; exact ho) (by rw [h]; exact hg), h, hdt, hi, run_good a hp ho hg, List.take_take]
            rw [show min (firstL a).1.toNat k = (firstL a).1.toNat from by omega]
        · rw [clean_open (a.take k) (by omega) (by rw [h]), run_bad a hp ho hg]
          rw [show k - (firstL a).1.toNat = 0 from by omega, List.take_zero, clean_nil] at hi
          rw [← hi]
          simp
      · rw [run_open a hp ho]
        simp [clean_nil]
    · have : a = [] := List.eq_nil_of_length_eq_zero (by omega)
      subst this
      rw [run_nil]
      exact clean_nil
end Go.Proofs.Ytdpnnglfaofjeaa.U

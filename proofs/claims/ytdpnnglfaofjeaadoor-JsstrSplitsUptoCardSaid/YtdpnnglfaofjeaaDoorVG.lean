import Derived.Test.YtdpnnglfaofjeaaDoorVA
import Derived.Lib.RuneCount
namespace Go.Proofs.YtdpnnglfaofjeaaDoor.V
open Go.RowKit Go.Proofs.YtdpnnglfaofjeaaDoorW.PrintWords
set_option linter.unusedVariables false

/-- How many of the bytes fit, one behind the other. -/
def matchLen : List (Int × Int) → List Int → Nat
  | s :: t, x :: l => if x < s.1 then 0 else if s.2 < x then 0 else 1 + matchLen t l
  | _, _ => 0
theorem matchLen_le : ∀ t l, matchLen t l ≤ t.length ∧ matchLen t l ≤ l.length
  | [], l => by simp [matchLen]
  | s :: t, [] => by simp [matchLen]
  | s :: t, x :: l => by
    have := matchLen_le t l
    unfold matchLen
    split
    · simp
    split
    · simp
    · simp; omega
def firstM (x : Int) (l : List Int) : Int × Bool × Bool :=
  if x < 128 then (1, true, false) else
  if tailL x = [] then (1, false, false) else
  if matchLen (tailL x) l = (tailL x).length then (1 + ((tailL x).length : Int), true, false) else
  if matchLen (tailL x) l = l.length then (1 + (l.length : Int), false, true) else (1 + (matchLen (tailL x) l : Int), false, false)

theorem rd_succ (x : Int) (l : List Int) (i : Nat) : rd (x :: l) ((i : Int) + 1) = l.getD i 0 := by
  unfold rd
  rw [show ((i : Int) + 1).toNat = i + 1 from by omega]
  simp
theorem firstGo_eq (x : Int) (l : List Int) (t : List (Int × Int)) (ht : t ≠ []) : ∀ (r : List (Int × Int)) (i : Nat), r = t.drop i → i ≤ t.length → i ≤ l.length →
    firstGo (x :: l) t r i = if i + matchLen r (l.drop i) = t.length then (1 + (t.length : Int), true, false) else if i + matchLen r (l.drop i) = l.length then (1 + (l.length : Int), false, true) else (1 + ((i + matchLen r (l.drop i) : Nat) : Int), false, false)
  | [], i, hr, hi, hl => by
    have h1 : i = t.length := by
      have := congrArg List.length hr
      rw [List.length_drop, List.length_nil] at this
      omega
    simp [firstGo, matchLen, h1, ht]
  | s :: r, i, hr, hi, hl => by
    have hlt : i < t.length := by
      have := congrArg List.length hr
      rw [List.length_drop, List.length_cons] at this
      omega
    have hr' : r = t.drop (i + 1) := by
      rw [← List.drop_drop, ← hr]
      simp
    unfold firstGo
    by_cases h1 : i < l.length
    · have hd : l.drop i = l.getD i 0 :: l.drop (i + 1) := by
        rw [List.drop_eq_getElem_cons h1]
        simp [List.getD_eq_getElem?_getD, h1]
      rw [hd, rd_succ]
      have h2 : ¬ (((x :: l).length : Int) ≤ (i : Int) + 1) := by simp; omega
      rw [if_neg h2]
      unfold matchLen
      by_cases h3 : l.getD i 0 < s.1
      · rw [if_pos h3, if_pos h3]
        have e1 : ¬ (i + 0 = t.length) := by omega
        have e2 : ¬ (i + 0 = l.length) := by omega
        rw [if_neg e1, if_neg e2]
        simp; omega
      · rw [if_neg h3, if_neg h3]
        by_cases h4 : s.2 < l.getD i 0
        · rw [if_pos h4, if_pos h4]
          have e1 : ¬ (i + 0 = t.length) := by omega
          have e2 : ¬ (i + 0 = l.length) := by omega
          rw [if_neg e1, if_neg e2]
          simp; omega
        · rw [if_neg h4, if_neg h4, firstGo_eq x l t ht r (i + 1) hr' (by omega) (by omega)]
          rw [show i + 1 + matchLen r (l.drop (i + 1)) = i + (1 + matchLen r (l.drop (i + 1))) from by omega]
    · have h2 : ((x :: l).length : Int) ≤ (i : Int) + 1 := by simp; omega
      rw [if_pos h2]
      have hd : l.drop i = [] := List.drop_of_length_le (by omega)
      rw [hd]
      have hm : matchLen (s :: r) [] = 0 := by simp [matchLen]
      rw [hm]
      have e1 : ¬ (i + 0 = t.length) := by omega
      have e2 : i + 0 = l.length := by omega
      rw [if_neg e1, if_pos e2]
      simp; omega
theorem firstL_cons (x : Int) (l : List Int) : firstL (x :: l) = firstM x l := by
  have h0 : rd (x :: l) 0 = x := by simp [rd]
  unfold firstL firstM
  rw [h0]
  by_cases h1 : x < 128
  · rw [if_pos h1, if_pos h1]
  · rw [if_neg h1, if_neg h1]
    by_cases h2 : tailL x = []
    · rw [if_pos h2, h2]
      simp [firstGo]
    · rw [if_neg h2, firstGo_eq x l (tailL x) h2 (tailL x) 0 (by simp) (by omega) (by omega)]
      simp

theorem matchLen_append : ∀ t l l', matchLen t l < l.length ∨ matchLen t l = t.length → matchLen t (l ++ l') = matchLen t l
  | [], l, l', _ => by simp [matchLen]
  | s :: t, [], l', h => by simp [matchLen] at h
  | s :: t, x :: l, l', h => by
    unfold matchLen at h ⊢
    simp only [List.cons_append]
    split
    · rfl
    split
    · rfl
    · rename_i h1 h2
      rw [if_neg h1, if_neg h2] at h
      rw [matchLen_append t l l' (by simp at h; omega)]
theorem firstM_append (x : Int) (l l' : List Int) (h : (firstM x l).2.2 = false) : firstM x (l ++ l') = firstM x l := by
  have hle := matchLen_le (tailL x) l
  unfold firstM at h ⊢
  by_cases h1 : x < 128
  · rw [if_pos h1, if_pos h1]
  · rw [if_neg h1] at h ⊢
    rw [if_neg h1]
    by_cases h2 : tailL x = []
    · rw [if_pos h2, if_pos h2]
    · rw [if_neg h2] at h ⊢
      rw [if_neg h2]
      by_cases h3 : matchLen (tailL x) l = (tailL x).length
      · rw [matchLen_append _ _ _ (.inr h3)]
        simp [h3]
      · rw [if_neg h3] at h
        by_cases h4 : matchLen (tailL x) l = l.length
        · rw [if_pos h4] at h
          cases h
        · rw [matchLen_append _ _ _ (.inl (by omega)), if_neg h3, if_neg h3, if_neg h4, if_neg (by rw [List.length_append]; omega)]
theorem firstL_append (l l' : List Int) (hp : 0 < l.length) (h : (firstL l).2.2 = false) : firstL (l ++ l') = firstL l := by
  cases l with
  | nil => simp at hp
  | cons x l =>
    rw [firstL_cons] at h
    rw [List.cons_append, firstL_cons, firstL_cons, firstM_append x l l' h]
/-- Cut anywhere. -/
theorem run_append (a b : List Int) : run (a ++ b) = ((run a).1 ++ (run ((run a).2 ++ b)).1, (run ((run a).2 ++ b)).2) := by
  induction hn : a.length using Nat.strongRecOn generalizing a with
  | ind n ih =>
    by_cases hp : 0 < a.length
    · have hp' : 0 < (a ++ b).length := by rw [List.length_append]; omega
      have h1 := firstL_pos a hp
      have h2 := firstL_le a hp
      cases ho : (firstL a).2.2
      · have hf := firstL_append a b hp ho
        have hd : (a ++ b).drop (firstL a).1.toNat = a.drop (firstL a).1.toNat ++ b := List.drop_append_of_le_length (by omega)
        have ht : (a ++ b).take (firstL a).1.toNat = a.take (firstL a).1.toNat := List.take_append_of_le_length (by omega)
        have hi := ih (a.drop (firstL a).1.toNat).length (by rw [List.length_drop]; omega) _ rfl
        cases hg : (firstL a).2.1
        · rw [run_bad a hp ho hg, run_bad (a ++ b) hp' (by rw [hf]; exact ho) (by rw [hf]; exact hg), hf, hd, hi]
          simp [List.append_assoc]
        · rw [run_good a hp ho hg, run_good (a ++ b) hp' (by rw [hf]; exact ho) (by rw [hf]; exact hg), hf, hd, ht, hi]
          simp [List.append_assoc]
      · rw [run_open a hp ho]
        simp
    · have : a = [] := List.eq_nil_of_length_eq_zero (by omega)
      subst this
      rw [run_nil]
      simp
theorem run_idem (a : List Int) : run (run a).2 = ([], (run a).2) := by
  induction hn : a.length using Nat.strongRecOn generalizing a with
  | ind n ih =>
    by_cases hp : 0 < a.length
    · have h1 := firstL_pos a hp
      have hi := ih (a.drop (firstL a).1.toNat).length (by rw [List.length_drop]; omega) _ rfl
      cases ho : (firstL a).2.2
      · cases hg : (firstL a).2.1
        · rw [run_bad a hp ho hg]; exact hi
        · rw [run_good a hp ho hg]; exact hi
      · rw [run_open a hp ho]
        exact run_open a hp ho
    · have : a = [] := List.eq_nil_of_length_eq_zero (by omega)
      subst this
      rw [run_nil, run_nil]
theorem matchLen_take : ∀ t l j, matchLen t (l.take j) = min (matchLen t l) j
  | [], l, j => by simp [matchLen]
  | s :: t, [], j => by simp [matchLen]
  | s :: t, x :: l, 0 => by simp [matchLen]
  | s :: t, x :: l, j + 1 => by
    simp only [List.take_succ_cons]
    unfold matchLen
    split
    · simp
    split
    · simp
    · rw [matchLen_take t l j]
      omega
theorem firstM_take (x : Int) (l : List Int) (j : Nat) (hj : j ≤ l.length) (hn : (firstM x l).1 ≤ 1 + (j : Int)) (ho : (firstM x l).2.2 = false) :
    firstM x (l.take j) = firstM x l ∨ ((firstM x l).2.1 = false ∧ (firstM x l).1 = 1 + (j : Int) ∧ firstM x (l.take j) = (1 + (j : Int), false, true)) := by
  have hle := matchLen_le (tailL x) l
  unfold firstM at hn ho ⊢
  by_cases h1 : x < 128
  · rw [if_pos h1, if_pos h1]; exact .inl rfl
  · rw [if_neg h1] at hn ho ⊢
    rw [if_neg h1]
    by_cases h2 : tailL x = []
    · rw [if_pos h2, if_pos h2]; exact .inl rfl
    · rw [if_neg h2] at hn ho ⊢
      rw [if_neg h2, matchLen_take]
      have hl : (l.take j).length = j := by rw [List.length_take]; omega
      by_cases h3 : matchLen (tailL x) l = (tailL x).length
      · rw [if_pos h3] at hn
        simp only at hn
        rw [if_pos h3, if_pos (by omega)]
        exact .inl rfl
      · rw [if_neg h3] at hn ho ⊢
        by_cases h4 : matchLen (tailL x) l = l.length
        · rw [if_pos h4] at ho
          cases ho
        · rw [if_neg h4] at hn ⊢
          simp only at hn
          have hm : min (matchLen (tailL x) l) j = matchLen (tailL x) l := by omega
          rw [hm, if_neg h3, hl]
          by_cases h5 : matchLen (tailL x) l = j
          · rw [if_pos h5]
            exact .inr ⟨rfl, by simp only; omega, rfl⟩
          · rw [if_neg h5]
            exact .inl rfl
theorem firstL_take (a : List Int) (k : Nat) (hk : k ≤ a.length) (h0 : 0 < a.length) (hn : (firstL a).1 ≤ k) (ho : (firstL a).2.2 = false) :
    firstL (a.take k) = firstL a ∨ ((firstL a).2.1 = false ∧ (firstL a).1 = k ∧ firstL (a.take k) = ((k : Int), false, true)) := by
  cases a with
  | nil => simp at h0
  | cons x l =>
    have hp := firstL_pos (x :: l) h0
    rw [firstL_cons] at hn ho hp ⊢
    obtain ⟨j, rfl⟩ : ∃ j, k = j + 1 := ⟨k - 1, by omega⟩
    rw [List.take_succ_cons, firstL_cons]
    have h := firstM_take x l j (by simpa using hk) (by omega) ho
    have e : ((j + 1 : Nat) : Int) = 1 + (j : Int) := by omega
    rw [e]
    exact h
/-- The clean text. -/
theorem clean_nil : clean [] = [] := by simp [clean, run_nil, rest3]
theorem clean_open (l : List Int) (h : 0 < l.length) (ho : (firstL l).2.2 = true) : clean l = fffd := by simp [clean, run_open l h ho, rest3, h]
theorem clean_good (l : List Int) (h : 0 < l.length) (ho : (firstL l).2.2 = false) (hg : (firstL l).2.1 = true) : clean l = l.take (firstL l).1.toNat ++ clean (l.drop (firstL l).1.toNat) := by
  simp [clean, run_good l h ho hg, List.append_assoc]
theorem clean_bad (l : List Int) (h : 0 < l.length) (ho : (firstL l).2.2 = false) (hg : (firstL l).2.1 = false) : clean l = fffd ++ clean (l.drop (firstL l).1.toNat) := by
  simp [clean, run_bad l h ho hg, List.append_assoc]
theorem run_rest (a : List Int) : (run a).2 = a.drop (a.length - (run a).2.length) := by
  induction hn : a.length using Nat.strongRecOn generalizing a with
  | ind n ih =>
    subst hn
    by_cases hp : 0 < a.length
    · have h1 := firstL_pos a hp
      have h2 := firstL_le a hp
      have hlen := (run_len (a.drop (firstL a).1.toNat)).2
      have hi := ih (a.drop (firstL a).1.toNat).length (by rw [List.length_drop]; omega) _ rfl
      have key : (run (a.drop (firstL a).1.toNat)).2 = a.drop (a.length - (run (a.drop (firstL a).1.toNat)).2.length) := by
        rw [List.length_drop] at hlen
        rw [List.length_drop, List.drop_drop, show (firstL a).1.toNat + (a.length - (firstL a).1.toNat - (run (a.drop (firstL a).1.toNat)).2.length) = a.length - (run (a.drop (firstL a).1.toNat)).2.length from by omega] at hi
        exact hi
      cases ho : (firstL a).2.2
      · cases hg : (firstL a).2.1
        · rw [run_bad a hp ho hg]; exact key
        · rw [run_good a hp ho hg]; exact key
      · rw [run_open a hp ho]; simp
    · have : a = [] := List.eq_nil_of_length_eq_zero (by omega)
      subst this
      rw [run_nil]; rfl
/-- What is sure: the clean text of what stands in front of what waits. -/
theorem clean_sure (a : List Int) : clean (a.take (a.length - (run a).2.length)) = (run a).1 := by
  induction hn : a.length using Nat.strongRecOn generalizing a with
  | ind n ih =>
    subst hn
    by_cases hp : 0 < a.length
    · have h1 := firstL_pos a hp
      have h2 := firstL_le a hp
      cases ho : (firstL a).2.2
      · have hlen := (run_len (a.drop (firstL a).1.toNat)).2
        rw [List.length_drop] at hlen
        have hi := ih (a.drop (firstL a).1.toNat).length (by rw [List.length_drop]; omega) _ rfl
        rw [List.length_drop] at hi
        have hr2 : (run a).2 = (run (a.drop (firstL a).1.toNat)).2 := by
          cases hg : (firstL a).2.1
          · rw [run_bad a hp ho hg]
          · rw [run_good a hp ho hg]
        rw [hr2]
        generalize hk : a.length - (run (a.drop (firstL a).1.toNat)).2.length = k at *
        have hk1 : (firstL a).1.toNat ≤ k := by omega
        have hk2 : k ≤ a.length := by omega
        have hkl : (a.take k).length = k := by rw [List.length_take]; omega
        have hdt : (a.take k).drop (firstL a).1.toNat = (a.drop (firstL a).1.toNat).take (k - (firstL a).1.toNat) := by rw [List.drop_take]
        have he : a.length - (firstL a).1.toNat - (run (a.drop (firstL a).1.toNat)).2.length = k - (firstL a).1.toNat := by omega
        rw [he] at hi
        rcases firstL_take a k hk2 hp (by omega) ho with h | ⟨hg, hkn, h⟩
        · cases hg : (firstL a).2.1
          · rw [clean_bad (a.take k) (by omega) (by rw [h]; exact ho) (by rw [h]; exact hg), h, hdt, hi, run_bad a hp ho hg]
          · rw [clean_good (a.take k) (by omega) (by rw [h]; exact ho) (by rw [h]; exact hg), h, hdt, hi, run_good a hp ho hg, List.take_take]
            rw [show min (firstL a).1.toNat k = (firstL a).1.toNat from by omega]
        · rw [clean_open (a.take k) (by omega) (by rw [h]), run_bad a hp ho hg]
          rw [show k - (firstL a).1.toNat = 0 from by omega, List.take_zero, clean_nil] at hi
          rw [← hi]
          simp
      · rw [run_open a hp ho]
        simp [clean_nil]
    · have : a = [] := List.eq_nil_of_length_eq_zero (by omega)
      subst this
      rw [run_nil]
      exact clean_nil
end Go.Proofs.YtdpnnglfaofjeaaDoor.V
namespace Go.Proofs.YtdpnnglfaofjeaaDoor.V
open Go.RowKit Go.Proofs.YtdpnnglfaofjeaaDoorW.PrintWords
set_option linter.unusedVariables false

/-- The characters of the clean text. -/
def chars (l : List Int) : List (List Int) :=
  if h : 0 < l.length then
    if (firstL l).2.2 = true then [fffd]
    else (if (firstL l).2.1 = true then l.take (firstL l).1.toNat else fffd) :: chars (l.drop (firstL l).1.toNat)
  else []
termination_by l.length
decreasing_by
  all_goals
    have := firstL_pos l h
    rw [List.length_drop]
    omega
theorem chars_nil : chars [] = [] := by unfold chars; simp
theorem chars_open (l : List Int) (h : 0 < l.length) (ho : (firstL l).2.2 = true) : chars l = [fffd] := by rw [chars, dif_pos h, if_pos ho]
theorem chars_good (l : List Int) (h : 0 < l.length) (ho : (firstL l).2.2 = false) (hg : (firstL l).2.1 = true) : chars l = l.take (firstL l).1.toNat :: chars (l.drop (firstL l).1.toNat) := by
  rw [chars, dif_pos h, if_neg (by simp [ho]), if_pos hg]
theorem chars_bad (l : List Int) (h : 0 < l.length) (ho : (firstL l).2.2 = false) (hg : (firstL l).2.1 = false) : chars l = fffd :: chars (l.drop (firstL l).1.toNat) := by
  rw [chars, dif_pos h, if_neg (by simp [ho]), if_neg (by simp [hg])]
theorem clean_chars (l : List Int) : clean l = (chars l).flatten := by
  induction hn : l.length using Nat.strongRecOn generalizing l with
  | ind n ih =>
    subst hn
    by_cases hp : 0 < l.length
    · have h1 := firstL_pos l hp
      have hi := ih (l.drop (firstL l).1.toNat).length (by rw [List.length_drop]; omega) _ rfl
      cases ho : (firstL l).2.2
      · cases hg : (firstL l).2.1
        · rw [clean_bad l hp ho hg, chars_bad l hp ho hg, hi]; rfl
        · rw [clean_good l hp ho hg, chars_good l hp ho hg, hi]; rfl
      · rw [clean_open l hp ho, chars_open l hp ho]; rfl
    · have : l = [] := List.eq_nil_of_length_eq_zero (by omega)
      subst this
      rw [clean_nil, chars_nil]; rfl

/-- A character, whatever stands behind it. -/
def IsChar (ch : List Int) : Prop := 0 < ch.length ∧ ∀ t, firstL (ch ++ t) = ((ch.length : Int), true, false)
theorem isChar_take (l : List Int) (h : 0 < l.length) (ho : (firstL l).2.2 = false) (hg : (firstL l).2.1 = true) : IsChar (l.take (firstL l).1.toNat) := by
  have h1 := firstL_pos l h
  have h2 := firstL_le l h
  have hlt : (l.take (firstL l).1.toNat).length = (firstL l).1.toNat := by rw [List.length_take]; omega
  have hf : firstL (l.take (firstL l).1.toNat) = firstL l := by
    rcases firstL_take l (firstL l).1.toNat (by omega) h (by omega) ho with h | ⟨hb, _⟩
    · exact h
    · rw [hg] at hb; cases hb
  refine ⟨by omega, fun t => ?_⟩
  rw [firstL_append _ t (by omega) (by rw [hf]; exact ho), hf, hlt]
  have e : ((firstL l).1.toNat : Int) = (firstL l).1 := by omega
  rw [e, ← hg, ← ho]
theorem isChar_fffd : IsChar fffd := by
  refine ⟨by decide, fun t => ?_⟩
  show firstL (239 :: 191 :: 189 :: t) = _
  rw [firstL_cons]
  simp [firstM, tailL, matchLen, fffd]
theorem isChar_chars (l : List Int) : ∀ ch ∈ chars l, IsChar ch := by
  induction hn : l.length using Nat.strongRecOn generalizing l with
  | ind n ih =>
    subst hn
    by_cases hp : 0 < l.length
    · have h1 := firstL_pos l hp
      have hi := ih (l.drop (firstL l).1.toNat).length (by rw [List.length_drop]; omega) _ rfl
      intro ch hc
      cases ho : (firstL l).2.2
      · cases hg : (firstL l).2.1
        · rw [chars_bad l hp ho hg] at hc
          rcases List.mem_cons.1 hc with rfl | hc
          · exact isChar_fffd
          · exact hi ch hc
        · rw [chars_good l hp ho hg] at hc
          rcases List.mem_cons.1 hc with rfl | hc
          · exact isChar_take l hp ho hg
          · exact hi ch hc
      · rw [chars_open l hp ho] at hc
        rw [List.mem_singleton.1 hc]
        exact isChar_fffd
    · have : l = [] := List.eq_nil_of_length_eq_zero (by omega)
      subst this
      rw [chars_nil]
      intro ch hc
      simp at hc
theorem chars_cons (ch t : List Int) (h : IsChar ch) : chars (ch ++ t) = ch :: chars t := by
  have hf := h.2 t
  have hp : 0 < (ch ++ t).length := by have := h.1; rw [List.length_append]; omega
  rw [chars_good _ hp (by rw [hf]) (by rw [hf]), hf]
  simp
theorem run_cons (ch t : List Int) (h : IsChar ch) : run (ch ++ t) = (ch ++ (run t).1, (run t).2) := by
  have hf := h.2 t
  have hp : 0 < (ch ++ t).length := by have := h.1; rw [List.length_append]; omega
  rw [run_good _ hp (by rw [hf]) (by rw [hf]), hf]
  simp
theorem chars_valid (chs : List (List Int)) (t : List Int) (h : ∀ ch ∈ chs, IsChar ch) : chars (chs.flatten ++ t) = chs ++ chars t := by
  induction chs with
  | nil => simp
  | cons ch chs ih =>
    simp only [List.flatten_cons, List.append_assoc, List.cons_append]
    rw [chars_cons _ _ (h ch List.mem_cons_self), ih (fun c hc => h c (List.mem_cons_of_mem _ hc))]
theorem run_valid (chs : List (List Int)) (t : List Int) (h : ∀ ch ∈ chs, IsChar ch) : run (chs.flatten ++ t) = (chs.flatten ++ (run t).1, (run t).2) := by
  induction chs with
  | nil => simp
  | cons ch chs ih =>
    simp only [List.flatten_cons, List.append_assoc]
    rw [run_cons _ _ (h ch List.mem_cons_self), ih (fun c hc => h c (List.mem_cons_of_mem _ hc))]
theorem chars_clean (l t : List Int) : chars (clean l ++ t) = chars l ++ chars t := by rw [clean_chars, chars_valid _ _ (isChar_chars l)]
theorem run_clean (l t : List Int) : run (clean l ++ t) = (clean l ++ (run t).1, (run t).2) := by rw [clean_chars, run_valid _ _ (isChar_chars l)]
theorem clean_clean (l t : List Int) : clean (clean l ++ t) = clean l ++ clean t := by
  rw [clean_chars (clean l ++ t), chars_clean, List.flatten_append, ← clean_chars, ← clean_chars]
theorem clean_idem (l : List Int) : clean (clean l) = clean l := by
  have h := clean_clean l []
  rw [List.append_nil, clean_nil, List.append_nil] at h
  exact h

def IsB (l : List Int) : Prop := ∀ x ∈ l, 0 ≤ x ∧ x ≤ 255
theorem matchLen_all : ∀ t l, matchLen t l = t.length → ∀ (i : Nat) (s : Int × Int) (x : Int), t[i]? = some s → l[i]? = some x → s.1 ≤ x ∧ x ≤ s.2
  | [], l, _, i, s, x, hs, _ => by simp at hs
  | a :: t, [], h, i, s, x, hs, hx => by simp at hx
  | a :: t, b :: l, h, i, s, x, hs, hx => by
    have hle := (matchLen_le t l).1
    unfold matchLen at h
    split at h
    · simp at h
    split at h
    · simp at h
    · rename_i h1 h2
      cases i with
      | zero =>
        simp at hs hx
        subst hs hx
        omega
      | succ i =>
        simp only [List.length_cons] at h
        exact matchLen_all t l (by omega) i s x (by simpa using hs) (by simpa using hx)
/-- What a character looks like. -/
def Form (ch : List Int) : Prop :=
  (∃ x, ch = [x] ∧ 0 ≤ x ∧ x < 128) ∨
  (∃ x y, ch = [x, y] ∧ 194 ≤ x ∧ x ≤ 223 ∧ 128 ≤ y ∧ y ≤ 191) ∨
  (∃ x y z, ch = [x, y, z] ∧ 224 ≤ x ∧ x ≤ 239 ∧ 128 ≤ y ∧ y ≤ 191 ∧ 128 ≤ z ∧ z ≤ 191 ∧ (x = 224 → 160 ≤ y) ∧ (x = 237 → y ≤ 159)) ∨
  (∃ x y z u, ch = [x, y, z, u] ∧ 240 ≤ x ∧ x ≤ 244 ∧ 128 ≤ y ∧ y ≤ 191 ∧ 128 ≤ z ∧ z ≤ 191 ∧ 128 ≤ u ∧ u ≤ 191 ∧ (x = 240 → 144 ≤ y) ∧ (x = 244 → y ≤ 143))
theorem form_of (ch : List Int) (h : IsChar ch) (hb : IsB ch) : Form ch := by
  have h1 := h.2 []
  rw [List.append_nil] at h1
  cases ch with
  | nil => have := h.1; simp at this
  | cons x l =>
    rw [firstL_cons] at h1
    unfold firstM at h1
    have hx := hb x List.mem_cons_self
    by_cases hx1 : x < 128
    · rw [if_pos hx1] at h1
      simp only [Prod.mk.injEq, List.length_cons, and_true] at h1
      have : l = [] := List.eq_nil_of_length_eq_zero (by omega)
      subst this
      exact .inl ⟨x, rfl, hx.1, hx1⟩
    · rw [if_neg hx1] at h1
      by_cases h2 : tailL x = []
      · rw [if_pos h2] at h1
        simp at h1
      · rw [if_neg h2] at h1
        by_cases h3 : matchLen (tailL x) l = (tailL x).length
        · rw [if_pos h3] at h1
          simp only [Prod.mk.injEq, List.length_cons, and_true] at h1
          have hm := matchLen_all _ _ h3
          have hll : l.length = (tailL x).length := by omega
          clear h1 h3 h hb
          unfold tailL at hm hll
          split at hm
          · rename_i a; rw [if_pos a] at hll
            match l, hll with
            | [y], _ => have h0 := hm 0 _ y rfl rfl; simp only at h0; exact .inr (.inl ⟨x, y, rfl, by omega⟩)
          split at hm
          · rename_i a b; rw [if_neg a, if_pos b] at hll
            match l, hll with
            | [y, z], _ => have h0 := hm 0 _ y rfl rfl; have h1 := hm 1 _ z rfl rfl; simp only at h0 h1; exact .inr (.inr (.inl ⟨x, y, z, rfl, by omega⟩))
          split at hm
          · rename_i a b c; rw [if_neg a, if_neg b, if_pos c] at hll
            match l, hll with
            | [y, z], _ => have h0 := hm 0 _ y rfl rfl; have h1 := hm 1 _ z rfl rfl; simp only at h0 h1; exact .inr (.inr (.inl ⟨x, y, z, rfl, by omega⟩))
          split at hm
          · rename_i a b c d; rw [if_neg a, if_neg b, if_neg c, if_pos d] at hll
            match l, hll with
            | [y, z], _ => have h0 := hm 0 _ y rfl rfl; have h1 := hm 1 _ z rfl rfl; simp only at h0 h1; exact .inr (.inr (.inl ⟨x, y, z, rfl, by omega⟩))
          split at hm
          · rename_i a b c d e; rw [if_neg a, if_neg b, if_neg c, if_neg d, if_pos e] at hll
            match l, hll with
            | [y, z, u], _ => have h0 := hm 0 _ y rfl rfl; have h1 := hm 1 _ z rfl rfl; have h2 := hm 2 _ u rfl rfl; simp only at h0 h1 h2; exact .inr (.inr (.inr ⟨x, y, z, u, rfl, by omega⟩))
          split at hm
          · rename_i a b c d e f; rw [if_neg a, if_neg b, if_neg c, if_neg d, if_neg e, if_pos f] at hll
            match l, hll with
            | [y, z, u], _ => have h0 := hm 0 _ y rfl rfl; have h1 := hm 1 _ z rfl rfl; have h2 := hm 2 _ u rfl rfl; simp only at h0 h1 h2; exact .inr (.inr (.inr ⟨x, y, z, u, rfl, by omega⟩))
          split at hm
          · rename_i a b c d e f g; rw [if_neg a, if_neg b, if_neg c, if_neg d, if_neg e, if_neg f, if_pos g] at hll
            match l, hll with
            | [y, z, u], _ => have h0 := hm 0 _ y rfl rfl; have h1 := hm 1 _ z rfl rfl; have h2 := hm 2 _ u rfl rfl; simp only at h0 h1 h2; exact .inr (.inr (.inr ⟨x, y, z, u, rfl, by omega⟩))
          · rename_i a b c d e f g
            exact absurd (by unfold tailL; rw [if_neg a, if_neg b, if_neg c, if_neg d, if_neg e, if_neg f, if_neg g]) h2
        · rw [if_neg h3] at h1
          split at h1 <;> simp at h1
theorem isB_fffd : IsB fffd := by intro x hx; simp [fffd] at hx; omega
theorem isB_clean (l : List Int) (h : IsB l) : IsB (clean l) ∧ ∀ ch ∈ chars l, IsB ch := by
  induction hn : l.length using Nat.strongRecOn generalizing l with
  | ind n ih =>
    subst hn
    by_cases hp : 0 < l.length
    · have h1 := firstL_pos l hp
      have hi := ih (l.drop (firstL l).1.toNat).length (by rw [List.length_drop]; omega) _ (fun x hx => h x (List.mem_of_mem_drop hx)) rfl
      have ht : IsB (l.take (firstL l).1.toNat) := fun x hx => h x (List.mem_of_mem_take hx)
      have app : ∀ {a b : List Int}, IsB a → IsB b → IsB (a ++ b) := fun ha hb x hx => (List.mem_append.1 hx).elim (ha x) (hb x)
      cases ho : (firstL l).2.2
      · cases hg : (firstL l).2.1
        · rw [clean_bad l hp ho hg, chars_bad l hp ho hg]
          exact ⟨app isB_fffd hi.1, fun ch hc => (List.mem_cons.1 hc).elim (fun e => e ▸ isB_fffd) (hi.2 ch)⟩
        · rw [clean_good l hp ho hg, chars_good l hp ho hg]
          exact ⟨app ht hi.1, fun ch hc => (List.mem_cons.1 hc).elim (fun e => e ▸ ht) (hi.2 ch)⟩
      · rw [clean_open l hp ho, chars_open l hp ho]
        exact ⟨isB_fffd, fun ch hc => by rw [List.mem_singleton.1 hc]; exact isB_fffd⟩
    · have : l = [] := List.eq_nil_of_length_eq_zero (by omega)
      subst this
      rw [clean_nil, chars_nil]
      exact ⟨fun x hx => by simp at hx, fun x hx => by simp at hx⟩
theorem form_chars (l : List Int) (h : IsB l) : ∀ ch ∈ chars l, Form ch := fun ch hc => form_of ch (isChar_chars l ch hc) ((isB_clean l h).2 ch hc)

/-- The number of a character. -/
def runeOf : List Int → Int
  | [x] => x
  | [x, y] => x % 32 * 64 + y % 64
  | [x, y, z] => x % 16 * 4096 + y % 64 * 64 + z % 64
  | [x, y, z, u] => x % 8 * 262144 + y % 64 * 4096 + z % 64 * 64 + u % 64
  | _ => 0
theorem get_str (l : List Int) (i : Nat) (x : Int) (h : l[i]? = some x) (hx : 0 ≤ x ∧ x ≤ 255) : ((strOfNums l).get! i).toNat = x.toNat := by
  have hi : i < l.length := (List.getElem?_eq_some_iff.1 h).1
  have h2 : (strOfNums l).data.toList[i]? = some (UInt8.ofNat x.toNat) := by rw [strOfNums_data, List.getElem?_map, h]; rfl
  have h3 : (strOfNums l).get! i = UInt8.ofNat x.toNat := by
    show (strOfNums l).data[i]! = _
    rw [Array.getElem!_eq_getD, Array.getD_eq_getD_getElem?, ← Array.getElem?_toList, h2]
    rfl
  rw [h3]
  simp
  omega
theorem str_size (l : List Int) : (strOfNums l).size = l.length := strOfNums_size l
/-- What Go's range finds at a character. -/
theorem decode_form (a ch t : List Int) (h : Form ch) : Utf8.decode (strOfNums (a ++ ch ++ t)) a.length = ((runeOf ch).toNat, ch.length) := by
  have hsz := str_size (a ++ ch ++ t)
  have get : ∀ (j : Nat) (x : Int), ch[j]? = some x → 0 ≤ x ∧ x ≤ 255 → ((strOfNums (a ++ ch ++ t)).get! (a.length + j)).toNat = x.toNat := fun j x hj hx =>
    get_str _ _ x (by
      have hl : j < ch.length := (List.getElem?_eq_some_iff.1 hj).1
      rw [List.append_assoc, List.getElem?_append_right (by omega), show a.length + j - a.length = j from by omega, List.getElem?_append_left hl]
      exact hj) hx
  generalize strOfNums (a ++ ch ++ t) = s_ at hsz get ⊢
  have hsz' : s_.size = a.length + ch.length + t.length := by rw [hsz]; simp [Nat.add_assoc]
  clear hsz
  rcases h with ⟨x, rfl, h1, h2⟩ | ⟨x, y, rfl, h1, h2, h3, h4⟩ | ⟨x, y, z, rfl, h1, h2, h3, h4, h5, h6, h7, h8⟩ | ⟨x, y, z, u, rfl, h1, h2, h3, h4, h5, h6, h7, h8, h9, h10⟩
  · have g0 := get 0 x rfl (by omega)
    simp only [Utf8.decode, g0, runeOf]
    rw [if_pos (by omega)]
    rfl
  · have g0 := get 0 x rfl (by omega)
    have g1 := get 1 y rfl (by omega)
    have hs : (a.length + 1 < s_.size) := by simp only [List.length_cons, List.length_nil] at hsz'; omega
    simp only [Utf8.decode, g0, g1, runeOf]
    rw [if_neg (by omega)]
    have c1 : (x.toNat / 32 == 6 && (decide (a.length + 1 < s_.size) && y.toNat / 64 == 2)) = true := by simp [hs]; omega
    rw [if_pos c1, if_pos (by omega)]
    simp
    omega
  · have g0 := get 0 x rfl (by omega)
    have g1 := get 1 y rfl (by omega)
    have g2 := get 2 z rfl (by omega)
    have hs1 : (a.length + 1 < s_.size) := by simp only [List.length_cons, List.length_nil] at hsz'; omega
    have hs2 : (a.length + 2 < s_.size) := by simp only [List.length_cons, List.length_nil] at hsz'; omega
    simp only [Utf8.decode, g0, g1, g2, runeOf]
    rw [if_neg (by omega)]
    have c1 : (x.toNat / 32 == 6 && (decide (a.length + 1 < s_.size) && y.toNat / 64 == 2)) = false := by
      have : (x.toNat / 32 == 6) = false := beq_eq_false_iff_ne.2 (by omega)
      rw [this]; rfl
    have c2 : (x.toNat / 16 == 14 && (decide (a.length + 1 < s_.size) && y.toNat / 64 == 2) && (decide (a.length + 2 < s_.size) && z.toNat / 64 == 2)) = true := by simp [hs1, hs2]; omega
    rw [c1, c2]
    have c3 : (decide (x.toNat % 16 * 4096 + y.toNat % 64 * 64 + z.toNat % 64 ≥ 2048) && Utf8.valid ((x.toNat % 16 * 4096 + y.toNat % 64 * 64 + z.toNat % 64 : Nat) : Int)) = true := by
      simp [Utf8.valid]; omega
    rw [if_neg (by decide), if_pos rfl, if_pos c3]
    simp
    omega
  · have g0 := get 0 x rfl (by omega)
    have g1 := get 1 y rfl (by omega)
    have g2 := get 2 z rfl (by omega)
    have g3 := get 3 u rfl (by omega)
    have hs1 : (a.length + 1 < s_.size) := by simp only [List.length_cons, List.length_nil] at hsz'; omega
    have hs2 : (a.length + 2 < s_.size) := by simp only [List.length_cons, List.length_nil] at hsz'; omega
    have hs3 : (a.length + 3 < s_.size) := by simp only [List.length_cons, List.length_nil] at hsz'; omega
    simp only [Utf8.decode, g0, g1, g2, g3, runeOf]
    rw [if_neg (by omega)]
    have e1 : (x.toNat / 32 == 6) = false := beq_eq_false_iff_ne.2 (by omega)
    have e2 : (x.toNat / 16 == 14) = false := beq_eq_false_iff_ne.2 (by omega)
    have c2 : (x.toNat / 8 == 30 && (decide (a.length + 1 < s_.size) && y.toNat / 64 == 2) && (decide (a.length + 2 < s_.size) && z.toNat / 64 == 2) && (decide (a.length + 3 < s_.size) && u.toNat / 64 == 2)) = true := by simp [hs1, hs2, hs3]; omega
    rw [e1, e2, c2]
    have c3 : (decide (x.toNat % 8 * 262144 + y.toNat % 64 * 4096 + z.toNat % 64 * 64 + u.toNat % 64 ≥ 65536) && Utf8.valid ((x.toNat % 8 * 262144 + y.toNat % 64 * 4096 + z.toNat % 64 * 64 + u.toNat % 64 : Nat) : Int)) = true := by
      simp [Utf8.valid]; omega
    simp only [Bool.false_and, Bool.false_eq_true, if_false, if_true]
    rw [if_pos c3]
    simp
    omega
theorem form_pos {ch : List Int} (h : Form ch) : 0 < ch.length := by
  rcases h with ⟨x, rfl, _⟩ | ⟨x, y, rfl, _⟩ | ⟨x, y, z, rfl, _⟩ | ⟨x, y, z, u, rfl, _⟩ <;> simp
end Go.Proofs.YtdpnnglfaofjeaaDoor.V

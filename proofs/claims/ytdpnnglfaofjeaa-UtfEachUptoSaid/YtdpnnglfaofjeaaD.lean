import Derived.Test.YtdpnnglfaofjeaaC
namespace Go.Proofs.Ytdpnnglfaofjeaa.U
open Go.RowKit Go.Proofs.YtdpnnglfaofjeaaW.PrintWords
set_option linter.unusedVariables false

theorem firstGo_pos (l : List Int) (t : List (Int × Int)) : ∀ (r : List (Int × Int)) (i : Nat), 0 < l.length → 1 ≤ (firstGo l t r i).1
  | [], i, h => by simp [firstGo]; omega
  | s :: r, i, h => by
    unfold firstGo
    split
    · simp; omega
    split
    · simp; omega
    split
    · simp; omega
    · exact firstGo_pos l t r (i + 1) h
theorem firstL_pos (l : List Int) (h : 0 < l.length) : 1 ≤ (firstL l).1 := by
  unfold firstL
  split
  · simp
  · exact firstGo_pos l _ _ 0 h
theorem firstGo_le (l : List Int) (t : List (Int × Int)) : ∀ (r : List (Int × Int)) (i : Nat), i < l.length → t.length = i + r.length → (firstGo l t r i).1 ≤ l.length
  | [], i, h, ht => by simp [firstGo] at *; omega
  | s :: r, i, h, ht => by
    unfold firstGo
    simp at ht
    split
    · simp
    split
    · simp; omega
    split
    · simp; omega
    · exact firstGo_le l t r (i + 1) (by omega) (by omega)
theorem firstL_le (l : List Int) (h : 0 < l.length) : (firstL l).1 ≤ l.length := by
  unfold firstL
  split
  · simp; omega
  · exact firstGo_le l _ _ 0 h (by omega)

def fffd : List Int := [239, 191, 189]
/-- What the pieces of l that are sure make, and what waits. -/
def run (l : List Int) : List Int × List Int :=
  if h : 0 < l.length then
    if (firstL l).2.2 = true then ([], l)
    else ((if (firstL l).2.1 = true then l.take (firstL l).1.toNat else fffd) ++ (run (l.drop (firstL l).1.toNat)).1, (run (l.drop (firstL l).1.toNat)).2)
  else ([], [])
termination_by l.length
decreasing_by
  all_goals
    have := firstL_pos l h
    rw [List.length_drop]
    omega
theorem run_nil : run [] = ([], []) := by unfold run; simp
theorem run_open (l : List Int) (h : 0 < l.length) (ho : (firstL l).2.2 = true) : run l = ([], l) := by rw [run, dif_pos h, if_pos ho]
theorem run_good (l : List Int) (h : 0 < l.length) (ho : (firstL l).2.2 = false) (hg : (firstL l).2.1 = true) :
    run l = (l.take (firstL l).1.toNat ++ (run (l.drop (firstL l).1.toNat)).1, (run (l.drop (firstL l).1.toNat)).2) := by
  rw [run, dif_pos h, if_neg (by simp [ho]), if_pos hg]
theorem run_bad (l : List Int) (h : 0 < l.length) (ho : (firstL l).2.2 = false) (hg : (firstL l).2.1 = false) :
    run l = (fffd ++ (run (l.drop (firstL l).1.toNat)).1, (run (l.drop (firstL l).1.toNat)).2) := by
  rw [run, dif_pos h, if_neg (by simp [ho]), if_neg (by simp [hg])]
theorem run_len (l : List Int) : (run l).1.length + 3 * (run l).2.length ≤ 3 * l.length ∧ (run l).2.length ≤ l.length := by
  induction hn : l.length using Nat.strongRecOn generalizing l with
  | ind n ih =>
    by_cases h : 0 < l.length
    · have h1 := firstL_pos l h
      have h2 := firstL_le l h
      have hd := ih (l.drop (firstL l).1.toNat).length (by rw [List.length_drop]; omega) _ rfl
      rw [List.length_drop] at hd
      cases ho : (firstL l).2.2
      · cases hg : (firstL l).2.1
        · rw [run_bad l h ho hg]
          simp only [List.length_append, fffd, List.length_cons, List.length_nil]
          omega
        · rw [run_good l h ho hg]
          simp only [List.length_append, List.length_take]
          omega
      · rw [run_open l h ho]
        simp
        omega
    · have : l = [] := List.eq_nil_of_length_eq_zero (by omega)
      subst this
      rw [run_nil]
      simp
end Go.Proofs.Ytdpnnglfaofjeaa.U

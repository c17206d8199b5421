import Derived.Test.YtdpnnglfaofjeaaN
namespace Go.Proofs.Ytdpnnglfaofjeaa.U
open Go.RowKit Go.Proofs.YtdpnnglfaofjeaaW.PrintWords Go.Proofs.YtdpnnglfaofjeaaW.PrintLast Go.Proofs.YtdpnnglfaofjeaaW.PrintMore
set_option linter.unusedVariables false
set_option linter.unusedSimpArgs false

/-! ### a decoder beside a row -/
def DR (w0 W : World) (g : Nat) (l : List Int) (v : Value) (xs : List Int) : Prop :=
  DecIs W (fun k => True ∧ some k ≠ v.ownBlock) g l ∧ OB w0 W v xs ∧ Below w0.heap.size w0 W ∧ w0.heap.size ≤ g
theorem DR.below {w0 W W' : World} {g : Nat} {l : List Int} {v : Value} {xs : List Int} (h : DR w0 W g l v xs) (hb : Below W.heap.size W W') : DR w0 W' g l v xs :=
  ⟨h.1.below hb, Kd.R_below h.2.1 hb, below_then h.2.2.1 h.2.2.1.size hb, h.2.2.2⟩
theorem DR.feed {w0 W W' : World} {g : Nat} {l p : List Int} {v : Value} {xs : List Int} {e : Ending} (h : DR w0 W g l v xs) (hf : FeedIs W g (run (l ++ p)) e W') :
    ∃ A c, e = .returned (.slice A (run (l ++ p)).1.length c) ∧ (run (l ++ p)).1.length ≤ c ∧ DR w0 W' g (run (l ++ p)).2 v xs ∧ Kd.C (Kd.int .u8) W' A (run (l ++ p)).1.length (run (l ++ p)).1 := by
  obtain ⟨v2, rfl, ho, hd, hg⟩ := hf
  obtain ⟨A, c, rfl, hc, hC⟩ := Kd.R_reads ho
  obtain ⟨hD, hR, hB, hle⟩ := h
  have hne := hD.1.2
  refine ⟨A, c, rfl, hc, ⟨hd.mono ?_, Kd.R_grown2 hR rfl hg (by rintro k ⟨⟩; exact hne), pw_below_grown hB _ hB.size hg (by rintro k ⟨⟩; exact hle), hle⟩, hC⟩
  rintro k ⟨h1, _⟩
  refine ⟨trivial, ?_⟩
  rcases h1 with rfl | h1
  · exact hne
  · intro he
    have := Kd.R_lt hR k he.symm
    omega
theorem DR.append {w0 W w1 : World} {g : Nat} {l : List Int} {v v1 : Value} {xs ys : List Int} (h : DR w0 W g l v xs) (ho : OB w0 w1 v1 ys) (hb : Below w0.heap.size w0 w1) (hg : W.grownBy w1 v.ownBlock)
    (hat : v1.ownBlock = v.ownBlock ∨ ∃ b, v1.ownBlock = some b ∧ W.heap.size ≤ b) : DR w0 w1 g l v1 ys :=
  ⟨h.1.after hg hat, ho, hb, h.2.2.2⟩
theorem DR.finish {w0 W W' : World} {g : Nat} {l : List Int} {v : Value} {xs : List Int} {e : Ending} (h : DR w0 W g l v xs) (hf : FinishIs W (fun k => True ∧ some k ≠ v.ownBlock) g l e W') :
    ∃ A c, e = .returned (.slice A (rest3 l).length c) ∧ (rest3 l).length ≤ c ∧ DR w0 W' g [] v xs ∧ Kd.C (Kd.int .u8) W' A (rest3 l).length (rest3 l) := by
  obtain ⟨v2, rfl, hr, hd, hg⟩ := hf
  obtain ⟨A, c, rfl, hc, hC⟩ := hr.reads
  obtain ⟨hD, hR, hB, hle⟩ := h
  have hne := hD.1.2
  exact ⟨A, c, rfl, hc, ⟨hd, Kd.R_grown2 hR rfl hg (by rintro k ⟨⟩; exact hne), pw_below_grown hB _ hB.size hg (by rintro k ⟨⟩; exact hle), hle⟩, hC⟩
theorem DR.new {w0 W W' : World} (hB : Below w0.heap.size w0 W) (hd : DecIs W' (fun k => W.heap.size ≤ k) W.heap.size []) (hb : Below W.heap.size W W') : DR w0 W' W.heap.size [] (.slice none 0 0) [] :=
  ⟨hd.mono (fun k _ => ⟨trivial, by simp [Value.ownBlock]⟩), Kd.R_nil _ _ _ _ _, below_then hB hB.size hb, hB.size⟩

/-! ### what waits -/
theorem tailL_len (x : Int) : (tailL x).length ≤ 3 := by
  unfold tailL
  repeat' split
  all_goals simp
theorem wait_le (a : List Int) : (run a).2.length ≤ 3 := by
  have h := run_idem a
  generalize (run a).2 = r at h
  by_cases hp : 0 < r.length
  · have ho : (firstL r).2.2 = true := by
      cases ho : (firstL r).2.2
      · exfalso
        cases hg : (firstL r).2.1
        · rw [run_bad r hp ho hg] at h
          have := congrArg (fun z => z.1.length) h
          simp [fffd] at this
        · rw [run_good r hp ho hg] at h
          have h1 := firstL_pos r hp
          have h2 := firstL_le r hp
          have := congrArg (fun z => z.1.length) h
          simp only [List.length_append, List.length_take, List.length_nil] at this
          omega
      · rfl
    cases r with
    | nil => simp at hp
    | cons x l =>
      rw [firstL_cons] at ho
      have ht := tailL_len x
      have hm := matchLen_le (tailL x) l
      unfold firstM at ho
      by_cases h1 : x < 128
      · rw [if_pos h1] at ho; simp at ho
      · rw [if_neg h1] at ho
        by_cases h2 : tailL x = []
        · rw [if_pos h2] at ho; simp at ho
        · rw [if_neg h2] at ho
          by_cases h3 : matchLen (tailL x) l = (tailL x).length
          · rw [if_pos h3] at ho; simp at ho
          · rw [if_neg h3] at ho
            by_cases h4 : matchLen (tailL x) l = l.length
            · simp; omega
            · rw [if_neg h4] at ho; simp at ho
  · omega
theorem run_take_succ (l : List Int) (i : Nat) (h : i < l.length) :
    run (l.take (i + 1)) = ((run (l.take i)).1 ++ (run ((run (l.take i)).2 ++ (l.take (i + 1)).drop i)).1, (run ((run (l.take i)).2 ++ (l.take (i + 1)).drop i)).2) := by
  rw [← run_append]
  congr 1
  have e : (l.take (i + 1)).take i = l.take i := by rw [List.take_take]; congr 1; omega
  rw [← e, List.take_append_drop]
theorem run_split (l : List Int) (n : Nat) : run l = ((run (l.take n)).1 ++ (run ((run (l.take n)).2 ++ l.drop n)).1, (run ((run (l.take n)).2 ++ l.drop n)).2) := by
  rw [← run_append, List.take_append_drop]
end Go.Proofs.Ytdpnnglfaofjeaa.U

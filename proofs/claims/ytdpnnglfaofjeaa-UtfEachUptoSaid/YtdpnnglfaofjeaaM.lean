import Derived.Test.YtdpnnglfaofjeaaL
import Derived.Laws.BitsLemmas
namespace Go.Proofs.Ytdpnnglfaofjeaa.PUtf
open Go.RowKit Go.Proofs.YtdpnnglfaofjeaaW.PrintWords Go.Proofs.YtdpnnglfaofjeaaW.PrintLast Go.Proofs.YtdpnnglfaofjeaaW.PrintMore
open U
set_option linter.unusedVariables false
set_option linter.unusedSimpArgs false

/-! ### where a character can begin -/
theorem bits192_nat : ∀ n : Nat, n < 256 → (Go.bits .and .u8 (n : Int) 192 = 128 ↔ 128 ≤ n ∧ n ≤ 191) := by decide +kernel
theorem bits192 (x : Int) (h : 0 ≤ x ∧ x ≤ 255) : Go.bits .and .u8 x 192 = 128 ↔ 128 ≤ x ∧ x ≤ 191 := by
  obtain ⟨n, rfl⟩ := Int.eq_ofNat_of_zero_le h.1
  have := bits192_nat n (by omega)
  omega
def backL (l : List Int) : Nat → Nat
  | 0 => 0
  | n + 1 => if n + 1 < l.length ∧ 128 ≤ rd l ((n + 1 : Nat) : Int) ∧ rd l ((n + 1 : Nat) : Int) ≤ 191 then backL l n else n + 1
theorem rd_isB (l : List Int) (hB : IsB l) (n : Nat) (h : n < l.length) : 0 ≤ rd l (n : Int) ∧ rd l (n : Int) ≤ 255 := by
  have : rd l (n : Int) = l[n] := by simp [rd, List.getD_eq_getElem?_getD, h]
  rw [this]
  exact hB _ (List.getElem_mem h)
theorem boundary_ev (l : List Int) (hB : IsB l) (hl : l.length ≤ 140737488351232) : ∀ n : Nat, n ≤ l.length → Ev (fun k => utf_Boundary.l0 k l (n : Int)) ((backL l n : Nat) : Int)
  | 0, _ => by
    refine ⟨1, fun k hk => ?_⟩
    obtain ⟨k, rfl⟩ : ∃ m, k = m + 1 := ⟨k - 1, by omega⟩
    simp [utf_Boundary.l0, backL]
  | n + 1, h => by
    by_cases h1 : n + 1 < l.length
    · have hr := bits192 _ (rd_isB l hB (n + 1) h1)
      by_cases h2 : 128 ≤ rd l ((n + 1 : Nat) : Int) ∧ rd l ((n + 1 : Nat) : Int) ≤ 191
      · have ih := boundary_ev l hB hl n (by omega)
        refine Ev.step (f := fun k => utf_Boundary.l0 k l (n : Int)) (fun k => ?_) (by rw [show backL l (n + 1) = backL l n from by simp only [backL]; rw [if_pos ⟨h1, h2⟩]]; exact ih)
        simp only [utf_Boundary.l0]
        rw [if_pos (by omega), if_pos (by omega), if_pos (by omega), if_pos (hr.2 h2), wrap_small (by omega) (by omega)]
        congr 1
        omega
      · have h3 : ¬ Go.bits .and .u8 (rd l ((n + 1 : Nat) : Int)) 192 = 128 := fun e => h2 (hr.1 e)
        refine ⟨1, fun k hk => ?_⟩
        obtain ⟨k, rfl⟩ : ∃ m, k = m + 1 := ⟨k - 1, by omega⟩
        show utf_Boundary.l0 (k + 1) l _ = _
        simp only [utf_Boundary.l0, backL]
        rw [if_pos (by omega), if_pos (by omega), if_pos (by omega), if_neg h3, if_neg (fun e => h2 e.2)]
    · refine ⟨1, fun k hk => ?_⟩
      obtain ⟨k, rfl⟩ : ∃ m, k = m + 1 := ⟨k - 1, by omega⟩
      show utf_Boundary.l0 (k + 1) l _ = _
      simp only [utf_Boundary.l0, backL]
      rw [if_pos (by omega), if_neg (by omega), if_neg (fun e => h1 e.1)]
theorem boundaries_loop (l : List Int) (hB : IsB l) (hl : l.length ≤ 140737488351232) (a1 : Int) (r : Nat) (hb : Ev (fun k => utf_Boundary.f k l a1) ((r : Nat) : Int)) :
    ∀ n : Nat, n ≤ l.length → backL l n = r → Ev (fun k => bobbinlaw01_UtfBoundaries.l0 k l a1 (n : Int)) true
  | 0, _, e => by
    refine Ev.step (f := fun k => (utf_Boundary.f k l a1).bind fun t => some (t == (0 : Int))) (fun k => ?_) (Ev.bind hb ?_)
    · simp [bobbinlaw01_UtfBoundaries.l0]
    · subst e; exact Ev.now _
  | n + 1, h, e => by
    have fin : backL l (n + 1) = n + 1 → Ev (fun k => (utf_Boundary.f k l a1).bind fun t => some (t == ((n + 1 : Nat) : Int))) true := fun e2 => by
      refine Ev.bind hb ?_
      rw [← e, e2]
      simp only [BEq.rfl]
      exact Ev.now _
    by_cases h1 : n + 1 < l.length
    · by_cases h2 : 128 ≤ rd l ((n + 1 : Nat) : Int) ∧ rd l ((n + 1 : Nat) : Int) ≤ 191
      · have ih := boundaries_loop l hB hl a1 r hb n (by omega) (by rw [← e]; simp only [backL]; rw [if_pos ⟨h1, h2⟩])
        refine Ev.step (f := fun k => bobbinlaw01_UtfBoundaries.l0 k l a1 (n : Int)) (fun k => ?_) ih
        simp only [bobbinlaw01_UtfBoundaries.l0]
        rw [if_pos (by omega), if_pos (by omega), if_pos (by omega), if_pos h2.1, if_pos h2.2, wrap_small (by omega) (by omega)]
        congr 1
        omega
      · refine Ev.step (fun k => ?_) (fin (by simp only [backL]; rw [if_neg (fun e => h2 e.2)]))
        simp only [bobbinlaw01_UtfBoundaries.l0]
        rw [if_pos (by omega), if_pos (by omega), if_pos (by omega)]
        by_cases h3 : 128 ≤ rd l ((n + 1 : Nat) : Int)
        · rw [if_pos h3, if_neg (fun e => h2 ⟨h3, e⟩)]
        · rw [if_neg h3]
    · refine Ev.step (fun k => ?_) (fin (by simp only [backL]; rw [if_neg (fun e => h1 e.1)]))
      simp only [bobbinlaw01_UtfBoundaries.l0]
      rw [if_pos (by omega), if_neg (by omega)]
theorem boundaries_pure : bobbinlaw01_UtfBoundaries.Pure := by
  intro l a1 hm hl hw ha
  have hl' : l.length ≤ 140737488351232 := by omega
  have hB := isB_wf l hw
  obtain ⟨n, hn, hle⟩ : ∃ n : Nat, mn (mx a1 0) (l.length : Int) = (n : Int) ∧ n ≤ l.length := ⟨(mn (mx a1 0) (l.length : Int)).toNat, by unfold mn mx; split <;> split <;> omega, by unfold mn mx; split <;> split <;> omega⟩
  have hb : Ev (fun k => utf_Boundary.f k l a1) ((backL l n : Nat) : Int) := by
    refine Ev.congr (fun k => ?_) (boundary_ev l hB hl' n hle)
    unfold utf_Boundary.f
    rw [hn]
  have hlp := boundaries_loop l hB hl' a1 _ hb n hle rfl
  refine Ev.rounds (Ev.congr (f := fun k => if a1 > (l.length : Int) then bobbinlaw01_UtfBoundaries.j0 k l a1 (l.length : Int) else bobbinlaw01_UtfBoundaries.j0 k l a1 a1) (fun k => ?_) ?_)
  · unfold bobbinlaw01_UtfBoundaries.f
    rw [awake_true]
    rfl
  · have go : ∀ v : Int, (if v < 0 then (0 : Int) else v) = (n : Int) → Ev (fun k => bobbinlaw01_UtfBoundaries.j0 k l a1 v) true := fun v hv => by
      refine Ev.step (f := fun k => bobbinlaw01_UtfBoundaries.j1 k l a1 (n : Int)) (fun k => ?_) (Ev.step (f := fun k => bobbinlaw01_UtfBoundaries.l0 k l a1 (n : Int)) (fun k => ?_) hlp)
      · simp only [bobbinlaw01_UtfBoundaries.j0]
        by_cases h : v < 0
        · rw [if_pos h] at hv ⊢; rw [hv]
        · rw [if_neg h] at hv ⊢; rw [hv]
      · simp only [bobbinlaw01_UtfBoundaries.j1]
    by_cases h : a1 > (l.length : Int)
    · simp only [if_pos h]
      exact go _ (by unfold mn mx at hn; repeat' split at hn; all_goals (repeat' split); all_goals omega)
    · simp only [if_neg h]
      exact go _ (by unfold mn mx at hn; repeat' split at hn; all_goals (repeat' split); all_goals omega)

/-! ### clean text is its own clean text -/
theorem chars_self (l : List Int) : chars (clean l) = chars l := by
  have h := chars_clean l []
  have h0 : chars [] = [] := by rw [chars]; simp
  rw [List.append_nil, h0, List.append_nil] at h
  exact h
theorem clean_plain : ∀ l : List Int, (∀ x ∈ l, x < 128) → clean l = l
  | [], _ => clean_nil
  | x :: l, h => by rw [clean_ascii x l (h x List.mem_cons_self), clean_plain l (fun y hy => h y (List.mem_cons_of_mem _ hy))]
theorem settles_loop (l : List Int) (hl : l.length ≤ 1099511627776) : ∀ (d : Nat) (f : Bool) (i : Nat), i + d = l.length → (f = true → ∀ j : Nat, j < i → rd l (j : Int) < 128) → Ev (fun k => bobbinlaw01_UtfSettles.l0 k l (clean l) f (i : Int)) true := by
  intro d
  induction d with
  | zero =>
    intro f i hi hf
    refine ⟨1, fun k hk => ?_⟩
    obtain ⟨k, rfl⟩ : ∃ m, k = m + 1 := ⟨k - 1, by omega⟩
    show bobbinlaw01_UtfSettles.l0 (k + 1) l _ _ _ = _
    simp only [bobbinlaw01_UtfSettles.l0]
    rw [if_neg (by omega)]
    cases f with
    | false => rfl
    | true =>
      have hp : clean l = l := clean_plain l (fun x hx => by
        obtain ⟨j, hj, rfl⟩ := List.getElem_of_mem hx
        have := hf rfl j (by omega)
        simpa [rd, List.getD_eq_getElem?_getD, hj] using this)
      rw [hp]
      simp [bobbinlaw01_same.f]
  | succ d ih =>
    intro f i hi hf
    by_cases h : rd l (i : Int) ≥ 128
    · refine Ev.step (f := fun k => bobbinlaw01_UtfSettles.l0 k l (clean l) false ((i + 1 : Nat) : Int)) (fun k => ?_) (ih false (i + 1) (by omega) (fun e => by cases e))
      simp only [bobbinlaw01_UtfSettles.l0]
      rw [if_pos (by omega), if_pos (by omega), if_pos h, wrap_small (by omega) (by omega)]
      rfl
    · refine Ev.step (f := fun k => bobbinlaw01_UtfSettles.l0 k l (clean l) f ((i + 1 : Nat) : Int)) (fun k => ?_) (ih f (i + 1) (by omega) (fun e j hj => by
        rcases Nat.lt_or_ge j i with h1 | h1
        · exact hf e j h1
        · obtain rfl : j = i := by omega
          omega))
      simp only [bobbinlaw01_UtfSettles.l0]
      rw [if_pos (by omega), if_pos (by omega), if_neg h, wrap_small (by omega) (by omega)]
      rfl
theorem isB_append {a b : List Int} (h1 : IsB a) (h2 : IsB b) : IsB (a ++ b) := fun x hx => (List.mem_append.1 hx).elim (h1 x) (h2 x)
theorem chars_len (l : List Int) : (chars l).length ≤ l.length := by
  induction hn : l.length using Nat.strongRecOn generalizing l with
  | ind n ih =>
    subst hn
    by_cases hp : 0 < l.length
    · have h1 := firstL_pos l hp
      have h2 := firstL_le l hp
      cases ho : (firstL l).2.2
      · have h3 := ih (l.drop (firstL l).1.toNat).length (by simp; omega) _ rfl
        cases hg : (firstL l).2.1
        · rw [chars_bad l hp ho hg]; simp at h3 ⊢; omega
        · rw [chars_good l hp ho hg]; simp at h3 ⊢; omega
      · rw [chars_open l hp ho]; simp; omega
    · rw [chars, dif_neg hp]; simp
theorem settles_pure (l0 l1 : List Int) (h0 : l0.length + l1.length ≤ 1048576) (hB0 : IsB l0) (hB1 : IsB l1) : ∃ k, bobbinlaw01_UtfSettles.f k l0 l1 = some true := by
  have c0 := clean_len l0
  have c1 := clean_len l1
  have n0 := chars_len l0
  have n1 := chars_len l1
  have k0 := (isB_clean l0 hB0).1
  have k1 := (isB_clean l1 hB1).1
  have cc : clean (clean l0 ++ clean l1) = clean l0 ++ clean l1 := by rw [clean_clean, clean_idem]
  have hc : chars (clean l0 ++ clean l1) = chars l0 ++ chars l1 := by rw [chars_clean, chars_self]
  refine Ev.rounds (Ev.congr (f := fun k => bobbinlaw01_UtfSettles.j0 k l0 l1 (clean l0) (clean l1) false) (fun k => ?_) ?_)
  · unfold bobbinlaw01_UtfSettles.f
    rw [awake_true, clean_f l0 (by omega), clean_f l1 (by omega)]
    simp only [Option.bind_some, if_true]
    rw [clean_f (clean l0) (by omega), clean_idem]
    simp only [Option.bind_some, bobbinlaw01_same.f, BEq.rfl, if_true]
    rw [count_f (clean l0) (by omega) k0, count_f l0 (by omega) hB0, chars_self]
    simp only [Option.bind_some, if_true]
    rw [wrap_small (by omega) (by omega), decide_eq_false (by omega)]
  · refine Ev.step (f := fun k => bobbinlaw01_UtfSettles.j1 k l0 (clean l0) false) (fun k => ?_) (Ev.step (f := fun k => bobbinlaw01_UtfSettles.l0 k l0 (clean l0) true ((0 : Nat) : Int)) (fun k => ?_) (settles_loop l0 (by omega) l0.length true 0 (by omega) (fun _ j hj => by omega)))
    · simp only [bobbinlaw01_UtfSettles.j0, Bool.false_eq_true, if_false, List.nil_append, Option.bind_some]
      rw [if_pos (by simp; omega), if_pos (by omega), clean_f _ (by simp; omega), cc]
      simp only [Option.bind_some, bobbinlaw01_same.f, BEq.rfl, if_true]
      rw [count_f _ (by simp; omega) (isB_append k0 k1), count_f l0 (by omega) hB0, count_f l1 (by omega) hB1, hc]
      simp only [Option.bind_some]
      rw [wrap_small (by omega) (by omega)]
      simp
    · simp only [bobbinlaw01_UtfSettles.j1, Bool.false_eq_true, if_false]
      rfl
end Go.Proofs.Ytdpnnglfaofjeaa.PUtf

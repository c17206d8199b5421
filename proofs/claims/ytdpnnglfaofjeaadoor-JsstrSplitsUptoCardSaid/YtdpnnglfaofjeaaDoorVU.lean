import Derived.Test.YtdpnnglfaofjeaaDoorPUtfx2
import Derived.Test.YtdpnnglfaofjeaaDoorVG
namespace Go.Proofs.YtdpnnglfaofjeaaDoor.PUtf
open Go.RowKit Go.Proofs.YtdpnnglfaofjeaaDoorW.PrintWords Go.Proofs.YtdpnnglfaofjeaaDoorW.PrintLast Go.Proofs.YtdpnnglfaofjeaaDoorW.PrintMore
open V
set_option linter.unusedVariables false
set_option linter.unusedSimpArgs false
set_option maxRecDepth 100000
theorem same_self (l : List Int) : ((strOfNums l).toList == (strOfNums l).toList) = true := by simp
theorem clean_len (l : List Int) : (clean l).length ≤ 3 * l.length := by
  have h := run_len l
  unfold clean rest3
  rw [List.length_append]
  split <;> simp [fffd] <;> omega
theorem isB_wf (l : List Int) (h : ∀ x ∈ l, (Lit.int .u8 x).wf = true) : IsB l := fun x hx => by
  have := h x hx
  simpa [Lit.wf, IntKind.min, IntKind.max, IntKind.signed, IntKind.bits] using this

/-! ### a byte below 80 parts the text -/

/-! ### the document's reading -/
theorem wrap_small {x : Int} (h : -9223372036854775808 ≤ x) (h2 : x ≤ 9223372036854775807) : wrap64 x = x := by unfold wrap64; omega
def needL (b : Int) : Int := if b < 128 then 1 else if b < 194 then 0 else if 244 < b then 0 else if b < 224 then 2 else if b < 240 then 3 else 4
theorem need_ev (b : Int) : Ev (fun k => bobbinref01_Need.f k b) (needL b) := by
  refine ⟨1, fun k hk => ?_⟩
  obtain ⟨k, rfl⟩ : ∃ m, k = m + 1 := ⟨k - 1, by omega⟩
  show bobbinref01_Need.f (k + 1) b = _
  simp only [bobbinref01_Need.f, bobbinref01_Need.j0, needL, if_true, decide_eq_true_eq]
  repeat' split
  all_goals first | rfl | (exfalso; omega) | (congr 1; omega)
theorem need_tail (b : Int) (h : 128 ≤ b) : needL b = if tailL b = [] then 0 else 1 + ((tailL b).length : Int) := by
  unfold needL tailL
  rw [if_neg (by omega)]
  repeat' split
  all_goals first | (simp at *; done) | (simp; done) | omega | (exfalso; omega)
def withinL (b : Int) (i : Int) (c : Int) : Bool :=
  if needL b ≤ i ∨ c < 128 ∨ 191 < c then false else if 1 < i then true
  else !(decide (b = 224 ∧ c < 160 ∨ b = 237 ∧ 159 < c ∨ b = 240 ∧ c < 144 ∨ b = 244 ∧ 143 < c))
theorem within_ev (b i c : Int) : Ev (fun k => bobbinref01_within.f k b i c) (withinL b i c) := by
  obtain ⟨K, hK⟩ := need_ev b
  refine ⟨K + 1, fun k hk => ?_⟩
  obtain ⟨k, rfl⟩ : ∃ m, k = m + 1 := ⟨k - 1, by omega⟩
  have hn : bobbinref01_Need.f (k + 1) b = some (needL b) := hK _ (by omega)
  show bobbinref01_within.f (k + 1) b i c = _
  simp only [bobbinref01_within.f, hn, Option.bind_some, bobbinref01_within.j0, withinL, if_true, decide_eq_true_eq]
  by_cases h1 : needL b ≤ i
  · rw [if_pos h1, if_pos (.inl h1)]
  · rw [if_neg (show ¬ i ≥ needL b from h1)]
    by_cases h2 : c < 128
    · rw [if_pos h2, if_pos (.inr (.inl h2))]
    · rw [if_neg h2]
      by_cases h3 : 191 < c
      · rw [if_pos h3, if_pos (.inr (.inr h3))]
      · rw [if_neg h3, if_neg (show ¬ (needL b ≤ i ∨ c < 128 ∨ 191 < c) from by omega)]
        by_cases h4 : 1 < i
        · rw [if_pos h4, if_pos h4]
        · rw [if_neg h4, if_neg h4]
          by_cases a1 : b = 224
          · subst a1; by_cases hc : c < 160 <;> simp [hc] <;> omega
          by_cases a2 : b = 237
          · subst a2; by_cases hc : 159 < c <;> simp [hc] <;> omega
          by_cases a3 : b = 240
          · subst a3; by_cases hc : c < 144 <;> simp [hc] <;> omega
          by_cases a4 : b = 244
          · subst a4; simp
          simp [a1, a2, a3, a4]

theorem within_span (x : Int) (i : Nat) (s : Int × Int) (c : Int) (h : (tailL x)[i]? = some s) : withinL x ((i : Int) + 1) c = (!decide (c < s.1) && !decide (s.2 < c)) := by
  have hx : 128 ≤ x := by
    rcases Int.lt_or_le x 128 with h1 | h1
    · have : tailL x = [] := by unfold tailL; repeat' (rw [if_neg (by omega)])
      rw [this] at h; simp at h
    · exact h1
  have hi : i < (tailL x).length := (List.getElem?_eq_some_iff.1 h).1
  have hn := need_tail x hx
  have hne : tailL x ≠ [] := by intro e; rw [e] at hi; simp at hi
  rw [if_neg hne] at hn
  unfold withinL
  rw [hn]
  unfold tailL at h hi ⊢
  split at h
  · rename_i a; rw [if_pos a] at hi ⊢
    match i, hi with
    | 0, _ => simp at h; subst h; rw [Bool.eq_iff_iff]; simp <;> omega
  split at h
  · rename_i a b; rw [if_neg a, if_pos b] at hi ⊢
    match i, hi with
    | 0, _ => simp at h; subst h; rw [Bool.eq_iff_iff]; simp <;> omega
    | 1, _ => simp at h; subst h; rw [Bool.eq_iff_iff]; simp <;> omega
  split at h
  · rename_i a b d; rw [if_neg a, if_neg b, if_pos d] at hi ⊢
    match i, hi with
    | 0, _ => simp at h; subst h; rw [Bool.eq_iff_iff]; simp <;> omega
    | 1, _ => simp at h; subst h; rw [Bool.eq_iff_iff]; simp <;> omega
  split at h
  · rename_i a b d e; rw [if_neg a, if_neg b, if_neg d, if_pos e] at hi ⊢
    match i, hi with
    | 0, _ => simp at h; subst h; rw [Bool.eq_iff_iff]; simp <;> omega
    | 1, _ => simp at h; subst h; rw [Bool.eq_iff_iff]; simp <;> omega
  split at h
  · rename_i a b d e f; rw [if_neg a, if_neg b, if_neg d, if_neg e, if_pos f] at hi ⊢
    match i, hi with
    | 0, _ => simp at h; subst h; rw [Bool.eq_iff_iff]; simp <;> omega
    | 1, _ => simp at h; subst h; rw [Bool.eq_iff_iff]; simp <;> omega
    | 2, _ => simp at h; subst h; rw [Bool.eq_iff_iff]; simp <;> omega
  split at h
  · rename_i a b d e f g; rw [if_neg a, if_neg b, if_neg d, if_neg e, if_neg f, if_pos g] at hi ⊢
    match i, hi with
    | 0, _ => simp at h; subst h; rw [Bool.eq_iff_iff]; simp <;> omega
    | 1, _ => simp at h; subst h; rw [Bool.eq_iff_iff]; simp <;> omega
    | 2, _ => simp at h; subst h; rw [Bool.eq_iff_iff]; simp <;> omega
  split at h
  · rename_i a b d e f g j; rw [if_neg a, if_neg b, if_neg d, if_neg e, if_neg f, if_neg g, if_pos j] at hi ⊢
    match i, hi with
    | 0, _ => simp at h; subst h; rw [Bool.eq_iff_iff]; simp <;> omega
    | 1, _ => simp at h; subst h; rw [Bool.eq_iff_iff]; simp <;> omega
    | 2, _ => simp at h; subst h; rw [Bool.eq_iff_iff]; simp <;> omega
  · simp at h

theorem piece_loop (x : Int) (q : List Int) (hq : q.length ≤ 1099511627776) : ∀ (r : List (Int × Int)) (i : Nat), r = (tailL x).drop i → i ≤ (tailL x).length → i ≤ q.length →
    Ev (fun k => bobbinref01_Piece.l0 k (x :: q) (1 + ((tailL x).length : Int)) (1 + (i : Int)))
      (1 + ((i + matchLen r (q.drop i) : Nat) : Int), decide (i + matchLen r (q.drop i) = (tailL x).length), decide (i + matchLen r (q.drop i) < (tailL x).length ∧ i + matchLen r (q.drop i) = q.length)) := by
  intro r
  have hlen : (((x :: q).length : Nat) : Int) = 1 + (q.length : Int) := by simp; omega
  induction r with
  | nil =>
    intro i hr hi hl
    have h1 : i = (tailL x).length := by
      have := congrArg List.length hr
      rw [List.length_drop, List.length_nil] at this
      omega
    refine ⟨1, fun k hk => ?_⟩
    obtain ⟨k, rfl⟩ : ∃ m, k = m + 1 := ⟨k - 1, by omega⟩
    show bobbinref01_Piece.l0 (k + 1) _ _ _ = _
    simp only [bobbinref01_Piece.l0, matchLen]
    rw [if_neg (by omega)]
    simp [h1]
  | cons s r ih =>
    intro i hr hi hl
    have hlt : i < (tailL x).length := by
      have := congrArg List.length hr
      rw [List.length_drop, List.length_cons] at this
      omega
    have hs : (tailL x)[i]? = some s := by
      have := congrArg (fun z => z[0]?) hr
      simpa using this.symm
    have hr' : r = (tailL x).drop (i + 1) := by
      rw [← List.drop_drop, ← hr]
      simp
    by_cases h1 : i < q.length
    · have hd : q.drop i = q.getD i 0 :: q.drop (i + 1) := by
        rw [List.drop_eq_getElem_cons h1]
        simp [List.getD_eq_getElem?_getD, h1]
      have hrd : rd (x :: q) (1 + (i : Int)) = q.getD i 0 := by rw [show (1 + (i : Int)) = (i : Int) + 1 from by omega]; exact rd_succ x q i
      have hr0 : rd (x :: q) 0 = x := by simp [rd]
      have hw := within_ev x (1 + (i : Int)) (q.getD i 0)
      have hws : withinL x (1 + (i : Int)) (q.getD i 0) = (!decide (q.getD i 0 < s.1) && !decide (s.2 < q.getD i 0)) := by rw [show (1 + (i : Int)) = (i : Int) + 1 from by omega]; exact within_span x i s _ hs
      rw [hws] at hw
      have hi2 := ih (i + 1) hr' (by omega) (by omega)
      refine Ev.step (f := fun k => (bobbinref01_within.f k x (1 + (i : Int)) (q.getD i 0)).bind fun t => if t = true then bobbinref01_Piece.l0 k (x :: q) (1 + ((tailL x).length : Int)) (wrap64 (1 + (i : Int) + 1)) else some (1 + (i : Int), 1 + (i : Int) == 1 + ((tailL x).length : Int), 1 + (i : Int) == ((x :: q).length : Int))) (fun k => ?_) (Ev.bind hw ?_)
      · simp only [bobbinref01_Piece.l0]
        rw [if_pos (by omega), if_pos (by omega), if_pos (by omega), if_pos (by omega), hr0, hrd]
      · rw [hd]
        by_cases h3 : q.getD i 0 < s.1
        · simp only [h3, decide_true, Bool.not_true, Bool.false_and, Bool.false_eq_true, if_false, matchLen, if_true, Nat.add_zero]
          have e1 : (1 + (i : Int) == 1 + ((tailL x).length : Int)) = decide (i = (tailL x).length) := by rw [Bool.eq_iff_iff]; simp <;> omega
          have e2 : (1 + (i : Int) == ((x :: q).length : Int)) = decide (i < (tailL x).length ∧ i = q.length) := by rw [hlen, Bool.eq_iff_iff]; simp <;> omega
          rw [e1, e2]
          exact Ev.now _
        · by_cases h4 : s.2 < q.getD i 0
          · simp only [h3, h4, decide_true, decide_false, Bool.not_true, Bool.and_false, Bool.false_eq_true, if_false, matchLen, if_true, Nat.add_zero]
            have e1 : (1 + (i : Int) == 1 + ((tailL x).length : Int)) = decide (i = (tailL x).length) := by rw [Bool.eq_iff_iff]; simp <;> omega
            have e2 : (1 + (i : Int) == ((x :: q).length : Int)) = decide (i < (tailL x).length ∧ i = q.length) := by rw [hlen, Bool.eq_iff_iff]; simp <;> omega
            rw [e1, e2]
            exact Ev.now _
          · simp only [h3, h4, decide_false, Bool.not_false, Bool.and_true, if_true, matchLen, if_false]
            rw [wrap_small (by omega) (by omega), show 1 + (i : Int) + 1 = 1 + ((i + 1 : Nat) : Int) from by omega]
            rw [show i + (1 + matchLen r (q.drop (i + 1))) = i + 1 + matchLen r (q.drop (i + 1)) from by omega]
            exact hi2
    · have hd : q.drop i = [] := List.drop_of_length_le (by omega)
      rw [hd]
      have hm : matchLen (s :: r) [] = 0 := by simp [matchLen]
      rw [hm]
      refine ⟨1, fun k hk => ?_⟩
      obtain ⟨k, rfl⟩ : ∃ m, k = m + 1 := ⟨k - 1, by omega⟩
      show bobbinref01_Piece.l0 (k + 1) _ _ _ = _
      simp only [bobbinref01_Piece.l0]
      rw [if_pos (by omega), if_neg (by omega)]
      have e1 : (1 + (i : Int) == 1 + ((tailL x).length : Int)) = decide (i + 0 = (tailL x).length) := by rw [Bool.eq_iff_iff]; simp <;> omega
      have e2 : (1 + (i : Int) == ((x :: q).length : Int)) = decide (i + 0 < (tailL x).length ∧ i + 0 = q.length) := by rw [hlen, Bool.eq_iff_iff]; simp <;> omega
      rw [e1, e2]
      rfl
theorem piece_ev (l : List Int) (hp : 0 < l.length) (hl : l.length ≤ 1099511627776) : Ev (fun k => bobbinref01_Piece.f k l) (firstL l) := by
  cases l with
  | nil => simp at hp
  | cons x q =>
    have hr0 : rd (x :: q) 0 = x := by simp [rd]
    simp at hl
    rw [firstL_cons]
    refine Ev.congr (f := fun k => (bobbinref01_Need.f k x).bind fun t => if t = 0 then some (1, false, false) else bobbinref01_Piece.l0 k (x :: q) t 1) (fun k => ?_) (Ev.bind (need_ev x) ?_)
    · unfold bobbinref01_Piece.f
      rw [if_pos (by simp), hr0]
    · unfold firstM
      by_cases h1 : x < 128
      · rw [if_pos h1, show needL x = 1 from by unfold needL; rw [if_pos h1]]
        refine ⟨1, fun k hk => ?_⟩
        obtain ⟨k, rfl⟩ : ∃ m, k = m + 1 := ⟨k - 1, by omega⟩
        simp [bobbinref01_Piece.l0]
      · rw [if_neg h1]
        have hn := need_tail x (by omega)
        by_cases h2 : tailL x = []
        · rw [if_pos h2] at hn ⊢
          rw [hn]
          exact Ev.now _
        · rw [if_neg h2] at hn ⊢
          rw [hn]
          have h := piece_loop x q (by omega) (tailL x) 0 (by simp) (by omega) (by omega)
          refine Ev.congr (f := fun k => bobbinref01_Piece.l0 k (x :: q) (1 + ((tailL x).length : Int)) (1 + ((0 : Nat) : Int))) (fun k => ?_) ?_
          · rw [if_neg (by omega)]; rfl
          · have hm := matchLen_le (tailL x) q
            simp only [Nat.zero_add, List.drop_zero] at h
            by_cases h3 : matchLen (tailL x) q = (tailL x).length
            · rw [if_pos h3]
              simpa [h3] using h
            · rw [if_neg h3]
              by_cases h4 : matchLen (tailL x) q = q.length
              · rw [if_pos h4]
                have h5 : q.length ≠ (tailL x).length := by omega
                have h6 : q.length < (tailL x).length := by omega
                simpa [h4, h5, h6] using h
              · rw [if_neg h4]
                simpa [h3, h4] using h

/-! ### the document's pieces -/
theorem ev_some {α β : Type} {g : Nat → β → Option α} {v : β} {r : α} (h : Ev (fun k => g k v) r) : Ev (fun k => (some v).bind (g k)) r := h
theorem ev_neg {α : Type} {c : Prop} {_ : Decidable c} {a b : Nat → Option α} {r : α} (hc : ¬ c) (h : Ev b r) : Ev (fun k => if c then a k else b k) r := Ev.congr (fun k => if_neg hc) h
theorem ev_pos {α : Type} {c : Prop} {_ : Decidable c} {a b : Nat → Option α} {r : α} (hc : c) (h : Ev a r) : Ev (fun k => if c then a k else b k) r := Ev.congr (fun k => if_pos hc) h
def placesL : Nat → List (List Int) → List Int
  | _, [] => []
  | n, ch :: t => (n : Int) :: placesL (n + ch.length) t
theorem chars_nil : chars [] = [] := by rw [chars]; simp
theorem run_nil' : (run []).2 = [] := by rw [run]; simp
theorem run_open2 (l : List Int) (h : 0 < l.length) (ho : (firstL l).2.2 = true) : (run l).2 = l := by rw [run_open l h ho]
theorem firstM_open (x : Int) (l : List Int) (ho : (firstM x l).2.2 = true) : (firstM x l).1 = 1 + (l.length : Int) ∧ (firstM x l).2.1 = false := by
  unfold firstM at ho ⊢
  by_cases h1 : x < 128
  · rw [if_pos h1] at ho; simp at ho
  · rw [if_neg h1] at ho ⊢
    by_cases h2 : tailL x = []
    · rw [if_pos h2] at ho; simp at ho
    · rw [if_neg h2] at ho ⊢
      by_cases h3 : matchLen (tailL x) l = (tailL x).length
      · rw [if_pos h3] at ho; simp at ho
      · rw [if_neg h3] at ho ⊢
        by_cases h4 : matchLen (tailL x) l = l.length
        · rw [if_pos h4]; simp
        · rw [if_neg h4] at ho; simp at ho
theorem firstL_open (l : List Int) (h : 0 < l.length) (ho : (firstL l).2.2 = true) : (firstL l).1 = (l.length : Int) ∧ (firstL l).2.1 = false := by
  cases l with
  | nil => simp at h
  | cons x l =>
    rw [firstL_cons] at ho ⊢
    obtain ⟨a, b⟩ := firstM_open x l ho
    exact ⟨by rw [a]; simp; omega, b⟩
theorem pieces_loop (l : List Int) (hl : l.length ≤ 1099511627776) : ∀ (d : Nat) (pos : Nat) (x5 x6 : List Int), pos + d = l.length → x5.length ≤ 3 * pos → x6.length ≤ pos →
    Ev (fun k => bobbinref01_Pieces.l0 k l x5 x6 (pos : Int)) (x5 ++ clean (l.drop pos), x6 ++ placesL x5.length (chars (l.drop pos)), (((run (l.drop pos)).2.length : Nat) : Int)) := by
  intro d
  induction d using Nat.strongRecOn with
  | ind d ih =>
    intro pos x5 x6 hd h5 h6
    by_cases hp : pos < l.length
    · have hpd : 0 < (l.drop pos).length := by simp; omega
      have h1 := firstL_pos _ hpd
      have h2 := firstL_le _ hpd
      have hld : (l.drop pos).length = l.length - pos := by simp
      have pe := piece_ev (l.drop pos) hpd (by omega)
      obtain ⟨n, g, o, e⟩ : ∃ n g o, firstL (l.drop pos) = (n, g, o) := ⟨_, _, _, rfl⟩
      rw [e] at h1 h2 pe
      simp only at h1 h2
      obtain ⟨m, rfl⟩ : ∃ m : Nat, n = (m : Int) := ⟨n.toNat, by omega⟩
      have tk : (l.take ((pos : Int) + (m : Int)).toNat).drop pos = (l.drop pos).take m := by
        rw [show ((pos : Int) + (m : Int)).toNat = pos + m from by omega, List.drop_take]
        congr 1
        omega
      cases o with
      | true =>
        obtain ⟨q1, q2⟩ := firstL_open _ hpd (by rw [e])
        rw [e] at q1 q2
        simp only at q1 q2
        subst q2
        rw [clean_open _ hpd (by rw [e]), chars_open _ hpd (by rw [e]), run_open2 _ hpd (by rw [e])]
        refine Ev.step (fun k => by simp only [bobbinref01_Pieces.l0]; rw [if_pos (by omega), if_pos (by omega), if_pos (by omega), Int.toNat_natCast]) (Ev.bind pe ?_)
        simp only [Bool.false_eq_true, if_false, if_true, Option.bind_some]
        rw [if_pos (by omega), if_pos (by simp; omega)]
        simp only [placesL]
        rw [q1]
        exact Ev.now _
      | false =>
        have rr : (run (l.drop pos)).2 = (run ((l.drop pos).drop m)).2 := by
          cases g with
          | true => rw [run_good _ hpd (by rw [e]) (by rw [e]), e]; rfl
          | false => rw [run_bad _ hpd (by rw [e]) (by rw [e]), e]; rfl
        have dd : (l.drop pos).drop m = l.drop (pos + m) := by rw [List.drop_drop]
        cases g with
        | true =>
          have ih' := ih (d - m) (by omega) (pos + m) (x5 ++ (l.drop pos).take m) (x6 ++ [(x5.length : Int)]) (by omega) (by simp; omega) (by simp; omega)
          rw [rr, dd, clean_good _ hpd (by rw [e]) (by rw [e]), chars_good _ hpd (by rw [e]) (by rw [e]), e]
          simp only [Int.toNat_natCast, dd, placesL]
          refine Ev.step (fun k => by simp only [bobbinref01_Pieces.l0]; rw [if_pos (by omega), if_pos (by omega), if_pos (by omega), Int.toNat_natCast]) (Ev.bind pe ?_)
          have hw : wrap64 ((pos : Int) + (m : Int)) = ((pos + m : Nat) : Int) := by rw [wrap_small (by omega) (by omega)]; omega
          have tk2 : (l.take (((pos + m : Nat) : Int)).toNat).drop pos = (l.drop pos).take m := by rw [Int.toNat_natCast, List.drop_take, show pos + m - pos = m from by omega]
          refine ev_pos (by omega) (ev_some (ev_pos rfl ?_))
          rw [hw, tk2]
          refine ev_pos (by omega) (ev_pos (by omega) (ev_pos (by simp; omega) (ev_some (ev_neg Bool.false_ne_true ?_))))
          simpa [List.append_assoc] using ih'
        | false =>
          have ih' := ih (d - m) (by omega) (pos + m) (x5 ++ fffd) (x6 ++ [(x5.length : Int)]) (by omega) (by simp [fffd]; omega) (by simp; omega)
          rw [rr, dd, clean_bad _ hpd (by rw [e]) (by rw [e]), chars_bad _ hpd (by rw [e]) (by rw [e]), e]
          simp only [Int.toNat_natCast, dd, placesL]
          refine Ev.step (fun k => by simp only [bobbinref01_Pieces.l0]; rw [if_pos (by omega), if_pos (by omega), if_pos (by omega), Int.toNat_natCast]) (Ev.bind pe ?_)
          have hw : wrap64 ((pos : Int) + (m : Int)) = ((pos + m : Nat) : Int) := by rw [wrap_small (by omega) (by omega)]; omega
          refine ev_pos (by omega) (ev_some (ev_neg Bool.false_ne_true ?_))
          rw [hw]
          refine ev_some (ev_pos (by simp; omega) (ev_some (ev_neg Bool.false_ne_true ?_)))
          simpa [fffd, List.append_assoc] using ih'
    · have hd' : l.drop pos = [] := List.drop_of_length_le (by omega)
      rw [hd', clean_nil, chars_nil, run_nil']
      refine ⟨1, fun k hk => ?_⟩
      obtain ⟨k, rfl⟩ : ∃ m, k = m + 1 := ⟨k - 1, by omega⟩
      show bobbinref01_Pieces.l0 (k + 1) l _ _ _ = _
      simp only [bobbinref01_Pieces.l0, placesL, List.append_nil]
      rw [if_neg (by omega)]
      rfl
theorem pieces_ev (l : List Int) (hl : l.length ≤ 1099511627776) : Ev (fun k => bobbinref01_Pieces.f k l) (clean l, placesL 0 (chars l), (((run l).2.length : Nat) : Int)) := by
  have h := pieces_loop l hl l.length 0 [] [] (by omega) (by simp) (by simp)
  exact h
theorem ref_clean_ev (l : List Int) (hl : l.length ≤ 1099511627776) : Ev (fun k => bobbinref01_Clean.f k l) (clean l) :=
  Ev.congr (f := fun k => (bobbinref01_Pieces.f k l).bind fun bt => some bt.1) (fun k => rfl) (Ev.bind (pieces_ev l hl) (Ev.now _))

/-! ### the numbers of the characters -/
theorem wraps_i64 (n : Int) (h₀ : 0 ≤ n) (h₁ : n < 2 ^ 63) : IntKind.i64.wrap n = n := by rw [IntKind.wrap_i64]; omega
theorem i64_or6 (x y : Int) (hx₀ : 0 ≤ x) (hx : x % 64 = 0) (hx₁ : x < 2147483648) (h₀ : 0 ≤ y) (h₁ : y < 64) : Go.bits .or .i64 x y = x + y :=
  bits_join .i64 63 (by decide) wraps_i64 6 x y hx₀ hx (by omega) h₀ h₁ (by omega)
theorem i64_or12 (x y : Int) (hx₀ : 0 ≤ x) (hx : x % 4096 = 0) (hx₁ : x < 2147483648) (h₀ : 0 ≤ y) (h₁ : y < 4096) : Go.bits .or .i64 x y = x + y :=
  bits_join .i64 63 (by decide) wraps_i64 12 x y hx₀ hx (by omega) h₀ h₁ (by omega)
theorem i64_or18 (x y : Int) (hx₀ : 0 ≤ x) (hx : x % 262144 = 0) (hx₁ : x < 2147483648) (h₀ : 0 ≤ y) (h₁ : y < 262144) : Go.bits .or .i64 x y = x + y :=
  bits_join .i64 63 (by decide) wraps_i64 18 x y hx₀ hx (by omega) h₀ h₁ (by omega)
theorem rune_ev (ch t : List Int) (h : V.Form ch) : Ev (fun k => bobbinref01_Rune.f k (ch ++ t)) (runeOf ch, (ch.length : Int)) := by
  rcases h with ⟨x, rfl, h1, h2⟩ | ⟨x, y, rfl, h1, h2, h3, h4⟩ | ⟨x, y, z, rfl, h1, h2, h3, h4, h5, h6, h7, h8⟩ | ⟨x, y, z, u, rfl, h1, h2, h3, h4, h5, h6, h7, h8, h9, h10⟩
  · have hn : needL x = 1 := by unfold needL; rw [if_pos h2]
    have hr0 : rd ([x] ++ t) 0 = x := by simp [rd]
    refine Ev.congr (fun k => by unfold bobbinref01_Rune.f; rw [if_pos (by simp)]) (Ev.bind (by rw [hr0]; exact need_ev x) ?_)
    rw [hn, if_pos rfl, hr0, wrap_small (by omega) (by omega)]
    exact Ev.now _
  · have hn : needL x = 2 := by unfold needL; rw [if_neg (by omega), if_neg (by omega), if_neg (by omega), if_pos (by omega)]
    have hr0 : rd ([x, y] ++ t) 0 = x := by simp [rd]
    have hr1 : rd ([x, y] ++ t) 1 = y := by simp [rd]
    refine Ev.congr (fun k => by unfold bobbinref01_Rune.f; rw [if_pos (by simp; omega)]) (Ev.bind (by rw [hr0]; exact need_ev x) ?_)
    rw [hn, if_neg (by omega), if_pos rfl, if_pos (by simp; omega), hr0, hr1, u8_and31 x (by omega) (by omega), u8_and63 y (by omega) (by omega),
      wrap_small (x := x % 32) (by omega) (by omega), wrap_small (x := x % 32 * 64) (by omega) (by omega), wrap_small (x := y % 64) (by omega) (by omega), i64_or6 _ _ (by omega) (by omega) (by omega) (by omega) (by omega)]
    exact Ev.now _
  · have hn : needL x = 3 := by unfold needL; rw [if_neg (by omega), if_neg (by omega), if_neg (by omega), if_neg (by omega), if_pos (by omega)]
    have hr0 : rd ([x, y, z] ++ t) 0 = x := by simp [rd]
    have hr1 : rd ([x, y, z] ++ t) 1 = y := by simp [rd]
    have hr2 : rd ([x, y, z] ++ t) 2 = z := by simp [rd]
    refine Ev.congr (fun k => by unfold bobbinref01_Rune.f; rw [if_pos (by simp; omega)]) (Ev.bind (by rw [hr0]; exact need_ev x) ?_)
    rw [hn, if_neg (by omega), if_neg (by omega), if_pos rfl, if_pos (by simp; omega), if_pos (by simp; omega), hr0, hr1, hr2, u8_and15 x (by omega) (by omega), u8_and63 y (by omega) (by omega), u8_and63 z (by omega) (by omega),
      wrap_small (x := x % 16) (by omega) (by omega), wrap_small (x := x % 16 * 4096) (by omega) (by omega), wrap_small (x := y % 64) (by omega) (by omega), wrap_small (x := y % 64 * 64) (by omega) (by omega), wrap_small (x := z % 64) (by omega) (by omega),
      i64_or12 (x % 16 * 4096) (y % 64 * 64) (by omega) (by omega) (by omega) (by omega) (by omega), i64_or6 (x % 16 * 4096 + y % 64 * 64) (z % 64) (by omega) (by omega) (by omega) (by omega) (by omega)]
    exact Ev.now _
  · have hn : needL x = 4 := by unfold needL; rw [if_neg (by omega), if_neg (by omega), if_neg (by omega), if_neg (by omega), if_neg (by omega)]
    have hr0 : rd ([x, y, z, u] ++ t) 0 = x := by simp [rd]
    have hr1 : rd ([x, y, z, u] ++ t) 1 = y := by simp [rd]
    have hr2 : rd ([x, y, z, u] ++ t) 2 = z := by simp [rd]
    have hr3 : rd ([x, y, z, u] ++ t) 3 = u := by simp [rd]
    refine Ev.congr (fun k => by unfold bobbinref01_Rune.f; rw [if_pos (by simp; omega)]) (Ev.bind (by rw [hr0]; exact need_ev x) ?_)
    rw [hn, if_neg (by omega), if_neg (by omega), if_neg (by omega), if_pos (by simp; omega), if_pos (by simp; omega), if_pos (by simp; omega), hr0, hr1, hr2, hr3, u8_and7 x (by omega) (by omega), u8_and63 y (by omega) (by omega), u8_and63 z (by omega) (by omega), u8_and63 u (by omega) (by omega),
      wrap_small (x := x % 8) (by omega) (by omega), wrap_small (x := x % 8 * 262144) (by omega) (by omega), wrap_small (x := y % 64) (by omega) (by omega), wrap_small (x := y % 64 * 4096) (by omega) (by omega), wrap_small (x := z % 64) (by omega) (by omega), wrap_small (x := z % 64 * 64) (by omega) (by omega), wrap_small (x := u % 64) (by omega) (by omega),
      i64_or18 (x % 8 * 262144) (y % 64 * 4096) (by omega) (by omega) (by omega) (by omega) (by omega), i64_or12 (x % 8 * 262144 + y % 64 * 4096) (z % 64 * 64) (by omega) (by omega) (by omega) (by omega) (by omega), i64_or6 (x % 8 * 262144 + y % 64 * 4096 + z % 64 * 64) (u % 64) (by omega) (by omega) (by omega) (by omega) (by omega)]
    exact Ev.now _
theorem runes_loop : ∀ (chs : List (List Int)) (a acc : List Int), (∀ ch ∈ chs, V.Form ch) → (a ++ chs.flatten).length ≤ 4398046511104 → acc.length ≤ a.length →
    Ev (fun k => bobbinref01_Runes.l0 k (a ++ chs.flatten) acc (a.length : Int)) (acc ++ chs.map runeOf)
  | [], a, acc, h, hl, ha => by
    refine ⟨1, fun k hk => ?_⟩
    obtain ⟨k, rfl⟩ : ∃ m, k = m + 1 := ⟨k - 1, by omega⟩
    simp [bobbinref01_Runes.l0]
  | ch :: chs, a, acc, h, hl, ha => by
    have hf := h ch List.mem_cons_self
    have hpos := form_pos hf
    have e1 : a ++ (ch :: chs).flatten = (a ++ ch) ++ chs.flatten := by simp
    have e2 : (a ++ (ch :: chs).flatten).drop ((a.length : Int)).toNat = ch ++ chs.flatten := by simp
    have hl2 : (a ++ (ch :: chs).flatten).length = a.length + ch.length + chs.flatten.length := by simp [Nat.add_assoc]
    have ih := runes_loop chs (a ++ ch) (acc ++ [runeOf ch]) (fun c hc => h c (List.mem_cons_of_mem _ hc)) (by rw [← e1]; exact hl) (by simp; omega)
    rw [← e1] at ih
    refine Ev.step (fun k => by simp only [bobbinref01_Runes.l0]; rw [if_pos (by rw [hl2]; omega), if_pos (by omega), if_pos (by rw [hl2]; omega), e2]) (Ev.bind (rune_ev ch chs.flatten hf) ?_)
    rw [wrap_small (by omega) (by omega)]
    refine ev_pos (by omega) ?_
    rw [show (a.length : Int) + (ch.length : Int) = ((a ++ ch).length : Int) from by simp]
    simpa [List.append_assoc] using ih
theorem runes_ev (l : List Int) (hl : l.length ≤ 1099511627776) (hB : IsB l) : Ev (fun k => bobbinref01_Runes.f k l) ((chars l).map runeOf) := by
  refine Ev.bind (ref_clean_ev l hl) ?_
  have hc := clean_len l
  have h := runes_loop (chars l) [] [] (fun ch h => form_of ch (isChar_chars l ch h) ((isB_clean l hB).2 ch h)) (by rw [List.nil_append, ← clean_chars]; omega) (by simp)
  rw [List.nil_append, ← clean_chars] at h
  exact h
end Go.Proofs.YtdpnnglfaofjeaaDoor.PUtf

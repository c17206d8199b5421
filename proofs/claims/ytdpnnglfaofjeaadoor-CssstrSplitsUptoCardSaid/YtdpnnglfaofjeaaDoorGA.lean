import Derived.Test.YtdpnnglfaofjeaaDoorPCssx2
import Derived.Test.YtdpnnglfaofjeaaDoorFC
namespace Go.Proofs.YtdpnnglfaofjeaaDoor.PCss
open Go.RowKit Go.Proofs.YtdpnnglfaofjeaaDoorW.PrintWords Go.Proofs.YtdpnnglfaofjeaaDoorW.PrintLast Go.Proofs.YtdpnnglfaofjeaaDoorW.PrintMore
open U (dig hexN hexN_small hexN_big hexN_le hexN_range simpleB unitL unitL_le textL textL_take)
set_option linter.unusedVariables false
set_option linter.unusedSimpArgs false

/-! ### small words -/
def IsB (l : List Int) : Prop := ∀ x ∈ l, 0 ≤ x ∧ x ≤ 255
theorem ev_some {α β : Type} {g : Nat → β → Option α} {v : β} {r : α} (h : Ev (fun k => g k v) r) : Ev (fun k => (some v).bind (g k)) r := h
theorem ev_neg {α : Type} {c : Prop} {_ : Decidable c} {a b : Nat → Option α} {r : α} (hc : ¬ c) (h : Ev b r) : Ev (fun k => if c then a k else b k) r := Ev.congr (fun k => if_neg hc) h
theorem ev_pos {α : Type} {c : Prop} {_ : Decidable c} {a b : Nat → Option α} {r : α} (hc : c) (h : Ev a r) : Ev (fun k => if c then a k else b k) r := Ev.congr (fun k => if_pos hc) h
theorem bytesOf_str (l : List Int) (h : IsB l) : bytesOf (strOfNums l) = l := by
  unfold bytesOf
  rw [strOfNums_data, List.map_map]
  conv => rhs; rw [← List.map_id l]
  apply List.map_congr_left
  intro x hx
  have := h x hx
  simp
  omega
theorem str_app (a b : List Int) : strOfNums a ++ strOfNums b = strOfNums (a ++ b) := by
  apply ByteArray.ext
  apply Array.toList_inj.1
  simp [strOfNums]
theorem str_size (l : List Int) : (strOfNums l).size = l.length := by
  show (strOfNums l).data.size = _
  rw [← Array.length_toList, strOfNums_data, List.length_map]
theorem wrap_small {x : Int} (h0 : 0 ≤ x) (h : x < 9223372036854775808) : wrap64 x = x := by unfold wrap64; omega
theorem len_snoc (a : List Int) (x : Int) : ((a.length + 1 : Nat) : Int) = ((a ++ [x]).length : Int) := by simp
theorem rd_at (a : List Int) (x : Int) (t : List Int) : rd (a ++ x :: t) (a.length : Int) = x := by simp [rd, List.getD_eq_getElem?_getD]

/-! ### the units -/
theorem simple_f (b : Int) : cssstr_simple.f b = some (simpleB b) := by
  unfold cssstr_simple.f simpleB
  repeat' split
  all_goals (congr 1; rw [Bool.eq_iff_iff]; simp; try omega)
theorem unit_f (b : Int) (hb : 0 ≤ b ∧ b ≤ 255) : cssstr_Unit.f b = some (unitL b) := by
  unfold cssstr_Unit.f unitL
  by_cases h0 : b = 0
  · rw [if_pos h0, if_pos h0]
  · rw [if_neg h0, if_neg h0, simple_f]
    simp only [Option.bind_some]
    cases hs : simpleB b with
    | true => rw [if_pos rfl, if_pos rfl]
    | false =>
      have hw : IntKind.u64.wrap b = b := U.wraps_u64 b hb.1 (by omega)
      have hf : strconv_FormatUint.f (IntKind.u64.wrap b) 16 = some (strOfNums (hexN b.toNat)) := by
        rw [hw]
        unfold strconv_FormatUint.f
        rw [if_pos ⟨hb.1, by omega, rfl⟩]
      have hsz := str_size (hexN b.toNat)
      have hle := hexN_le b.toNat (by omega)
      rw [if_neg (by simp), if_neg (by simp), hf]
      simp only [Option.bind_some]
      have e1 : ((⟨#[92]⟩ : ByteArray) ++ strOfNums (hexN b.toNat)) ++ (⟨#[32]⟩ : ByteArray) = strOfNums ([92] ++ hexN b.toNat ++ [32]) := by
        rw [← str_app, ← str_app]; rfl
      rw [if_pos (by omega), if_pos (by omega), if_pos (by omega), e1, bytesOf_str, List.nil_append]
      intro x hx
      simp only [List.mem_append, List.mem_singleton] at hx
      rcases hx with (rfl | hx) | rfl
      · omega
      · exact hexN_range _ x hx
      · omega
theorem rd_take (l : List Int) (i : Nat) (h : i < l.length) : rd l (i : Int) = l[i] := by simp [rd, List.getD_eq_getElem?_getD, h]
theorem text_loop (l : List Int) (hB : IsB l) (hl : l.length ≤ 1099511627776) : ∀ (d i : Nat), i + d = l.length → (textL (l.take i)).length ≤ 6 * i →
    Ev (fun k => cssstr_Text.l0 k (textL (l.take i)) l (l.length : Int) (i : Int)) (textL l) := by
  intro d
  induction d with
  | zero =>
    intro i hi hn
    obtain rfl : i = l.length := by omega
    refine ⟨1, fun k hk => ?_⟩
    obtain ⟨k, rfl⟩ : ∃ m, k = m + 1 := ⟨k - 1, by omega⟩
    show cssstr_Text.l0 (k + 1) _ _ _ _ = _
    simp only [cssstr_Text.l0]
    rw [if_neg (by omega), List.take_length]
  | succ d ih =>
    intro i hi hn
    have hlt : i < l.length := by omega
    have hb := hB _ (List.getElem_mem hlt)
    have ht := textL_take l i hlt
    have hu := unitL_le _ hb
    have hr := rd_take l i hlt
    have ih' := ih (i + 1) (by omega) (by rw [ht, List.length_append, hr]; omega)
    rw [ht, hr] at ih'
    have hs : ∀ k, cssstr_Text.l0 (k + 1) (textL (l.take i)) l (l.length : Int) (i : Int) = cssstr_Text.l0 k (textL (l.take i) ++ unitL l[i]) l (l.length : Int) ((i + 1 : Nat) : Int) := fun k => by
      simp only [cssstr_Text.l0]
      rw [if_pos (by omega), if_pos (by omega), if_pos (by omega), hr, unit_f _ hb, Option.bind_some, if_pos (by omega), wrap_small (by omega) (by omega)]
      rfl
    exact Ev.step hs ih'
theorem text_ev (l : List Int) (hB : IsB l) (hl : l.length ≤ 1099511627776) : Ev (fun k => cssstr_Text.f k l) (textL l) := by
  have h := text_loop l hB hl l.length 0 (by omega) (by simp [textL])
  exact h
theorem text34 : textL [34] = [92, 50, 50, 32] := by
  have h1 : hexN 34 = [50, 50] := by rw [hexN_big 34 (by omega), hexN_small (34 / 16) (by omega)]; rfl
  have h2 : unitL 34 = [92] ++ hexN (34 : Int).toNat ++ [32] := by unfold unitL; rw [if_neg (by omega), if_neg (by decide)]
  unfold textL
  rw [List.flatMap_cons, List.flatMap_nil, h2, show (34 : Int).toNat = 34 from rfl, h1]
  rfl
theorem awake_ev : Ev (fun k => bobbinlaw07_awake.f k) true := by
  refine Ev.bind (text_ev [34] (by intro x hx; simp at hx; omega) (by simp)) ?_
  rw [text34, show ((strOfNums [92, 50, 50, 32]).toList == ([92, 50, 50, 32] : List UInt8)) = true from by decide +kernel]
  exact Ev.now _

/-! ### CssstrBack -/
theorem dig_in (d : Nat) (h : d < 16) : (48 ≤ dig d ∧ dig d ≤ 57 ∧ dig d - 48 = d) ∨ (97 ≤ dig d ∧ dig d ≤ 102 ∧ dig d - 97 + 10 = d) := by unfold dig; split <;> omega
theorem digit_ev (d : Nat) (h : d < 16) : Ev (fun k => bobbinlaw07_digit.f k (dig d)) (d : Int) := by
  refine ⟨1, fun k hk => ?_⟩
  obtain ⟨k, rfl⟩ : ∃ m, k = m + 1 := ⟨k - 1, by omega⟩
  show bobbinlaw07_digit.f (k + 1) (dig d) = some (d : Int)
  unfold bobbinlaw07_digit.f
  rcases dig_in d h with ⟨h1, h2, h3⟩ | ⟨h1, h2, h3⟩
  · rw [if_pos (by omega), decide_eq_true h2]
    simp only [bobbinlaw07_digit.j0]
    rw [if_pos (by first | rfl | trivial), wrap_small (x := dig d) (by omega) (by omega), wrap_small (by omega) (by omega), h3]
  · rw [if_pos (by omega), decide_eq_false (by omega)]
    simp only [bobbinlaw07_digit.j0]
    rw [if_neg (by simp), if_pos (by omega), if_pos (by omega), wrap_small (x := dig d) (by omega) (by omega), wrap_small (x := dig d - 97) (by omega) (by omega), wrap_small (by omega) (by omega), h3]
theorem digit_space : Ev (fun k => bobbinlaw07_digit.f k 32) (-1) := by
  refine ⟨1, fun k hk => ?_⟩
  obtain ⟨k, rfl⟩ : ∃ m, k = m + 1 := ⟨k - 1, by omega⟩
  rfl
def backU (b : Int) : List Int := if b = 0 then [239, 191, 189] else [b]
def backL (l : List Int) : List Int := l.flatMap backU
def Bad (x : Int) : Prop := x = 34 ∨ x = 39 ∨ x = 60 ∨ x = 62 ∨ x = 38 ∨ x = 59 ∨ x = 40 ∨ x = 41 ∨ x = 123 ∨ x = 125 ∨ x = 47 ∨ x = 10 ∨ x = 0
theorem step_plain {R : Bool} (p pre acc t : List Int) (x : Int) (hx : ¬ Bad x) (h92 : x ≠ 92) (ha : acc.length < 140737488355328) (hp : pre.length ≤ 1099511627776)
    (h : Ev (fun k => bobbinlaw07_CssstrBack.l0 k p (pre ++ x :: t) (acc ++ [x]) ((pre.length + 1 : Nat) : Int)) R) : Ev (fun k => bobbinlaw07_CssstrBack.l0 k p (pre ++ x :: t) acc (pre.length : Int)) R := by
  unfold Bad at hx
  refine Ev.step (fun k => ?_) h
  simp only [bobbinlaw07_CssstrBack.l0]
  rw [if_pos (by simp; omega), if_pos (by omega), rd_at]
  iterate 14 rw [if_neg (by omega)]
  rw [if_pos ha, wrap_small (by omega) (by omega)]
  rfl
theorem step_esc {R : Bool} (p pre acc t : List Int) (hp : pre.length ≤ 1099511627776)
    (h : Ev (fun k => bobbinlaw07_CssstrBack.l1 k p (pre ++ 92 :: t) acc ((pre.length + 1 : Nat) : Int) 0) R) : Ev (fun k => bobbinlaw07_CssstrBack.l0 k p (pre ++ 92 :: t) acc (pre.length : Int)) R := by
  refine Ev.step (fun k => ?_) h
  simp only [bobbinlaw07_CssstrBack.l0]
  rw [if_pos (by simp; omega), if_pos (by omega), rd_at]
  iterate 13 rw [if_neg (by omega)]
  rw [if_pos rfl, wrap_small (by omega) (by omega)]
  rfl
theorem step_dig {R : Bool} (p pre acc t : List Int) (d : Nat) (n : Int) (hd : d < 16) (hn : 0 ≤ n ∧ n < 256) (hp : pre.length ≤ 1099511627776)
    (h : Ev (fun k => bobbinlaw07_CssstrBack.l1 k p (pre ++ dig d :: t) acc ((pre.length + 1 : Nat) : Int) (n * 16 + d)) R) : Ev (fun k => bobbinlaw07_CssstrBack.l1 k p (pre ++ dig d :: t) acc (pre.length : Int) n) R := by
  refine Ev.step (f := fun k => (bobbinlaw07_digit.f k (dig d)).bind fun t162 => _) (fun k => by simp only [bobbinlaw07_CssstrBack.l1]; rw [if_pos (by simp; omega), if_pos (by omega), rd_at]) (Ev.bind (digit_ev d hd) ?_)
  refine ev_pos (by omega) (ev_pos hn.2 (Ev.bind (digit_ev d hd) ?_))
  rw [wrap_small (x := n * 16) (by omega) (by omega), wrap_small (x := n * 16 + d) (by omega) (by omega), wrap_small (by omega) (by omega)]
  exact h
theorem step_space {R : Bool} (p pre acc t : List Int) (n : Int) (hn : 1 ≤ n ∧ n ≤ 127) (hp : pre.length ≤ 1099511627776) (ha : acc.length < 140737488355328)
    (h : Ev (fun k => bobbinlaw07_CssstrBack.l0 k p (pre ++ 32 :: t) (acc ++ [n]) ((pre.length + 1 : Nat) : Int)) R) : Ev (fun k => bobbinlaw07_CssstrBack.l1 k p (pre ++ 32 :: t) acc (pre.length : Int) n) R := by
  refine Ev.step (f := fun k => (bobbinlaw07_digit.f k 32).bind fun t162 => _) (fun k => by simp only [bobbinlaw07_CssstrBack.l1]; rw [if_pos (by simp; omega), if_pos (by omega), rd_at]) (Ev.bind digit_space ?_)
  refine ev_neg (by omega) (ev_neg (by simp; omega) (ev_pos rfl (ev_neg (by omega) (ev_neg (by omega) (ev_pos ha ?_)))))
  rw [wrap_small (by omega) (by omega), Int.emod_eq_of_lt (by omega) (by omega)]
  exact h
theorem back_one {R : Bool} (p pre acc t : List Int) (b : Int) (hb : 0 ≤ b ∧ b ≤ 255) (hp : pre.length ≤ 1099511627770) (ha : acc.length < 140737488355320)
    (h : Ev (fun k => bobbinlaw07_CssstrBack.l0 k p ((pre ++ unitL b) ++ t) (acc ++ backU b) (((pre ++ unitL b).length : Nat) : Int)) R) : Ev (fun k => bobbinlaw07_CssstrBack.l0 k p (pre ++ (unitL b ++ t)) acc (pre.length : Int)) R := by
  unfold unitL backU at *
  by_cases h0 : b = 0
  · simp only [if_pos h0] at *
    have e1 : pre ++ ([239, 191, 189] ++ t) = pre ++ 239 :: ([191, 189] ++ t) := rfl
    have e2 : pre ++ ([239, 191, 189] ++ t) = (pre ++ [239]) ++ 191 :: ([189] ++ t) := by simp
    have e3 : pre ++ ([239, 191, 189] ++ t) = (pre ++ [239] ++ [191]) ++ 189 :: t := by simp
    have e4 : (pre ++ [239, 191, 189]) ++ t = pre ++ ([239, 191, 189] ++ t) := by simp
    rw [e4] at h
    rw [e1]
    refine step_plain _ _ _ _ _ (by unfold Bad; omega) (by omega) (by omega) (by omega) ?_
    rw [← e1, e2, len_snoc pre 239]
    refine step_plain _ _ _ _ _ (by unfold Bad; omega) (by omega) (by simp; omega) (by simp; omega) ?_
    rw [← e2, e3, len_snoc (pre ++ [239]) 191]
    refine step_plain _ _ _ _ _ (by unfold Bad; omega) (by omega) (by simp; omega) (by simp; omega) ?_
    rw [← e3, len_snoc (pre ++ [239] ++ [191]) 189]
    simpa [List.append_assoc] using h
  · simp only [if_neg h0] at *
    cases hs : simpleB b with
    | true =>
      simp only [hs, if_true] at h ⊢
      have e1 : pre ++ ([b] ++ t) = pre ++ b :: t := rfl
      have e4 : (pre ++ [b]) ++ t = pre ++ b :: t := by simp
      rw [e4] at h
      rw [e1]
      unfold simpleB at hs
      have hs' := of_decide_eq_true hs
      refine step_plain _ _ _ _ _ (by unfold Bad; omega) (by omega) (by omega) (by omega) ?_
      rw [len_snoc pre b]
      exact h
    | false =>
      have hb2 : b < 128 := by
        unfold simpleB at hs
        have hs' := of_decide_eq_false hs
        omega
      simp only [hs, if_false, Bool.false_eq_true] at h ⊢
      by_cases h16 : b.toNat < 16
      · rw [hexN_small _ h16] at *
        have e1 : pre ++ ([92] ++ [dig b.toNat] ++ [32] ++ t) = pre ++ 92 :: (dig b.toNat :: 32 :: t) := by simp
        have e2 : pre ++ ([92] ++ [dig b.toNat] ++ [32] ++ t) = (pre ++ [92]) ++ dig b.toNat :: (32 :: t) := by simp
        have e3 : pre ++ ([92] ++ [dig b.toNat] ++ [32] ++ t) = (pre ++ [92] ++ [dig b.toNat]) ++ 32 :: t := by simp
        have e4 : (pre ++ ([92] ++ [dig b.toNat] ++ [32])) ++ t = pre ++ ([92] ++ [dig b.toNat] ++ [32] ++ t) := by simp
        rw [e4] at h
        rw [e1]
        refine step_esc _ _ _ _ (by omega) ?_
        rw [← e1, e2, len_snoc pre 92]
        refine step_dig _ _ _ _ _ _ h16 (by omega) (by simp; omega) ?_
        rw [← e2, e3, len_snoc (pre ++ [92]) (dig b.toNat), show (0 : Int) * 16 + (b.toNat : Int) = b from by omega]
        refine step_space _ _ _ _ _ (by omega) (by simp; omega) (by omega) ?_
        rw [← e3, len_snoc (pre ++ [92] ++ [dig b.toNat]) 32]
        simpa [List.append_assoc] using h
      · rw [hexN_big _ h16, hexN_small (b.toNat / 16) (by omega)] at *
        have hd1 : b.toNat / 16 < 16 := by omega
        have hd2 : b.toNat % 16 < 16 := by omega
        have hbq : (b.toNat / 16 : Nat) * 16 + (b.toNat % 16 : Nat) = b.toNat := by omega
        generalize b.toNat / 16 = d1 at *
        generalize b.toNat % 16 = d2 at *
        have e1 : pre ++ ([92] ++ ([dig d1] ++ [dig d2]) ++ [32] ++ t) = pre ++ 92 :: (dig d1 :: dig d2 :: 32 :: t) := by simp
        have e2 : pre ++ ([92] ++ ([dig d1] ++ [dig d2]) ++ [32] ++ t) = (pre ++ [92]) ++ dig d1 :: (dig d2 :: 32 :: t) := by simp
        have e3 : pre ++ ([92] ++ ([dig d1] ++ [dig d2]) ++ [32] ++ t) = (pre ++ [92] ++ [dig d1]) ++ dig d2 :: (32 :: t) := by simp
        have e5 : pre ++ ([92] ++ ([dig d1] ++ [dig d2]) ++ [32] ++ t) = (pre ++ [92] ++ [dig d1] ++ [dig d2]) ++ 32 :: t := by simp
        have e4 : (pre ++ ([92] ++ ([dig d1] ++ [dig d2]) ++ [32])) ++ t = pre ++ ([92] ++ ([dig d1] ++ [dig d2]) ++ [32] ++ t) := by simp
        rw [e4] at h
        rw [e1]
        refine step_esc _ _ _ _ (by omega) ?_
        rw [← e1, e2, len_snoc pre 92]
        refine step_dig _ _ _ _ _ _ hd1 (by omega) (by simp; omega) ?_
        rw [← e2, e3, len_snoc (pre ++ [92]) (dig d1), show (0 : Int) * 16 + (d1 : Int) = d1 from by omega]
        refine step_dig _ _ _ _ _ _ hd2 (by omega) (by simp; omega) ?_
        rw [← e3, e5, len_snoc (pre ++ [92] ++ [dig d1]) (dig d2), show (d1 : Int) * 16 + (d2 : Int) = b from by omega]
        refine step_space _ _ _ _ _ (by omega) (by simp; omega) (by omega) ?_
        rw [← e5, len_snoc (pre ++ [92] ++ [dig d1] ++ [dig d2]) 32]
        simpa [List.append_assoc] using h
theorem backU_le (b : Int) : (backU b).length ≤ 3 := by unfold backU; split <;> simp
theorem back_loop {R : Bool} (p : List Int) : ∀ (q pre acc : List Int), IsB q → pre.length + 6 * q.length ≤ 1099511627000 → acc.length + 3 * q.length ≤ 1099511627000 →
    Ev (fun k => bobbinlaw07_CssstrBack.l2 k p (acc ++ backL q) [] 0) R → Ev (fun k => bobbinlaw07_CssstrBack.l0 k p (pre ++ textL q) acc (pre.length : Int)) R
  | [], pre, acc, hB, hp, ha, h => by
    refine Ev.step (fun k => ?_) h
    simp only [bobbinlaw07_CssstrBack.l0, textL, backL, List.flatMap_nil, List.append_nil]
    rw [if_neg (by omega)]
  | b :: q, pre, acc, hB, hp, ha, h => by
    have hb := hB b List.mem_cons_self
    have hu := unitL_le b hb
    have hk := backU_le b
    rw [List.length_cons] at hp ha
    have ih := back_loop p q (pre ++ unitL b) (acc ++ backU b) (fun x hx => hB x (List.mem_cons_of_mem _ hx)) (by rw [List.length_append]; omega) (by rw [List.length_append]; omega)
      (by rw [List.append_assoc]; exact h)
    have := back_one p pre acc (textL q) b hb (by omega) (by omega) ih
    exact this
theorem want_loop (p : List Int) (hp : p.length ≤ 1048576) (x4 : List Int) : ∀ (q pre x7 : List Int), pre ++ q = p → x7.length ≤ 3 * pre.length →
    Ev (fun k => bobbinlaw07_CssstrBack.l2 k p x4 x7 (pre.length : Int)) ((strOfNums x4).toList == (strOfNums (x7 ++ backL q)).toList)
  | [], pre, x7, he, hx => by
    rw [List.append_nil] at he
    subst he
    refine ⟨1, fun k hk => ?_⟩
    obtain ⟨k, rfl⟩ : ∃ m, k = m + 1 := ⟨k - 1, by omega⟩
    show bobbinlaw07_CssstrBack.l2 (k + 1) _ _ _ _ = _
    simp only [bobbinlaw07_CssstrBack.l2, backL, List.flatMap_nil, List.append_nil]
    rw [if_neg (by omega)]
  | b :: q, pre, x7, he, hx => by
    have hlen : pre.length + (q.length + 1) = p.length := by rw [← he]; simp
    have hr : rd p (pre.length : Int) = b := by rw [← he]; exact rd_at _ _ _
    have hk := backU_le b
    have ih := want_loop p hp x4 q (pre ++ [b]) (x7 ++ backU b) (by rw [← he]; simp) (by simp; omega)
    have e1 : x7 ++ backL (b :: q) = x7 ++ backU b ++ backL q := by unfold backL; rw [List.flatMap_cons, List.append_assoc]
    rw [e1]
    refine Ev.step (fun k => ?_) ih
    simp only [bobbinlaw07_CssstrBack.l2]
    rw [if_pos (by omega), if_pos (by omega), hr, wrap_small (by omega) (by omega)]
    have e2 : ((pre ++ [b]).length : Int) = (pre.length : Int) + 1 := by simp
    rw [e2]
    by_cases h0 : b = 0
    · rw [if_pos h0]
      simp only [Option.bind_some]
      rw [if_pos (by simp; omega)]
      unfold backU
      rw [if_pos h0]
    · rw [if_neg h0, if_pos (by omega)]
      unfold backU
      rw [if_neg h0]
theorem back_pure (p : List Int) (hp : p.length ≤ 1048576) (hB : IsB p) : ∃ k, bobbinlaw07_CssstrBack.f k p = some true := by
  refine Ev.rounds (Ev.bind awake_ev ?_)
  refine ev_pos rfl (Ev.bind (text_ev p hB (by omega)) ?_)
  have h2 := want_loop p hp (backL p) p [] [] rfl (by simp)
  rw [List.nil_append, BEq.rfl] at h2
  have h1 := back_loop p p [] [] hB (by simp; omega) (by simp; omega) (R := true) (by rw [List.nil_append]; exact h2)
  rw [List.nil_append] at h1
  exact h1
end Go.Proofs.YtdpnnglfaofjeaaDoor.PCss

import Derived.Test.YtdpnnglfaofjeaaDoorSE
import Derived.Test.YtdpnnglfaofjeaaDoorPScx2
namespace Go.Proofs.YtdpnnglfaofjeaaDoor.Z
open Go.RowKit Go.Lib Go.Proofs.YtdpnnglfaofjeaaDoorW.PrintWords Go.Proofs.YtdpnnglfaofjeaaDoorW.PrintLast Go.Proofs.YtdpnnglfaofjeaaDoorW.PrintMore Go.Proofs.YtdpnnglfaofjeaaDoor.PSc
set_option linter.unusedVariables false
set_option linter.unusedSimpArgs false
set_option maxRecDepth 100000

/-! ### What the printed functions of chapter 05 compute -/
def low (x : Int) : Int := if 65 ≤ x ∧ x ≤ 90 then x + 32 else x
def okName (s : ByteArray) : Bool := decide (s.toList = ([104, 116, 116, 112] : List UInt8)) || decide (s.toList = ([104, 116, 116, 112, 115] : List UInt8)) || decide (s.toList = ([109, 97, 105, 108, 116, 111] : List UInt8))
def allowed (l : List Int) : Bool := okName (strOfNums (l.map low))
theorem z_wrap (n : Int) (h : -9223372036854775808 ≤ n ∧ n ≤ 9223372036854775807) : wrap64 n = n := by unfold wrap64; omega
theorem z_rd (l : List Int) (i : Nat) : rd l (i : Int) = l.getD i 0 := by simp [rd, rdOf]
theorem z_snoc (l : List Int) (i : Nat) (h : i < l.length) : l.take (i + 1) = l.take i ++ [l.getD i 0] := by
  rw [List.take_add_one, List.getElem?_eq_getElem h]
  simp [List.getD_eq_getElem?_getD, List.getElem?_eq_getElem h]
theorem okName_ev (s : ByteArray) : (if s.toList = ([104, 116, 116, 112] : List UInt8) then (some true) else (if s.toList = ([104, 116, 116, 112, 115] : List UInt8) then (some true) else (if s.toList = ([109, 97, 105, 108, 116, 111] : List UInt8) then (some true) else (some false)))) = some (okName s) := by
  unfold okName
  repeat' split
  all_goals simp_all
theorem okName_ev2 (s : ByteArray) : (if s.toList = ([104, 116, 116, 112] : List UInt8) then (some true) else (if s.toList = ([104, 116, 116, 112, 115] : List UInt8) then (some true) else (some (s.toList == ([109, 97, 105, 108, 116, 111] : List UInt8))))) = some (okName s) := by
  unfold okName
  by_cases h1 : s.toList = ([104, 116, 116, 112] : List UInt8)
  · rw [if_pos h1, decide_eq_true h1]; rfl
  · by_cases h2 : s.toList = ([104, 116, 116, 112, 115] : List UInt8)
    · rw [if_neg h1, if_pos h2, decide_eq_false h1, decide_eq_true h2]; rfl
    · rw [if_neg h1, if_neg h2, decide_eq_false h1, decide_eq_false h2, Bool.false_or, Bool.false_or]
      congr 1
      rw [Bool.eq_iff_iff]
      simp
theorem small_step (l : List Int) (i : Nat) (hi : i < l.length) (v : Int) : ((l.take i).map low ++ List.replicate (l.length - i) 0).set i v = ((l.take i).map low ++ [v]) ++ List.replicate (l.length - (i + 1)) 0 := by
  have hlen : ((l.take i).map low).length = i := by simp; omega
  rw [List.set_append_right _ _ (by omega), hlen, Nat.sub_self]
  rw [show l.length - i = (l.length - (i + 1)) + 1 by omega, List.replicate_succ]
  simp
theorem small_loop (l : List Int) (hB : ∀ j : Nat, 0 ≤ l.getD j 0 ∧ l.getD j 0 ≤ 255) (hN : l.length ≤ 281474976710656) : ∀ (n i k : Nat), l.length - i = n → i ≤ l.length → n < k →
    scheme_small.l0 k ((l.take i).map low ++ List.replicate (l.length - i) 0) l (l.length : Int) (i : Int) = some (l.map low) := by
  intro n
  induction n with
  | zero =>
    intro i k hn hi hk
    obtain ⟨k, rfl⟩ : ∃ q, k = q + 1 := ⟨k - 1, by omega⟩
    obtain rfl : i = l.length := by omega
    rw [scheme_small.l0, if_neg (by omega), List.take_length, Nat.sub_self]
    simp
  | succ n ih =>
    intro i k hn hi hk
    obtain ⟨k, rfl⟩ : ∃ q, k = q + 1 := ⟨k - 1, by omega⟩
    have hil : i < l.length := by omega
    have hlen : ((l.take i).map low ++ List.replicate (l.length - i) (0 : Int)).length = l.length := by simp; omega
    have hw : wrap64 ((i : Int) + 1) = ((i + 1 : Nat) : Int) := by rw [z_wrap _ (by omega)]; rfl
    have hb := hB i
    have hnext := ih (i + 1) k (by omega) (by omega) (by omega)
    rw [z_snoc l i hil, List.map_append, List.map_cons, List.map_nil] at hnext
    rw [scheme_small.l0, if_pos (by omega), if_pos (by omega), if_pos (by omega), z_rd, hw, Int.toNat_natCast]
    by_cases h1 : l.getD i 0 ≥ 65
    · rw [if_pos h1]
      by_cases h2 : l.getD i 0 ≤ 90
      · rw [if_pos h2, if_pos (by rw [hlen]; omega), small_step l i hil, ← hnext, show low (l.getD i 0) = (l.getD i 0 + 32) % 256 by unfold low; rw [if_pos ⟨h1, h2⟩]; omega]
      · rw [if_neg h2, if_pos (by rw [hlen]; omega), small_step l i hil, ← hnext, show low (l.getD i 0) = l.getD i 0 by unfold low; rw [if_neg (fun h => h2 h.2)]]
    · rw [if_neg h1, if_pos (by rw [hlen]; omega), small_step l i hil, ← hnext, show low (l.getD i 0) = l.getD i 0 by unfold low; rw [if_neg (fun h => h1 h.1)]]
theorem small_ev (l : List Int) (hB : ∀ j : Nat, 0 ≤ l.getD j 0 ∧ l.getD j 0 ≤ 255) (hN : l.length ≤ 281474976710656) (k : Nat) (hk : l.length < k) : scheme_small.f k l = some (l.map low) := by
  rw [scheme_small.f, if_pos (by omega), if_pos (by omega)]
  have h := small_loop l hB hN l.length 0 k (by omega) (by omega) hk
  rw [List.take_zero, List.map_nil, List.nil_append, Nat.sub_zero] at h
  rw [Int.toNat_natCast]
  exact h
theorem allowed_ev (l : List Int) (hB : ∀ j : Nat, 0 ≤ l.getD j 0 ∧ l.getD j 0 ≤ 255) (hN : l.length ≤ 281474976710656) (k : Nat) (hk : l.length < k) : scheme_Allowed.f k l = some (allowed l) := by
  rw [scheme_Allowed.f, small_ev l hB hN k hk, Option.bind_some, okName_ev]
  rfl
theorem allowed5_loop (l : List Int) (hB : ∀ j : Nat, 0 ≤ l.getD j 0 ∧ l.getD j 0 ≤ 255) (hN : l.length ≤ 140737488355327) : ∀ (n i k : Nat), l.length - i = n → i ≤ l.length → n < k →
    bobbinref05_Allowed.l0 k l ((l.take i).map low) (i : Int) = some (allowed l) := by
  intro n
  induction n with
  | zero =>
    intro i k hn hi hk
    obtain ⟨k, rfl⟩ : ∃ q, k = q + 1 := ⟨k - 1, by omega⟩
    obtain rfl : i = l.length := by omega
    rw [bobbinref05_Allowed.l0, if_neg (by omega), List.take_length, okName_ev2]
    rfl
  | succ n ih =>
    intro i k hn hi hk
    obtain ⟨k, rfl⟩ : ∃ q, k = q + 1 := ⟨k - 1, by omega⟩
    have hil : i < l.length := by omega
    have hlen : ((l.take i).map low).length < 140737488355328 := by simp; omega
    have hw : wrap64 ((i : Int) + 1) = ((i + 1 : Nat) : Int) := by rw [z_wrap _ (by omega)]; rfl
    have hb := hB i
    have hnext := ih (i + 1) k (by omega) (by omega) (by omega)
    rw [z_snoc l i hil, List.map_append, List.map_cons, List.map_nil] at hnext
    rw [bobbinref05_Allowed.l0, if_pos (by omega), if_pos (by omega), z_rd, hw]
    by_cases h1 : l.getD i 0 ≥ 65
    · rw [if_pos h1]
      by_cases h2 : l.getD i 0 ≤ 90
      · rw [if_pos h2, if_pos hlen, ← hnext, show low (l.getD i 0) = (l.getD i 0 + 32) % 256 by unfold low; rw [if_pos ⟨h1, h2⟩]; omega]
      · rw [if_neg h2, if_pos hlen, ← hnext, show low (l.getD i 0) = l.getD i 0 by unfold low; rw [if_neg (fun h => h2 h.2)]]
    · rw [if_neg h1, if_pos hlen, ← hnext, show low (l.getD i 0) = l.getD i 0 by unfold low; rw [if_neg (fun h => h1 h.1)]]
theorem allowed5_ev (l : List Int) (hB : ∀ j : Nat, 0 ≤ l.getD j 0 ∧ l.getD j 0 ≤ 255) (hN : l.length ≤ 140737488355327) (k : Nat) (hk : l.length < k) : bobbinref05_Allowed.f k l = some (allowed l) := by
  have h := allowed5_loop l hB hN l.length 0 k (by omega) (by omega) hk
  rw [List.take_zero, List.map_nil] at h
  exact h

/-! ### The first mark -/
def markFrom : List Int → Int → Int
  | [], _ => -1
  | x :: t, i => if stop x then i else markFrom t (i + 1)
def mark (l : List Int) : Int := markFrom l 0
theorem IsIdx.unique {l : List Int} {r s : Int} (h : IsIdx l r) (k : IsIdx l s) : r = s := by
  rcases h with ⟨rfl, h⟩ | ⟨i, rfl, hi, hs, hn⟩ <;> rcases k with ⟨rfl, k⟩ | ⟨j, rfl, hj, ks, kn⟩
  · rfl
  · exact absurd ks (h j hj)
  · exact absurd hs (k i hi)
  · rcases Nat.lt_trichotomy i j with e | e | e
    · exact absurd hs (kn i e)
    · rw [e]
    · exact absurd ks (hn j e)
theorem markFrom_is (l : List Int) : ∀ (n i : Nat), l.length - i = n → i ≤ l.length → (∀ j : Nat, j < i → ¬ stop (l.getD j 0)) → IsIdx l (markFrom (l.drop i) (i : Int)) := by
  intro n
  induction n with
  | zero =>
    intro i hn hi h
    obtain rfl : i = l.length := by omega
    rw [List.drop_length]
    exact .inl ⟨rfl, h⟩
  | succ n ih =>
    intro i hn hi h
    have hil : i < l.length := by omega
    have hd : l.drop i = l.getD i 0 :: l.drop (i + 1) := by
      rw [List.drop_eq_getElem_cons hil]
      simp [List.getD_eq_getElem?_getD, List.getElem?_eq_getElem hil]
    rw [hd, markFrom]
    by_cases hs : stop (l.getD i 0)
    · rw [if_pos hs]
      exact .inr ⟨i, rfl, hil, hs, h⟩
    · rw [if_neg hs]
      exact ih (i + 1) (by omega) (by omega) (fun j hj => by
        rcases (show j < i ∨ j = i by omega) with q | rfl
        · exact h j q
        · exact hs)
theorem mark_is (l : List Int) : IsIdx l (mark l) := markFrom_is l l.length 0 (by omega) (by omega) (fun j hj => by omega)
theorem mark5_loop (l : List Int) (hN : l.length ≤ 140737488355327) : ∀ (n i k : Nat), l.length - i = n → i ≤ l.length → n < k → (∀ j : Nat, j < i → ¬ stop (l.getD j 0)) → ∃ r, bobbinref05_Mark.l0 k l (i : Int) = some r ∧ IsIdx l r := by
  intro n
  induction n with
  | zero =>
    intro i k hn hi hk h
    obtain ⟨k, rfl⟩ : ∃ q, k = q + 1 := ⟨k - 1, by omega⟩
    obtain rfl : i = l.length := by omega
    rw [bobbinref05_Mark.l0, if_neg (by omega)]
    exact ⟨-1, rfl, .inl ⟨rfl, h⟩⟩
  | succ n ih =>
    intro i k hn hi hk h
    obtain ⟨k, rfl⟩ : ∃ q, k = q + 1 := ⟨k - 1, by omega⟩
    have hil : i < l.length := by omega
    have hw : wrap64 ((i : Int) + 1) = ((i + 1 : Nat) : Int) := by rw [z_wrap _ (by omega)]; rfl
    rw [bobbinref05_Mark.l0, if_pos (by omega), if_pos (by omega), z_rd, hw]
    have hyes : stop (l.getD i 0) → IsIdx l (i : Int) := fun hs => .inr ⟨i, rfl, hil, hs, h⟩
    by_cases h1 : l.getD i 0 = 58
    · rw [if_pos h1]; exact ⟨_, rfl, hyes (.inl h1)⟩
    rw [if_neg h1]
    by_cases h2 : l.getD i 0 = 47
    · rw [if_pos h2]; exact ⟨_, rfl, hyes (.inr (.inl h2))⟩
    rw [if_neg h2]
    by_cases h3 : l.getD i 0 = 63
    · rw [if_pos h3]; exact ⟨_, rfl, hyes (.inr (.inr (.inl h3)))⟩
    rw [if_neg h3]
    by_cases h4 : l.getD i 0 = 35
    · rw [if_pos h4]; exact ⟨_, rfl, hyes (.inr (.inr (.inr h4)))⟩
    rw [if_neg h4]
    exact ih (i + 1) k (by omega) (by omega) (by omega) (fun j hj => by
      rcases (show j < i ∨ j = i by omega) with q | rfl
      · exact h j q
      · unfold stop; omega)
theorem mark5_ev (l : List Int) (hN : l.length ≤ 140737488355327) (k : Nat) (hk : l.length < k) : bobbinref05_Mark.f k l = some (mark l) := by
  obtain ⟨r, h1, h2⟩ := mark5_loop l hN l.length 0 k (by omega) (by omega) hk (fun j hj => by omega)
  rw [← h2.unique (mark_is l)]
  exact h1
/-- Is the value stopped? -/
def stopped (l : List Int) : Bool := if mark l < 0 then decide ((l.length : Int) > 16) else if mark l > 16 then true else if l.getD (mark l).toNat 0 = 58 then !allowed (l.take (mark l).toNat) else false
theorem take_bytes {l : List Int} (hB : ∀ j : Nat, 0 ≤ l.getD j 0 ∧ l.getD j 0 ≤ 255) (n : Nat) : ∀ j : Nat, 0 ≤ (l.take n).getD j 0 ∧ (l.take n).getD j 0 ≤ 255 := by
  intro j
  by_cases h : j < n
  · have e : (l.take n).getD j 0 = l.getD j 0 := by simp [List.getD_eq_getElem?_getD, List.getElem?_take, h]
    rw [e]; exact hB j
  · have e : (l.take n).getD j 0 = 0 := by
      rw [List.getD_eq_getElem?_getD, List.getElem?_take, if_neg h]; rfl
    rw [e]; omega
theorem mark_lt (l : List Int) : mark l < (l.length : Int) := by
  rcases mark_is l with ⟨h, _⟩ | ⟨i, h, hi, _⟩ <;> omega
theorem stopped5_ev (l : List Int) (hB : ∀ j : Nat, 0 ≤ l.getD j 0 ∧ l.getD j 0 ≤ 255) (hN : l.length ≤ 140737488355327) (k : Nat) (hk : l.length < k) : bobbinref05_Stopped.f k l = some (stopped l) := by
  have hm := mark_lt l
  rw [bobbinref05_Stopped.f, mark5_ev l hN k hk, Option.bind_some]
  unfold stopped
  by_cases h0 : mark l < 0
  · rw [if_pos h0, if_pos h0]
  rw [if_neg h0, if_neg h0]
  by_cases h1 : mark l > 16
  · rw [if_pos h1, if_pos h1]
  rw [if_neg h1, if_neg h1, if_pos (by omega), if_pos (by omega), if_pos hm]
  obtain ⟨i, hi⟩ := Int.eq_ofNat_of_zero_le (show 0 ≤ mark l by omega)
  rw [hi, z_rd, Int.toNat_natCast]
  by_cases h2 : l.getD i 0 = 58
  · rw [if_pos h2, if_pos h2, if_pos (by omega), allowed5_ev _ (take_bytes hB i) (by rw [List.length_take]; omega) k (by rw [List.length_take]; omega)]
    rfl
  · rw [if_neg h2, if_neg h2]
/-- What is let through of a whole value. -/
def blockedB : ByteArray := ⟨#[35, 98, 108, 111, 99, 107, 101, 100]⟩
theorem pass5_ev (l : List Int) (hB : ∀ j : Nat, 0 ≤ l.getD j 0 ∧ l.getD j 0 ≤ 255) (hN : l.length ≤ 140737488355327) (k : Nat) (hk : l.length < k) : bobbinref05_Pass.f k l = some (if stopped l = true then blockedB else strOfNums l) := by
  rw [bobbinref05_Pass.f, stopped5_ev l hB hN k hk, Option.bind_some]
  unfold blockedB
  split <;> rfl
theorem sure5_ev (l : List Int) (hN : l.length ≤ 140737488355327) (k : Nat) (hk : l.length < k) : bobbinref05_Sure.f k l = some (decide (0 ≤ mark l) || decide ((l.length : Int) > 16)) := by
  rw [bobbinref05_Sure.f, mark5_ev l hN k hk, Option.bind_some]
  by_cases h : mark l ≥ 0
  · rw [if_pos h, decide_eq_true h]; rfl
  · rw [if_neg h, decide_eq_false h]; rfl
end Go.Proofs.YtdpnnglfaofjeaaDoor.Z

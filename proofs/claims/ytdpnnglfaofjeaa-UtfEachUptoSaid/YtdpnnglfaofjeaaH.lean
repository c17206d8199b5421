import Derived.Test.YtdpnnglfaofjeaaG
import Derived.Lib.RuneCount
namespace Go.Proofs.Ytdpnnglfaofjeaa.U
open Go.RowKit Go.Proofs.YtdpnnglfaofjeaaW.PrintWords
set_option linter.unusedVariables false

/-- The characters of the clean text. -/
def chars (l : List Int) : List (List Int) :=
  if h : 0 < l.length then
    if (firstL l).2.2 = true then [fffd]
    else (if (firstL l).2.1 = true then l.take (firstL l).1.toNat else fffd) :: chars (l.drop (firstL l).1.toNat)
  else []
termination_by l.length
decreasing_by
  all_goals
    have := firstL_pos l h
    rw [List.length_drop]
    omega
theorem chars_nil : chars [] = [] := by unfold chars; simp
theorem chars_open (l : List Int) (h : 0 < l.length) (ho : (firstL l).2.2 = true) : chars l = [fffd] := by rw [chars, dif_pos h, if_pos ho]
theorem chars_good (l : List Int) (h : 0 < l.length) (ho : (firstL l).2.2 = false) (hg : (firstL l).2.1 = true) : chars l = l.take (firstL l).1.toNat :: chars (l.drop (firstL l).1.toNat) := by
  rw [chars, dif_pos h, if_neg (by simp [ho]), if_pos hg]
theorem chars_bad (l : List Int) (h : 0 < l.length) (ho : (firstL l).2.2 = false) (hg : (firstL l).2.1 = false) : chars l = fffd :: chars (l.drop (firstL l).1.toNat) := by
  rw [chars, dif_pos h, if_neg (by simp [ho]), if_neg (by simp [hg])]
theorem clean_chars (l : List Int) : clean l = (chars l).flatten := by
  induction hn : l.length using Nat.strongRecOn generalizing l with
  | ind n ih =>
    subst hn
    by_cases hp : 0 < l.length
    · have h1 := firstL_pos l hp
      have hi := ih (l.drop (firstL l).1.toNat).length (by rw [List.length_drop]; omega) _ rfl
      cases ho : (firstL l).2.2
      · cases hg : (firstL l).2.1
        · rw [clean_bad l hp ho hg, chars_bad l hp ho hg, hi]; rfl
        · rw [clean_good l hp ho hg, chars_good l hp ho hg, hi]; rfl
      · rw [clean_open l hp ho, chars_open l hp ho]; rfl
    · have : l = [] := List.eq_nil_of_length_eq_zero (by omega)
      subst this
      rw [clean_nil, chars_nil]; rfl

/-- A character, whatever stands behind it. -/
def IsChar (ch : List Int) : Prop := 0 < ch.length ∧ ∀ t, firstL (ch ++ t) = ((ch.length : Int), true, false)
theorem isChar_take (l : List Int) (h : 0 < l.length) (ho : (firstL l).2.2 = false) (hg : (firstL l).2.1 = true) : IsChar (l.take (firstL l).1.toNat) := by
  have h1 := firstL_pos l h
  have h2 := firstL_le l h
  have hlt : (l.take (firstL l).1.toNat).length = (firstL l).1.toNat := by rw [List.length_take]; omega
  have hf : firstL (l.take (firstL l).1.toNat) = firstL l := by
    rcases firstL_take l (firstL l).1.toNat (by omega) h (by omega) ho with h | ⟨hb, _⟩
    · exact h
    · rw [hg] at hb; cases hb
  refine ⟨by omega, fun t => ?_⟩
  rw [firstL_append _ t (by omega) (by rw [hf]; exact ho), hf, hlt]
  have e : ((firstL l).1.toNat : Int) = (firstL l).1 := by omega
  rw [e, ← hg, ← ho]
theorem isChar_fffd : IsChar fffd := by
  refine ⟨by decide, fun t => ?_⟩
  show firstL (239 :: 191 :: 189 :: t) = _
  rw [firstL_cons]
  simp [firstM, tailL, matchLen, fffd]
theorem isChar_chars (l : List Int) : ∀ ch ∈ chars l, IsChar ch := by
  induction hn : l.length using Nat.strongRecOn generalizing l with
  | ind n ih =>
    subst hn
    by_cases hp : 0 < l.length
    · have h1 := firstL_pos l hp
      have hi := ih (l.drop (firstL l).1.toNat).length (by rw [List.length_drop]; omega) _ rfl
      intro ch hc
      cases ho : (firstL l).2.2
      · cases hg : (firstL l).2.1
        · rw [chars_bad l hp ho hg] at hc
          rcases List.mem_cons.1 hc with rfl | hc
          · exact isChar_fffd
          · exact hi ch hc
        · rw [chars_good l hp ho hg] at hc
          rcases List.mem_cons.1 hc with rfl | hc
          · exact isChar_take l hp ho hg
          · exact hi ch hc
      · rw [chars_open l hp ho] at hc
        rw [List.mem_singleton.1 hc]
        exact isChar_fffd
    · have : l = [] := List.eq_nil_of_length_eq_zero (by omega)
      subst this
      rw [chars_nil]
      intro ch hc
      simp at hc
theorem chars_cons (ch t : List Int) (h : IsChar ch) : chars (ch ++ t) = ch :: chars t := by
  have hf := h.2 t
  have hp : 0 < (ch ++ t).length := by have := h.1; rw [List.length_append]; omega
  rw [chars_good _ hp (by rw [hf]) (by rw [hf]), hf]
  simp
theorem run_cons (ch t : List Int) (h : IsChar ch) : run (ch ++ t) = (ch ++ (run t).1, (run t).2) := by
  have hf := h.2 t
  have hp : 0 < (ch ++ t).length := by have := h.1; rw [List.length_append]; omega
  rw [run_good _ hp (by rw [hf]) (by rw [hf]), hf]
  simp
theorem chars_valid (chs : List (List Int)) (t : List Int) (h : ∀ ch ∈ chs, IsChar ch) : chars (chs.flatten ++ t) = chs ++ chars t := by
  induction chs with
  | nil => simp
  | cons ch chs ih =>
    simp only [List.flatten_cons, List.append_assoc, List.cons_append]
    rw [chars_cons _ _ (h ch List.mem_cons_self), ih (fun c hc => h c (List.mem_cons_of_mem _ hc))]
theorem run_valid (chs : List (List Int)) (t : List Int) (h : ∀ ch ∈ chs, IsChar ch) : run (chs.flatten ++ t) = (chs.flatten ++ (run t).1, (run t).2) := by
  induction chs with
  | nil => simp
  | cons ch chs ih =>
    simp only [List.flatten_cons, List.append_assoc]
    rw [run_cons _ _ (h ch List.mem_cons_self), ih (fun c hc => h c (List.mem_cons_of_mem _ hc))]
theorem chars_clean (l t : List Int) : chars (clean l ++ t) = chars l ++ chars t := by rw [clean_chars, chars_valid _ _ (isChar_chars l)]
theorem run_clean (l t : List Int) : run (clean l ++ t) = (clean l ++ (run t).1, (run t).2) := by rw [clean_chars, run_valid _ _ (isChar_chars l)]
theorem clean_clean (l t : List Int) : clean (clean l ++ t) = clean l ++ clean t := by
  rw [clean_chars (clean l ++ t), chars_clean, List.flatten_append, ← clean_chars, ← clean_chars]
theorem clean_idem (l : List Int) : clean (clean l) = clean l := by
  have h := clean_clean l []
  rw [List.append_nil, clean_nil, List.append_nil] at h
  exact h

def IsB (l : List Int) : Prop := ∀ x ∈ l, 0 ≤ x ∧ x ≤ 255
theorem matchLen_all : ∀ t l, matchLen t l = t.length → ∀ (i : Nat) (s : Int × Int) (x : Int), t[i]? = some s → l[i]? = some x → s.1 ≤ x ∧ x ≤ s.2
  | [], l, _, i, s, x, hs, _ => by simp at hs
  | a :: t, [], h, i, s, x, hs, hx => by simp at hx
  | a :: t, b :: l, h, i, s, x, hs, hx => by
    have hle := (matchLen_le t l).1
    unfold matchLen at h
    split at h
    · simp at h
    split at h
    · simp at h
    · rename_i h1 h2
      cases i with
      | zero =>
        simp at hs hx
        subst hs hx
        omega
      | succ i =>
        simp only [List.length_cons] at h
        exact matchLen_all t l (by omega) i s x (by simpa using hs) (by simpa using hx)
/-- What a character looks like. -/
def Form (ch : List Int) : Prop :=
  (∃ x, ch = [x] ∧ 0 ≤ x ∧ x < 128) ∨
  (∃ x y, ch = [x, y] ∧ 194 ≤ x ∧ x ≤ 223 ∧ 128 ≤ y ∧ y ≤ 191) ∨
  (∃ x y z, ch = [x, y, z] ∧ 224 ≤ x ∧ x ≤ 239 ∧ 128 ≤ y ∧ y ≤ 191 ∧ 128 ≤ z ∧ z ≤ 191 ∧ (x = 224 → 160 ≤ y) ∧ (x = 237 → y ≤ 159)) ∨
  (∃ x y z u, ch = [x, y, z, u] ∧ 240 ≤ x ∧ x ≤ 244 ∧ 128 ≤ y ∧ y ≤ 191 ∧ 128 ≤ z ∧ z ≤ 191 ∧ 128 ≤ u ∧ u ≤ 191 ∧ (x = 240 → 144 ≤ y) ∧ (x = 244 → y ≤ 143))
theorem form_of (ch : List Int) (h : IsChar ch) (hb : IsB ch) : Form ch := by
  have h1 := h.2 []
  rw [List.append_nil] at h1
  cases ch with
  | nil => have := h.1; simp at this
  | cons x l =>
    rw [firstL_cons] at h1
    unfold firstM at h1
    have hx := hb x List.mem_cons_self
    by_cases hx1 : x < 128
    · rw [if_pos hx1] at h1
      simp only [Prod.mk.injEq, List.length_cons, and_true] at h1
      have : l = [] := List.eq_nil_of_length_eq_zero (by omega)
      subst this
      exact .inl ⟨x, rfl, hx.1, hx1⟩
    · rw [if_neg hx1] at h1
      by_cases h2 : tailL x = []
      · rw [if_pos h2] at h1
        simp at h1
      · rw [if_neg h2] at h1
        by_cases h3 : matchLen (tailL x) l = (tailL x).length
        · rw [if_pos h3] at h1
          simp only [Prod.mk.injEq, List.length_cons, and_true] at h1
          have hm := matchLen_all _ _ h3
          have hll : l.length = (tailL x).length := by omega
          clear h1 h3 h hb
          unfold tailL at hm hll
          split at hm
          · rename_i a; rw [if_pos a] at hll
            match l, hll with
            | [y], _ => have h0 := hm 0 _ y rfl rfl; simp only at h0; exact .inr (.inl ⟨x, y, rfl, by omega⟩)
          split at hm
          · rename_i a b; rw [if_neg a, if_pos b] at hll
            match l, hll with
            | [y, z], _ => have h0 := hm 0 _ y rfl rfl; have h1 := hm 1 _ z rfl rfl; simp only at h0 h1; exact .inr (.inr (.inl ⟨x, y, z, rfl, by omega⟩))
          split at hm
          · rename_i a b c; rw [if_neg a, if_neg b, if_pos c] at hll
            match l, hll with
            | [y, z], _ => have h0 := hm 0 _ y rfl rfl; have h1 := hm 1 _ z rfl rfl; simp only at h0 h1; exact .inr (.inr (.inl ⟨x, y, z, rfl, by omega⟩))
          split at hm
          · rename_i a b c d; rw [if_neg a, if_neg b, if_neg c, if_pos d] at hll
            match l, hll with
            | [y, z], _ => have h0 := hm 0 _ y rfl rfl; have h1 := hm 1 _ z rfl rfl; simp only at h0 h1; exact .inr (.inr (.inl ⟨x, y, z, rfl, by omega⟩))
          split at hm
          · rename_i a b c d e; rw [if_neg a, if_neg b, if_neg c, if_neg d, if_pos e] at hll
            match l, hll with
            | [y, z, u], _ => have h0 := hm 0 _ y rfl rfl; have h1 := hm 1 _ z rfl rfl; have h2 := hm 2 _ u rfl rfl; simp only at h0 h1 h2; exact .inr (.inr (.inr ⟨x, y, z, u, rfl, by omega⟩))
          split at hm
          · rename_i a b c d e f; rw [if_neg a, if_neg b, if_neg c, if_neg d, if_neg e, if_pos f] at hll
            match l, hll with
            | [y, z, u], _ => have h0 := hm 0 _ y rfl rfl; have h1 := hm 1 _ z rfl rfl; have h2 := hm 2 _ u rfl rfl; simp only at h0 h1 h2; exact .inr (.inr (.inr ⟨x, y, z, u, rfl, by omega⟩))
          split at hm
          · rename_i a b c d e f g; rw [if_neg a, if_neg b, if_neg c, if_neg d, if_neg e, if_neg f, if_pos g] at hll
            match l, hll with
            | [y, z, u], _ => have h0 := hm 0 _ y rfl rfl; have h1 := hm 1 _ z rfl rfl; have h2 := hm 2 _ u rfl rfl; simp only at h0 h1 h2; exact .inr (.inr (.inr ⟨x, y, z, u, rfl, by omega⟩))
          · rename_i a b c d e f g
            exact absurd (by unfold tailL; rw [if_neg a, if_neg b, if_neg c, if_neg d, if_neg e, if_neg f, if_neg g]) h2
        · rw [if_neg h3] at h1
          split at h1 <;> simp at h1
theorem isB_fffd : IsB fffd := by intro x hx; simp [fffd] at hx; omega
theorem isB_clean (l : List Int) (h : IsB l) : IsB (clean l) ∧ ∀ ch ∈ chars l, IsB ch := by
  induction hn : l.length using Nat.strongRecOn generalizing l with
  | ind n ih =>
    subst hn
    by_cases hp : 0 < l.length
    · have h1 := firstL_pos l hp
      have hi := ih (l.drop (firstL l).1.toNat).length (by rw [List.length_drop]; omega) _ (fun x hx => h x (List.mem_of_mem_drop hx)) rfl
      have ht : IsB (l.take (firstL l).1.toNat) := fun x hx => h x (List.mem_of_mem_take hx)
      have app : ∀ {a b : List Int}, IsB a → IsB b → IsB (a ++ b) := fun ha hb x hx => (List.mem_append.1 hx).elim (ha x) (hb x)
      cases ho : (firstL l).2.2
      · cases hg : (firstL l).2.1
        · rw [clean_bad l hp ho hg, chars_bad l hp ho hg]
          exact ⟨app isB_fffd hi.1, fun ch hc => (List.mem_cons.1 hc).elim (fun e => e ▸ isB_fffd) (hi.2 ch)⟩
        · rw [clean_good l hp ho hg, chars_good l hp ho hg]
          exact ⟨app ht hi.1, fun ch hc => (List.mem_cons.1 hc).elim (fun e => e ▸ ht) (hi.2 ch)⟩
      · rw [clean_open l hp ho, chars_open l hp ho]
        exact ⟨isB_fffd, fun ch hc => by rw [List.mem_singleton.1 hc]; exact isB_fffd⟩
    · have : l = [] := List.eq_nil_of_length_eq_zero (by omega)
      subst this
      rw [clean_nil, chars_nil]
      exact ⟨fun x hx => by simp at hx, fun x hx => by simp at hx⟩
theorem form_chars (l : List Int) (h : IsB l) : ∀ ch ∈ chars l, Form ch := fun ch hc => form_of ch (isChar_chars l ch hc) ((isB_clean l h).2 ch hc)

/-- The number of a character. -/
def runeOf : List Int → Int
  | [x] => x
  | [x, y] => x % 32 * 64 + y % 64
  | [x, y, z] => x % 16 * 4096 + y % 64 * 64 + z % 64
  | [x, y, z, u] => x % 8 * 262144 + y % 64 * 4096 + z % 64 * 64 + u % 64
  | _ => 0
theorem get_str (l : List Int) (i : Nat) (x : Int) (h : l[i]? = some x) (hx : 0 ≤ x ∧ x ≤ 255) : ((strOfNums l).get! i).toNat = x.toNat := by
  have hi : i < l.length := (List.getElem?_eq_some_iff.1 h).1
  have h2 : (strOfNums l).data.toList[i]? = some (UInt8.ofNat x.toNat) := by rw [strOfNums_data, List.getElem?_map, h]; rfl
  have h3 : (strOfNums l).get! i = UInt8.ofNat x.toNat := by
    show (strOfNums l).data[i]! = _
    rw [Array.getElem!_eq_getD, Array.getD_eq_getD_getElem?, ← Array.getElem?_toList, h2]
    rfl
  rw [h3]
  simp
  omega
theorem str_size (l : List Int) : (strOfNums l).size = l.length := strOfNums_size l
/-- What Go's range finds at a character. -/
theorem decode_form (a ch t : List Int) (h : Form ch) : Utf8.decode (strOfNums (a ++ ch ++ t)) a.length = ((runeOf ch).toNat, ch.length) := by
  have hsz := str_size (a ++ ch ++ t)
  have get : ∀ (j : Nat) (x : Int), ch[j]? = some x → 0 ≤ x ∧ x ≤ 255 → ((strOfNums (a ++ ch ++ t)).get! (a.length + j)).toNat = x.toNat := fun j x hj hx =>
    get_str _ _ x (by
      have hl : j < ch.length := (List.getElem?_eq_some_iff.1 hj).1
      rw [List.append_assoc, List.getElem?_append_right (by omega), show a.length + j - a.length = j from by omega, List.getElem?_append_left hl]
      exact hj) hx
  generalize strOfNums (a ++ ch ++ t) = s_ at hsz get ⊢
  have hsz' : s_.size = a.length + ch.length + t.length := by rw [hsz]; simp [Nat.add_assoc]
  clear hsz
  rcases h with ⟨x, rfl, h1, h2⟩ | ⟨x, y, rfl, h1, h2, h3, h4⟩ | ⟨x, y, z, rfl, h1, h2, h3, h4, h5, h6, h7, h8⟩ | ⟨x, y, z, u, rfl, h1, h2, h3, h4, h5, h6, h7, h8, h9, h10⟩
  · have g0 := get 0 x rfl (by omega)
    simp only [Utf8.decode, g0, runeOf]
    rw [if_pos (by omega)]
    rfl
  · have g0 := get 0 x rfl (by omega)
    have g1 := get 1 y rfl (by omega)
    have hs : (a.length + 1 < s_.size) := by simp only [List.length_cons, List.length_nil] at hsz'; omega
    simp only [Utf8.decode, g0, g1, runeOf]
    rw [if_neg (by omega)]
    have c1 : (x.toNat / 32 == 6 && (decide (a.length + 1 < s_.size) && y.toNat / 64 == 2)) = true := by simp [hs]; omega
    rw [if_pos c1, if_pos (by omega)]
    simp
    omega
  · have g0 := get 0 x rfl (by omega)
    have g1 := get 1 y rfl (by omega)
    have g2 := get 2 z rfl (by omega)
    have hs1 : (a.length + 1 < s_.size) := by simp only [List.length_cons, List.length_nil] at hsz'; omega
    have hs2 : (a.length + 2 < s_.size) := by simp only [List.length_cons, List.length_nil] at hsz'; omega
    simp only [Utf8.decode, g0, g1, g2, runeOf]
    rw [if_neg (by omega)]
    have c1 : (x.toNat / 32 == 6 && (decide (a.length + 1 < s_.size) && y.toNat / 64 == 2)) = false := by
      have : (x.toNat / 32 == 6) = false := beq_eq_false_iff_ne.2 (by omega)
      rw [this]; rfl
    have c2 : (x.toNat / 16 == 14 && (decide (a.length + 1 < s_.size) && y.toNat / 64 == 2) && (decide (a.length + 2 < s_.size) && z.toNat / 64 == 2)) = true := by simp [hs1, hs2]; omega
    rw [c1, c2]
    have c3 : (decide (x.toNat % 16 * 4096 + y.toNat % 64 * 64 + z.toNat % 64 ≥ 2048) && Utf8.valid ((x.toNat % 16 * 4096 + y.toNat % 64 * 64 + z.toNat % 64 : Nat) : Int)) = true := by
      simp [Utf8.valid]; omega
    rw [if_neg (by decide), if_pos rfl, if_pos c3]
    simp
    omega
  · have g0 := get 0 x rfl (by omega)
    have g1 := get 1 y rfl (by omega)
    have g2 := get 2 z rfl (by omega)
    have g3 := get 3 u rfl (by omega)
    have hs1 : (a.length + 1 < s_.size) := by simp only [List.length_cons, List.length_nil] at hsz'; omega
    have hs2 : (a.length + 2 < s_.size) := by simp only [List.length_cons, List.length_nil] at hsz'; omega
    have hs3 : (a.length + 3 < s_.size) := by simp only [List.length_cons, List.length_nil] at hsz'; omega
    simp only [Utf8.decode, g0, g1, g2, g3, runeOf]
    rw [if_neg (by omega)]
    have e1 : (x.toNat / 32 == 6) = false := beq_eq_false_iff_ne.2 (by omega)
    have e2 : (x.toNat / 16 == 14) = false := beq_eq_false_iff_ne.2 (by omega)
    have c2 : (x.toNat / 8 == 30 && (decide (a.length + 1 < s_.size) && y.toNat / 64 == 2) && (decide (a.length + 2 < s_.size) && z.toNat / 64 == 2) && (decide (a.length + 3 < s_.size) && u.toNat / 64 == 2)) = true := by simp [hs1, hs2, hs3]; omega
    rw [e1, e2, c2]
    have c3 : (decide (x.toNat % 8 * 262144 + y.toNat % 64 * 4096 + z.toNat % 64 * 64 + u.toNat % 64 ≥ 65536) && Utf8.valid ((x.toNat % 8 * 262144 + y.toNat % 64 * 4096 + z.toNat % 64 * 64 + u.toNat % 64 : Nat) : Int)) = true := by
      simp [Utf8.valid]; omega
    simp only [Bool.false_and, Bool.false_eq_true, if_false, if_true]
    rw [if_pos c3]
    simp
    omega
end Go.Proofs.Ytdpnnglfaofjeaa.U

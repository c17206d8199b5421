import Derived.Test.YtdpnnglfaofjeaaM
namespace Go.Proofs.Ytdpnnglfaofjeaa.PUtf
open Go.RowKit Go.Proofs.YtdpnnglfaofjeaaW.PrintWords Go.Proofs.YtdpnnglfaofjeaaW.PrintLast Go.Proofs.YtdpnnglfaofjeaaW.PrintMore
open U
set_option linter.unusedVariables false
set_option linter.unusedSimpArgs false

/-! ### the document's pieces -/
theorem ev_some {α β : Type} {g : Nat → β → Option α} {v : β} {r : α} (h : Ev (fun k => g k v) r) : Ev (fun k => (some v).bind (g k)) r := h
theorem ev_neg {α : Type} {c : Prop} {_ : Decidable c} {a b : Nat → Option α} {r : α} (hc : ¬ c) (h : Ev b r) : Ev (fun k => if c then a k else b k) r := Ev.congr (fun k => if_neg hc) h
theorem ev_pos {α : Type} {c : Prop} {_ : Decidable c} {a b : Nat → Option α} {r : α} (hc : c) (h : Ev a r) : Ev (fun k => if c then a k else b k) r := Ev.congr (fun k => if_pos hc) h
def placesL : Nat → List (List Int) → List Int
  | _, [] => []
  | n, ch :: t => (n : Int) :: placesL (n + ch.length) t
theorem chars_nil : chars [] = [] := by rw [chars]; simp
theorem run_nil' : (run []).2 = [] := by rw [run]; simp
theorem run_open2 (l : List Int) (h : 0 < l.length) (ho : (firstL l).2.2 = true) : (run l).2 = l := by rw [run_open l h ho]
theorem firstM_open (x : Int) (l : List Int) (ho : (firstM x l).2.2 = true) : (firstM x l).1 = 1 + (l.length : Int) ∧ (firstM x l).2.1 = false := by
  unfold firstM at ho ⊢
  by_cases h1 : x < 128
  · rw [if_pos h1] at ho; simp at ho
  · rw [if_neg h1] at ho ⊢
    by_cases h2 : tailL x = []
    · rw [if_pos h2] at ho; simp at ho
    · rw [if_neg h2] at ho ⊢
      by_cases h3 : matchLen (tailL x) l = (tailL x).length
      · rw [if_pos h3] at ho; simp at ho
      · rw [if_neg h3] at ho ⊢
        by_cases h4 : matchLen (tailL x) l = l.length
        · rw [if_pos h4]; simp
        · rw [if_neg h4] at ho; simp at ho
theorem firstL_open (l : List Int) (h : 0 < l.length) (ho : (firstL l).2.2 = true) : (firstL l).1 = (l.length : Int) ∧ (firstL l).2.1 = false := by
  cases l with
  | nil => simp at h
  | cons x l =>
    rw [firstL_cons] at ho ⊢
    obtain ⟨a, b⟩ := firstM_open x l ho
    exact ⟨by rw [a]; simp; omega, b⟩
theorem pieces_loop (l : List Int) (hl : l.length ≤ 1099511627776) : ∀ (d : Nat) (pos : Nat) (x5 x6 : List Int), pos + d = l.length → x5.length ≤ 3 * pos → x6.length ≤ pos →
    Ev (fun k => bobbinref01_Pieces.l0 k l x5 x6 (pos : Int)) (x5 ++ clean (l.drop pos), x6 ++ placesL x5.length (chars (l.drop pos)), (((run (l.drop pos)).2.length : Nat) : Int)) := by
  intro d
  induction d using Nat.strongRecOn with
  | ind d ih =>
    intro pos x5 x6 hd h5 h6
    by_cases hp : pos < l.length
    · have hpd : 0 < (l.drop pos).length := by simp; omega
      have h1 := firstL_pos _ hpd
      have h2 := firstL_le _ hpd
      have hld : (l.drop pos).length = l.length - pos := by simp
      have pe := piece_ev (l.drop pos) hpd (by omega)
      obtain ⟨n, g, o, e⟩ : ∃ n g o, firstL (l.drop pos) = (n, g, o) := ⟨_, _, _, rfl⟩
      rw [e] at h1 h2 pe
      simp only at h1 h2
      obtain ⟨m, rfl⟩ : ∃ m : Nat, n = (m : Int) := ⟨n.toNat, by omega⟩
      have tk : (l.take ((pos : Int) + (m : Int)).toNat).drop pos = (l.drop pos).take m := by
        rw [show ((pos : Int) + (m : Int)).toNat = pos + m from by omega, List.drop_take]
        congr 1
        omega
      cases o with
      | true =>
        obtain ⟨q1, q2⟩ := firstL_open _ hpd (by rw [e])
        rw [e] at q1 q2
        simp only at q1 q2
        subst q2
        rw [clean_open _ hpd (by rw [e]), chars_open _ hpd (by rw [e]), run_open2 _ hpd (by rw [e])]
        refine Ev.step (fun k => by simp only [bobbinref01_Pieces.l0]; rw [if_pos (by omega), if_pos (by omega), if_pos (by omega), Int.toNat_natCast]) (Ev.bind pe ?_)
        simp only [Bool.false_eq_true, if_false, if_true, Option.bind_some]
        rw [if_pos (by omega), if_pos (by simp; omega)]
        simp only [placesL]
        rw [q1]
        exact Ev.now _
      | false =>
        have rr : (run (l.drop pos)).2 = (run ((l.drop pos).drop m)).2 := by
          cases g with
          | true => rw [run_good _ hpd (by rw [e]) (by rw [e]), e]; rfl
          | false => rw [run_bad _ hpd (by rw [e]) (by rw [e]), e]; rfl
        have dd : (l.drop pos).drop m = l.drop (pos + m) := by rw [List.drop_drop]
        cases g with
        | true =>
          have ih' := ih (d - m) (by omega) (pos + m) (x5 ++ (l.drop pos).take m) (x6 ++ [(x5.length : Int)]) (by omega) (by simp; omega) (by simp; omega)
          rw [rr, dd, clean_good _ hpd (by rw [e]) (by rw [e]), chars_good _ hpd (by rw [e]) (by rw [e]), e]
          simp only [Int.toNat_natCast, dd, placesL]
          refine Ev.step (fun k => by simp only [bobbinref01_Pieces.l0]; rw [if_pos (by omega), if_pos (by omega), if_pos (by omega), Int.toNat_natCast]) (Ev.bind pe ?_)
          have hw : wrap64 ((pos : Int) + (m : Int)) = ((pos + m : Nat) : Int) := by rw [wrap_small (by omega) (by omega)]; omega
          have tk2 : (l.take (((pos + m : Nat) : Int)).toNat).drop pos = (l.drop pos).take m := by rw [Int.toNat_natCast, List.drop_take, show pos + m - pos = m from by omega]
          refine ev_pos (by omega) (ev_some (ev_pos rfl ?_))
          rw [hw, tk2]
          refine ev_pos (by omega) (ev_pos (by omega) (ev_pos (by simp; omega) (ev_some (ev_neg Bool.false_ne_true ?_))))
          simpa [List.append_assoc] using ih'
        | false =>
          have ih' := ih (d - m) (by omega) (pos + m) (x5 ++ fffd) (x6 ++ [(x5.length : Int)]) (by omega) (by simp [fffd]; omega) (by simp; omega)
          rw [rr, dd, clean_bad _ hpd (by rw [e]) (by rw [e]), chars_bad _ hpd (by rw [e]) (by rw [e]), e]
          simp only [Int.toNat_natCast, dd, placesL]
          refine Ev.step (fun k => by simp only [bobbinref01_Pieces.l0]; rw [if_pos (by omega), if_pos (by omega), if_pos (by omega), Int.toNat_natCast]) (Ev.bind pe ?_)
          have hw : wrap64 ((pos : Int) + (m : Int)) = ((pos + m : Nat) : Int) := by rw [wrap_small (by omega) (by omega)]; omega
          refine ev_pos (by omega) (ev_some (ev_neg Bool.false_ne_true ?_))
          rw [hw]
          refine ev_some (ev_pos (by simp; omega) (ev_some (ev_neg Bool.false_ne_true ?_)))
          simpa [fffd, List.append_assoc] using ih'
    · have hd' : l.drop pos = [] := List.drop_of_length_le (by omega)
      rw [hd', clean_nil, chars_nil, run_nil']
      refine ⟨1, fun k hk => ?_⟩
      obtain ⟨k, rfl⟩ : ∃ m, k = m + 1 := ⟨k - 1, by omega⟩
      show bobbinref01_Pieces.l0 (k + 1) l _ _ _ = _
      simp only [bobbinref01_Pieces.l0, placesL, List.append_nil]
      rw [if_neg (by omega)]
      rfl
theorem pieces_ev (l : List Int) (hl : l.length ≤ 1099511627776) : Ev (fun k => bobbinref01_Pieces.f k l) (clean l, placesL 0 (chars l), (((run l).2.length : Nat) : Int)) := by
  have h := pieces_loop l hl l.length 0 [] [] (by omega) (by simp) (by simp)
  exact h
theorem ref_clean_ev (l : List Int) (hl : l.length ≤ 1099511627776) : Ev (fun k => bobbinref01_Clean.f k l) (clean l) :=
  Ev.congr (f := fun k => (bobbinref01_Pieces.f k l).bind fun bt => some bt.1) (fun k => rfl) (Ev.bind (pieces_ev l hl) (Ev.now _))

/-! ### the numbers of the characters -/
theorem wraps_i64 (n : Int) (h₀ : 0 ≤ n) (h₁ : n < 2 ^ 63) : IntKind.i64.wrap n = n := by rw [IntKind.wrap_i64]; omega
theorem i64_or6 (x y : Int) (hx₀ : 0 ≤ x) (hx : x % 64 = 0) (hx₁ : x < 2147483648) (h₀ : 0 ≤ y) (h₁ : y < 64) : Go.bits .or .i64 x y = x + y :=
  bits_join .i64 63 (by decide) wraps_i64 6 x y hx₀ hx (by omega) h₀ h₁ (by omega)
theorem i64_or12 (x y : Int) (hx₀ : 0 ≤ x) (hx : x % 4096 = 0) (hx₁ : x < 2147483648) (h₀ : 0 ≤ y) (h₁ : y < 4096) : Go.bits .or .i64 x y = x + y :=
  bits_join .i64 63 (by decide) wraps_i64 12 x y hx₀ hx (by omega) h₀ h₁ (by omega)
theorem i64_or18 (x y : Int) (hx₀ : 0 ≤ x) (hx : x % 262144 = 0) (hx₁ : x < 2147483648) (h₀ : 0 ≤ y) (h₁ : y < 262144) : Go.bits .or .i64 x y = x + y :=
  bits_join .i64 63 (by decide) wraps_i64 18 x y hx₀ hx (by omega) h₀ h₁ (by omega)
theorem rune_ev (ch t : List Int) (h : U.Form ch) : Ev (fun k => bobbinref01_Rune.f k (ch ++ t)) (runeOf ch, (ch.length : Int)) := by
  rcases h with ⟨x, rfl, h1, h2⟩ | ⟨x, y, rfl, h1, h2, h3, h4⟩ | ⟨x, y, z, rfl, h1, h2, h3, h4, h5, h6, h7, h8⟩ | ⟨x, y, z, u, rfl, h1, h2, h3, h4, h5, h6, h7, h8, h9, h10⟩
  · have hn : needL x = 1 := by unfold needL; rw [if_pos h2]
    have hr0 : rd ([x] ++ t) 0 = x := by simp [rd]
    refine Ev.congr (fun k => by unfold bobbinref01_Rune.f; rw [if_pos (by simp)]) (Ev.bind (by rw [hr0]; exact need_ev x) ?_)
    rw [hn, if_pos rfl, hr0, wrap_small (by omega) (by omega)]
    exact Ev.now _
  · have hn : needL x = 2 := by unfold needL; rw [if_neg (by omega), if_neg (by omega), if_neg (by omega), if_pos (by omega)]
    have hr0 : rd ([x, y] ++ t) 0 = x := by simp [rd]
    have hr1 : rd ([x, y] ++ t) 1 = y := by simp [rd]
    refine Ev.congr (fun k => by unfold bobbinref01_Rune.f; rw [if_pos (by simp; omega)]) (Ev.bind (by rw [hr0]; exact need_ev x) ?_)
    rw [hn, if_neg (by omega), if_pos rfl, if_pos (by simp; omega), hr0, hr1, u8_and31 x (by omega) (by omega), u8_and63 y (by omega) (by omega),
      wrap_small (x := x % 32) (by omega) (by omega), wrap_small (x := x % 32 * 64) (by omega) (by omega), wrap_small (x := y % 64) (by omega) (by omega), i64_or6 _ _ (by omega) (by omega) (by omega) (by omega) (by omega)]
    exact Ev.now _
  · have hn : needL x = 3 := by unfold needL; rw [if_neg (by omega), if_neg (by omega), if_neg (by omega), if_neg (by omega), if_pos (by omega)]
    have hr0 : rd ([x, y, z] ++ t) 0 = x := by simp [rd]
    have hr1 : rd ([x, y, z] ++ t) 1 = y := by simp [rd]
    have hr2 : rd ([x, y, z] ++ t) 2 = z := by simp [rd]
    refine Ev.congr (fun k => by unfold bobbinref01_Rune.f; rw [if_pos (by simp; omega)]) (Ev.bind (by rw [hr0]; exact need_ev x) ?_)
    rw [hn, if_neg (by omega), if_neg (by omega), if_pos rfl, if_pos (by simp; omega), if_pos (by simp; omega), hr0, hr1, hr2, u8_and15 x (by omega) (by omega), u8_and63 y (by omega) (by omega), u8_and63 z (by omega) (by omega),
      wrap_small (x := x % 16) (by omega) (by omega), wrap_small (x := x % 16 * 4096) (by omega) (by omega), wrap_small (x := y % 64) (by omega) (by omega), wrap_small (x := y % 64 * 64) (by omega) (by omega), wrap_small (x := z % 64) (by omega) (by omega),
      i64_or12 (x % 16 * 4096) (y % 64 * 64) (by omega) (by omega) (by omega) (by omega) (by omega), i64_or6 (x % 16 * 4096 + y % 64 * 64) (z % 64) (by omega) (by omega) (by omega) (by omega) (by omega)]
    exact Ev.now _
  · have hn : needL x = 4 := by unfold needL; rw [if_neg (by omega), if_neg (by omega), if_neg (by omega), if_neg (by omega), if_neg (by omega)]
    have hr0 : rd ([x, y, z, u] ++ t) 0 = x := by simp [rd]
    have hr1 : rd ([x, y, z, u] ++ t) 1 = y := by simp [rd]
    have hr2 : rd ([x, y, z, u] ++ t) 2 = z := by simp [rd]
    have hr3 : rd ([x, y, z, u] ++ t) 3 = u := by simp [rd]
    refine Ev.congr (fun k => by unfold bobbinref01_Rune.f; rw [if_pos (by simp; omega)]) (Ev.bind (by rw [hr0]; exact need_ev x) ?_)
    rw [hn, if_neg (by omega), if_neg (by omega), if_neg (by omega), if_pos (by simp; omega), if_pos (by simp; omega), if_pos (by simp; omega), hr0, hr1, hr2, hr3, u8_and7 x (by omega) (by omega), u8_and63 y (by omega) (by omega), u8_and63 z (by omega) (by omega), u8_and63 u (by omega) (by omega),
      wrap_small (x := x % 8) (by omega) (by omega), wrap_small (x := x % 8 * 262144) (by omega) (by omega), wrap_small (x := y % 64) (by omega) (by omega), wrap_small (x := y % 64 * 4096) (by omega) (by omega), wrap_small (x := z % 64) (by omega) (by omega), wrap_small (x := z % 64 * 64) (by omega) (by omega), wrap_small (x := u % 64) (by omega) (by omega),
      i64_or18 (x % 8 * 262144) (y % 64 * 4096) (by omega) (by omega) (by omega) (by omega) (by omega), i64_or12 (x % 8 * 262144 + y % 64 * 4096) (z % 64 * 64) (by omega) (by omega) (by omega) (by omega) (by omega), i64_or6 (x % 8 * 262144 + y % 64 * 4096 + z % 64 * 64) (u % 64) (by omega) (by omega) (by omega) (by omega) (by omega)]
    exact Ev.now _
theorem runes_loop : ∀ (chs : List (List Int)) (a acc : List Int), (∀ ch ∈ chs, U.Form ch) → (a ++ chs.flatten).length ≤ 4398046511104 → acc.length ≤ a.length →
    Ev (fun k => bobbinref01_Runes.l0 k (a ++ chs.flatten) acc (a.length : Int)) (acc ++ chs.map runeOf)
  | [], a, acc, h, hl, ha => by
    refine ⟨1, fun k hk => ?_⟩
    obtain ⟨k, rfl⟩ : ∃ m, k = m + 1 := ⟨k - 1, by omega⟩
    simp [bobbinref01_Runes.l0]
  | ch :: chs, a, acc, h, hl, ha => by
    have hf := h ch List.mem_cons_self
    have hpos := form_pos hf
    have e1 : a ++ (ch :: chs).flatten = (a ++ ch) ++ chs.flatten := by simp
    have e2 : (a ++ (ch :: chs).flatten).drop ((a.length : Int)).toNat = ch ++ chs.flatten := by simp
    have hl2 : (a ++ (ch :: chs).flatten).length = a.length + ch.length + chs.flatten.length := by simp [Nat.add_assoc]
    have ih := runes_loop chs (a ++ ch) (acc ++ [runeOf ch]) (fun c hc => h c (List.mem_cons_of_mem _ hc)) (by rw [← e1]; exact hl) (by simp; omega)
    rw [← e1] at ih
    refine Ev.step (fun k => by simp only [bobbinref01_Runes.l0]; rw [if_pos (by rw [hl2]; omega), if_pos (by omega), if_pos (by rw [hl2]; omega), e2]) (Ev.bind (rune_ev ch chs.flatten hf) ?_)
    rw [wrap_small (by omega) (by omega)]
    refine ev_pos (by omega) ?_
    rw [show (a.length : Int) + (ch.length : Int) = ((a ++ ch).length : Int) from by simp]
    simpa [List.append_assoc] using ih
theorem runes_ev (l : List Int) (hl : l.length ≤ 1099511627776) (hB : IsB l) : Ev (fun k => bobbinref01_Runes.f k l) ((chars l).map runeOf) := by
  refine Ev.bind (ref_clean_ev l hl) ?_
  have hc := clean_len l
  have h := runes_loop (chars l) [] [] (fun ch h => form_of ch (isChar_chars l ch h) ((isB_clean l hB).2 ch h)) (by rw [List.nil_append, ← clean_chars]; omega) (by simp)
  rw [List.nil_append, ← clean_chars] at h
  exact h
theorem cleans_pure (l : List Int) (hl : l.length ≤ 1048576) (hB : IsB l) : ∃ k, bobbinlaw01_UtfCleans.f k l = some true := by
  refine Ev.rounds (Ev.congr (fun k => by unfold bobbinlaw01_UtfCleans.f; rw [awake_true, clean_f l (by omega), count_f l (by omega) hB]; simp only [Option.bind_some, if_true]; rfl) (Ev.bind (ref_clean_ev l (by omega)) ?_))
  simp only [bobbinref01_Same.f, BEq.rfl, Option.bind_some, if_true]
  refine Ev.bind (runes_ev l (by omega) hB) ?_
  simp only [List.length_map, BEq.rfl]
  exact Ev.now _
end Go.Proofs.Ytdpnnglfaofjeaa.PUtf

import Derived.Test.YtdpnnglfaofjeaaDoorPJbx2
import Derived.Test.YtdpnnglfaofjeaaDoorVU
namespace Go.Proofs.YtdpnnglfaofjeaaDoor.PJb
open Go.RowKit Go.Proofs.YtdpnnglfaofjeaaDoorW.PrintWords Go.Proofs.YtdpnnglfaofjeaaDoorW.PrintLast Go.Proofs.YtdpnnglfaofjeaaDoorW.PrintMore
open U (dig hexN hexN_small hexN_big)
open PJh (unitJ str_size str_app bytesOf_str dig_range ev_some ev_neg ev_pos utf8_ev)
open V (textJ chars runeOf)
open PUtf (runes_ev ref_clean_ev)
set_option linter.unusedVariables false
set_option linter.unusedSimpArgs false
set_option maxRecDepth 100000

theorem w64 {x : Int} (h : -9223372036854775808 ≤ x) (h2 : x ≤ 9223372036854775807) : wrap64 x = x := by unfold wrap64; omega
theorem rd_off (pre l : List Int) (j : Nat) : rd (pre ++ l) ((pre.length + j : Nat) : Int) = l.getD j 0 := by
  unfold rd
  rw [Int.toNat_natCast, List.getD_eq_getElem?_getD, List.getElem?_append_right (by omega), Nat.add_sub_cancel_left, ← List.getD_eq_getElem?_getD]
theorem encode_form (ch : List Int) (h : V.Form ch) : Lib.encodeRuneZ (runeOf ch) = ch := by
  rcases h with ⟨x, rfl, h1, h2⟩ | ⟨x, y, rfl, h1, h2, h3, h4⟩ | ⟨x, y, z, rfl, h1, h2, h3, h4, h5, h6, h7, h8⟩ | ⟨x, y, z, u, rfl, h1, h2, h3, h4, h5, h6, h7, h8, h9, h10⟩
  · simp only [runeOf]
    exact Lib.encodeRuneZ_one (by omega) (by omega)
  · simp only [runeOf]
    rw [Lib.encodeRuneZ_two (by omega) (by omega), show 192 + (x % 32 * 64 + y % 64) / 64 = x from by omega, show 128 + (x % 32 * 64 + y % 64) % 64 = y from by omega]
  · simp only [runeOf]
    rw [Lib.encodeRuneZ_three (by omega), show 224 + (x % 16 * 4096 + y % 64 * 64 + z % 64) / 4096 = x from by omega, show 128 + (x % 16 * 4096 + y % 64 * 64 + z % 64) / 64 % 64 = y from by omega, show 128 + (x % 16 * 4096 + y % 64 * 64 + z % 64) % 64 = z from by omega]
  · simp only [runeOf]
    unfold Lib.encodeRuneZ
    rw [if_neg (by omega), if_neg (by omega), if_neg (by omega), if_pos (by omega), show 240 + (x % 8 * 262144 + y % 64 * 4096 + z % 64 * 64 + u % 64) / 262144 = x from by omega, show 128 + (x % 8 * 262144 + y % 64 * 4096 + z % 64 * 64 + u % 64) / 4096 % 64 = y from by omega,
      show 128 + (x % 8 * 262144 + y % 64 * 4096 + z % 64 * 64 + u % 64) / 64 % 64 = z from by omega, show 128 + (x % 8 * 262144 + y % 64 * 4096 + z % 64 * 64 + u % 64) % 64 = u from by omega]
theorem form_isB (ch : List Int) (h : V.Form ch) : ∀ x ∈ ch, 0 ≤ x ∧ x ≤ 255 := by
  rcases h with ⟨x, rfl, h1, h2⟩ | ⟨x, y, rfl, h1, h2, h3, h4⟩ | ⟨x, y, z, rfl, h1, h2, h3, h4, h5, h6, h7, h8⟩ | ⟨x, y, z, u, rfl, h1, h2, h3, h4, h5, h6, h7, h8, h9, h10⟩ <;> intro a ha <;> simp at ha <;> omega

/-! ### read -/
theorem dig_in (d : Nat) (h : d < 16) : (48 ≤ dig d ∧ dig d ≤ 57 ∧ dig d - 48 = d) ∨ (97 ≤ dig d ∧ dig d ≤ 102 ∧ dig d - 97 + 10 = d) := by unfold dig; split <;> omega
theorem digit_ev (d : Nat) (h : d < 16) : Ev (fun k => bobbinlaw06_digit.f k (dig d)) (d : Int) := by
  refine ⟨1, fun k hk => ?_⟩
  obtain ⟨k, rfl⟩ : ∃ m, k = m + 1 := ⟨k - 1, by omega⟩
  show bobbinlaw06_digit.f (k + 1) (dig d) = some (d : Int)
  unfold bobbinlaw06_digit.f
  rcases dig_in d h with ⟨h1, h2, h3⟩ | ⟨h1, h2, h3⟩
  · rw [if_pos (by omega), decide_eq_true h2]
    simp only [bobbinlaw06_digit.j0]
    rw [if_pos (by first | rfl | trivial), w64 (x := dig d) (by omega) (by omega), w64 (by omega) (by omega), h3]
  · rw [if_pos (by omega), decide_eq_false (by omega)]
    simp only [bobbinlaw06_digit.j0]
    rw [if_neg (by simp), if_pos (by omega), if_pos (by omega), w64 (x := dig d) (by omega) (by omega), w64 (x := dig d - 97) (by omega) (by omega), w64 (by omega) (by omega), h3]
variable {R : ByteArray × Bool}
theorem rd_plain (pre acc t : List Int) (x : Int) (hx : x ≠ 92) (hp : pre.length ≤ 1099511627776) (ha : acc.length < 140737488355328)
    (h : Ev (fun k => bobbinlaw06_read.l0 k (pre ++ x :: t) (acc ++ [x]) ((pre.length + 1 : Nat) : Int)) R) : Ev (fun k => bobbinlaw06_read.l0 k (pre ++ x :: t) acc (pre.length : Int)) R := by
  have hr := rd_off pre (x :: t) 0
  rw [Nat.add_zero] at hr
  have hr' : rd (pre ++ x :: t) (pre.length : Int) = x := hr
  refine Ev.step (fun k => ?_) h
  simp only [bobbinlaw06_read.l0]
  rw [if_pos (by simp; omega), if_pos (by omega), hr', if_neg hx, if_pos ha, w64 (by omega) (by omega)]
  rfl
theorem rd_plains : ∀ (u pre acc t : List Int), (∀ x ∈ u, x ≠ 92) → pre.length + u.length ≤ 1099511627776 → acc.length + u.length < 140737488355328 →
    Ev (fun k => bobbinlaw06_read.l0 k (pre ++ (u ++ t)) (acc ++ u) ((pre.length + u.length : Nat) : Int)) R → Ev (fun k => bobbinlaw06_read.l0 k (pre ++ (u ++ t)) acc (pre.length : Int)) R
  | [], pre, acc, t, hu, hp, ha, h => by simpa using h
  | x :: u, pre, acc, t, hu, hp, ha, h => by
    rw [List.length_cons] at hp ha
    refine rd_plain pre acc (u ++ t) x (hu x List.mem_cons_self) (by omega) (by omega) ?_
    have e1 : pre ++ x :: (u ++ t) = (pre ++ [x]) ++ (u ++ t) := by simp
    have e2 : ((pre.length + 1 : Nat) : Int) = ((pre ++ [x]).length : Int) := by simp
    rw [e1, e2]
    refine rd_plains u (pre ++ [x]) (acc ++ [x]) t (fun y hy => hu y (List.mem_cons_of_mem _ hy)) (by simp; omega) (by simp; omega) ?_
    have e3 : (((pre ++ [x]).length + u.length : Nat) : Int) = ((pre.length + (x :: u).length : Nat) : Int) := by simp; omega
    rw [← e1, e3]
    simpa using h
theorem j2_zero (w acc : List Int) (i : Nat) (hi : i + 2 ≤ w.length) (hw : w.length ≤ 1099511627776) (h : Ev (fun k => bobbinlaw06_read.l0 k w acc ((i + 2 : Nat) : Int)) R) : Ev (fun k => bobbinlaw06_read.j2 k w acc (i : Int) 0) R := by
  refine Ev.step (f := fun k => bobbinlaw06_read.l1 k w acc (i : Int) 0 0 0) (fun k => ?_) (Ev.step (fun k => ?_) h)
  · simp only [bobbinlaw06_read.j2]
    rw [w64 (by omega) (by omega), w64 (by omega) (by omega), if_neg (by omega)]
  · simp only [bobbinlaw06_read.l1]
    rw [if_neg (by omega), if_neg (by omega), w64 (x := 2 + 0) (by omega) (by omega), w64 (by omega) (by omega)]
    rfl
theorem l1_step (w acc : List Int) (i j m : Nat) (n : Int) (d : Nat) (hj : j < m) (hm : m ≤ 4) (hd : d < 16) (hn : 0 ≤ n ∧ n ≤ 65536) (hi : i + 2 + m ≤ w.length) (hw : w.length ≤ 1099511627776) (hr : rd w ((i + 2 + j : Nat) : Int) = dig d)
    (h : Ev (fun k => bobbinlaw06_read.l1 k w acc (i : Int) (m : Int) (n * 16 + d) ((j + 1 : Nat) : Int)) R) : Ev (fun k => bobbinlaw06_read.l1 k w acc (i : Int) (m : Int) n (j : Int)) R := by
  have e1 : wrap64 (wrap64 ((i : Int) + 2) + (j : Int)) = ((i + 2 + j : Nat) : Int) := by rw [w64 (x := (i : Int) + 2) (by omega) (by omega), w64 (by omega) (by omega)]; omega
  refine Ev.step (f := fun k => (bobbinlaw06_digit.f k (dig d)).bind fun t141 => _) (fun k => by simp only [bobbinlaw06_read.l1]; rw [if_pos (by omega), e1, if_pos (by omega), if_pos (by omega), hr]) (Ev.bind (digit_ev d hd) ?_)
  refine ev_neg (by omega) ?_
  rw [w64 (x := n * 16) (by omega) (by omega), w64 (x := n * 16 + d) (by omega) (by omega), w64 (by omega) (by omega)]
  exact h
theorem l1_end (w acc u : List Int) (i m : Nat) (n : Int) (hm0 : 0 < m) (hm : m ≤ 4) (hi : i + 2 + m ≤ w.length) (hw : w.length ≤ 1099511627776) (hu : Lib.encodeRuneZ n = u) (hB : ∀ x ∈ u, 0 ≤ x ∧ x ≤ 255) (hl : acc.length + u.length < 140737488355328)
    (h : Ev (fun k => bobbinlaw06_read.l0 k w (acc ++ u) ((i + 2 + m : Nat) : Int)) R) : Ev (fun k => bobbinlaw06_read.l1 k w acc (i : Int) (m : Int) n (m : Int)) R := by
  have e1 : wrap64 ((i : Int) + wrap64 (2 + (m : Int))) = ((i + 2 + m : Nat) : Int) := by rw [w64 (x := 2 + (m : Int)) (by omega) (by omega), w64 (by omega) (by omega)]; omega
  refine Ev.step (f := fun k => (PJh.bobbinref06_UTF8.f k n).bind fun t142 => _) (fun k => by simp only [bobbinlaw06_read.l1]; rw [if_neg (by omega), if_pos (by omega), e1]) (Ev.bind (utf8_ev n) ?_)
  rw [hu]
  refine ev_pos (by rw [str_size]; omega) ?_
  rw [bytesOf_str u hB]
  exact h
theorem j2_more (w acc : List Int) (i m : Nat) (hm : m ≤ 4) (hi : i + 2 + m ≤ w.length) (hw : w.length ≤ 1099511627776) (h : Ev (fun k => bobbinlaw06_read.l1 k w acc (i : Int) (m : Int) 0 0) R) : Ev (fun k => bobbinlaw06_read.j2 k w acc (i : Int) (m : Int)) R := by
  refine Ev.step (fun k => ?_) h
  simp only [bobbinlaw06_read.j2]
  rw [w64 (by omega) (by omega), w64 (by omega) (by omega), if_neg (by omega)]
theorem esc_head (pre acc t : List Int) (c : Int) (hp : pre.length + t.length ≤ 1099511627000) (ha : acc.length < 140737488355000) :
    (c = 110 → Ev (fun k => bobbinlaw06_read.l0 k (pre ++ 92 :: c :: t) (acc ++ [10]) ((pre.length + 2 : Nat) : Int)) R → Ev (fun k => bobbinlaw06_read.l0 k (pre ++ 92 :: c :: t) acc (pre.length : Int)) R) ∧
    (c = 114 → Ev (fun k => bobbinlaw06_read.l0 k (pre ++ 92 :: c :: t) (acc ++ [13]) ((pre.length + 2 : Nat) : Int)) R → Ev (fun k => bobbinlaw06_read.l0 k (pre ++ 92 :: c :: t) acc (pre.length : Int)) R) ∧
    (c = 116 → Ev (fun k => bobbinlaw06_read.l0 k (pre ++ 92 :: c :: t) (acc ++ [9]) ((pre.length + 2 : Nat) : Int)) R → Ev (fun k => bobbinlaw06_read.l0 k (pre ++ 92 :: c :: t) acc (pre.length : Int)) R) ∧
    (c = 92 ∨ c = 47 → Ev (fun k => bobbinlaw06_read.l0 k (pre ++ 92 :: c :: t) (acc ++ [c]) ((pre.length + 2 : Nat) : Int)) R → Ev (fun k => bobbinlaw06_read.l0 k (pre ++ 92 :: c :: t) acc (pre.length : Int)) R) ∧
    (c = 120 → Ev (fun k => bobbinlaw06_read.j2 k (pre ++ 92 :: c :: t) acc (pre.length : Int) 2) R → Ev (fun k => bobbinlaw06_read.l0 k (pre ++ 92 :: c :: t) acc (pre.length : Int)) R) ∧
    (c = 117 → Ev (fun k => bobbinlaw06_read.j2 k (pre ++ 92 :: c :: t) acc (pre.length : Int) 4) R → Ev (fun k => bobbinlaw06_read.l0 k (pre ++ 92 :: c :: t) acc (pre.length : Int)) R) := by
  have h0 := rd_off pre (92 :: c :: t) 0
  have h1 := rd_off pre (92 :: c :: t) 1
  rw [Nat.add_zero] at h0
  have r0 : rd (pre ++ 92 :: c :: t) (pre.length : Int) = 92 := h0
  have r1 : rd (pre ++ 92 :: c :: t) ((pre.length + 1 : Nat) : Int) = c := h1
  have hl : (pre ++ 92 :: c :: t).length = pre.length + 2 + t.length := by simp; omega
  have e1 : wrap64 ((pre.length : Int) + 1) = ((pre.length + 1 : Nat) : Int) := by rw [w64 (by omega) (by omega)]; omega
  have e2 : wrap64 (((pre ++ 92 :: c :: t).length : Int) - (pre.length : Int)) = ((2 + t.length : Nat) : Int) := by rw [hl, w64 (by omega) (by omega)]; omega
  have q1 : (pre.length : Int) < ((pre ++ 92 :: c :: t).length : Int) := by rw [hl]; omega
  have q2 : ((pre.length + 1 : Nat) : Int) < ((pre ++ 92 :: c :: t).length : Int) := by rw [hl]; omega
  have hz := fun a => j2_zero (R := R) (pre ++ 92 :: c :: t) a pre.length (by rw [hl]; omega) (by rw [hl]; omega)
  refine ⟨fun hc h => ?_, fun hc h => ?_, fun hc h => ?_, fun hc h => ?_, fun hc h => ?_, fun hc h => ?_⟩
  · refine Ev.step (fun k => ?_) (hz _ h)
    simp only [bobbinlaw06_read.l0]
    rw [if_pos q1, if_pos (by omega), r0, if_pos rfl, e2, if_neg (by omega), e1, if_pos (by omega), if_pos q2, r1, if_pos hc, if_pos (by omega)]
  · refine Ev.step (fun k => ?_) (hz _ h)
    simp only [bobbinlaw06_read.l0]
    rw [if_pos q1, if_pos (by omega), r0, if_pos rfl, e2, if_neg (by omega), e1, if_pos (by omega), if_pos q2, r1, if_neg (by omega), if_pos hc, if_pos (by omega)]
  · refine Ev.step (fun k => ?_) (hz _ h)
    simp only [bobbinlaw06_read.l0]
    rw [if_pos q1, if_pos (by omega), r0, if_pos rfl, e2, if_neg (by omega), e1, if_pos (by omega), if_pos q2, r1, if_neg (by omega), if_neg (by omega), if_pos hc, if_pos (by omega)]
  · have hj : Ev (fun k => bobbinlaw06_read.j1 k (pre ++ 92 :: c :: t) acc (pre.length : Int) c 0 c true) R := by
      refine Ev.step (fun k => ?_) (hz _ h)
      simp only [bobbinlaw06_read.j1]
      rw [if_pos (by first | rfl | trivial), if_pos (by omega)]
    refine Ev.step (fun k => ?_) hj
    simp only [bobbinlaw06_read.l0]
    rw [if_pos q1, if_pos (by omega), r0, if_pos rfl, e2, if_neg (by omega), e1, if_pos (by omega), if_pos q2, r1, if_neg (by omega), if_neg (by omega), if_neg (by omega)]
    rcases hc with hc | hc
    · rw [if_pos hc, show (c == 92) = true from beq_iff_eq.2 hc]
    · rw [if_neg (by omega), show (c == 47) = true from beq_iff_eq.2 hc]
  · have hj : Ev (fun k => bobbinlaw06_read.j1 k (pre ++ 92 :: c :: t) acc (pre.length : Int) c 0 c false) R := by
      refine Ev.step (fun k => ?_) h
      simp only [bobbinlaw06_read.j1]
      rw [if_neg (by simp), if_pos hc]
    refine Ev.step (fun k => ?_) hj
    simp only [bobbinlaw06_read.l0]
    rw [if_pos q1, if_pos (by omega), r0, if_pos rfl, e2, if_neg (by omega), e1, if_pos (by omega), if_pos q2, r1, if_neg (by omega), if_neg (by omega), if_neg (by omega), if_neg (by omega), show (c == 47) = false from beq_eq_false_iff_ne.2 (by omega)]
  · have hj : Ev (fun k => bobbinlaw06_read.j1 k (pre ++ 92 :: c :: t) acc (pre.length : Int) c 0 c false) R := by
      refine Ev.step (fun k => ?_) h
      simp only [bobbinlaw06_read.j1]
      rw [if_neg (by simp), if_neg (by omega), if_pos hc]
    refine Ev.step (fun k => ?_) hj
    simp only [bobbinlaw06_read.l0]
    rw [if_pos q1, if_pos (by omega), r0, if_pos rfl, e2, if_neg (by omega), e1, if_pos (by omega), if_pos q2, r1, if_neg (by omega), if_neg (by omega), if_neg (by omega), if_neg (by omega), show (c == 47) = false from beq_eq_false_iff_ne.2 (by omega)]
/-- One unit, read. -/
theorem read_unit (ch pre acc t : List Int) (hf : V.Form ch) (hp : pre.length + 6 + t.length ≤ 1099511620000) (ha : acc.length ≤ 1099511620000)
    (h : Ev (fun k => bobbinlaw06_read.l0 k (pre ++ (unitJ (runeOf ch) ++ t)) (acc ++ ch) ((pre.length + (unitJ (runeOf ch)).length : Nat) : Int)) R) : Ev (fun k => bobbinlaw06_read.l0 k (pre ++ (unitJ (runeOf ch) ++ t)) acc (pre.length : Int)) R := by
  have he := encode_form ch hf
  have hB := form_isB ch hf
  have hrl := V.rune_le hf
  have hfl := V.form_len hf
  generalize runeOf ch = r at *
  have one : ∀ x : Int, 0 ≤ x → x ≤ 127 → r = x → ch = [x] := fun x h1 h2 h3 => by rw [← he, h3]; exact Lib.encodeRuneZ_one h1 h2
  unfold unitJ at h ⊢
  by_cases e1 : r = 92
  · rw [if_pos e1] at h ⊢
    rw [one 92 (by omega) (by omega) e1] at h
    exact (esc_head pre acc t 92 (by omega) (by omega)).2.2.2.1 (.inl rfl) h
  rw [if_neg e1] at h ⊢
  by_cases e2 : r = 47
  · rw [if_pos e2] at h ⊢
    rw [one 47 (by omega) (by omega) e2] at h
    exact (esc_head pre acc t 47 (by omega) (by omega)).2.2.2.1 (.inr rfl) h
  rw [if_neg e2] at h ⊢
  by_cases e3 : r = 10
  · rw [if_pos e3] at h ⊢
    rw [one 10 (by omega) (by omega) e3] at h
    exact (esc_head pre acc t 110 (by omega) (by omega)).1 rfl h
  rw [if_neg e3] at h ⊢
  by_cases e4 : r = 13
  · rw [if_pos e4] at h ⊢
    rw [one 13 (by omega) (by omega) e4] at h
    exact (esc_head pre acc t 114 (by omega) (by omega)).2.1 rfl h
  rw [if_neg e4] at h ⊢
  by_cases e5 : r = 9
  · rw [if_pos e5] at h ⊢
    rw [one 9 (by omega) (by omega) e5] at h
    exact (esc_head pre acc t 116 (by omega) (by omega)).2.2.1 rfl h
  rw [if_neg e5] at h ⊢
  have wide : ∀ (a b c d : Nat), a < 16 → b < 16 → c < 16 → d < 16 → r = ((((0 * 16 + (a : Int)) * 16 + b) * 16 + c) * 16 + d) →
      Ev (fun k => bobbinlaw06_read.l0 k (pre ++ ([92, 117, dig a, dig b, dig c, dig d] ++ t)) (acc ++ ch) ((pre.length + 6 : Nat) : Int)) R → Ev (fun k => bobbinlaw06_read.l0 k (pre ++ ([92, 117, dig a, dig b, dig c, dig d] ++ t)) acc (pre.length : Int)) R := by
    intro a b c d ha' hb hc hd hr h
    have hl : (pre ++ ([92, 117, dig a, dig b, dig c, dig d] ++ t)).length = pre.length + 6 + t.length := by simp; omega
    have q : ∀ j : Nat, rd (pre ++ ([92, 117, dig a, dig b, dig c, dig d] ++ t)) ((pre.length + 2 + j : Nat) : Int) = ([dig a, dig b, dig c, dig d] ++ t).getD j 0 := fun j => by
      have := rd_off pre ([92, 117, dig a, dig b, dig c, dig d] ++ t) (2 + j)
      rw [show pre.length + 2 + j = pre.length + (2 + j) from by omega, this, show 2 + j = j + 1 + 1 from by omega]
      rfl
    refine (esc_head pre acc ([dig a, dig b, dig c, dig d] ++ t) 117 (by simp; omega) (by omega)).2.2.2.2.2 rfl ?_
    refine j2_more _ _ _ 4 (by omega) (by rw [show (pre ++ 92 :: 117 :: ([dig a, dig b, dig c, dig d] ++ t)) = pre ++ ([92, 117, dig a, dig b, dig c, dig d] ++ t) from rfl, hl]; omega) (by rw [show (pre ++ 92 :: 117 :: ([dig a, dig b, dig c, dig d] ++ t)) = pre ++ ([92, 117, dig a, dig b, dig c, dig d] ++ t) from rfl, hl]; omega) ?_
    show Ev (fun k => bobbinlaw06_read.l1 k (pre ++ ([92, 117, dig a, dig b, dig c, dig d] ++ t)) acc (pre.length : Int) ((4 : Nat) : Int) 0 ((0 : Nat) : Int)) R
    refine l1_step _ _ _ 0 4 0 a (by omega) (by omega) ha' (by omega) (by rw [hl]; omega) (by rw [hl]; omega) (q 0) ?_
    refine l1_step _ _ _ 1 4 _ b (by omega) (by omega) hb (by omega) (by rw [hl]; omega) (by rw [hl]; omega) (q 1) ?_
    refine l1_step _ _ _ 2 4 _ c (by omega) (by omega) hc (by omega) (by rw [hl]; omega) (by rw [hl]; omega) (q 2) ?_
    refine l1_step _ _ _ 3 4 _ d (by omega) (by omega) hd (by omega) (by rw [hl]; omega) (by rw [hl]; omega) (q 3) ?_
    exact l1_end _ _ ch _ 4 _ (by omega) (by omega) (by rw [hl]; omega) (by rw [hl]; omega) (by rw [← hr]; exact he) hB (by omega) h
  by_cases e6 : r = 8232
  · rw [if_pos e6] at h ⊢
    exact wide 2 0 2 8 (by omega) (by omega) (by omega) (by omega) (by omega) h
  rw [if_neg e6] at h ⊢
  by_cases e7 : r = 8233
  · rw [if_pos e7] at h ⊢
    exact wide 2 0 2 9 (by omega) (by omega) (by omega) (by omega) (by omega) h
  rw [if_neg e7] at h ⊢
  by_cases hh : PJh.Hexed r
  · rw [if_pos hh] at h ⊢
    unfold PJh.Hexed at hh
    obtain ⟨d1, hd1⟩ : ∃ d, d = r.toNat / 16 := ⟨_, rfl⟩
    obtain ⟨d2, hd2⟩ : ∃ d, d = r.toNat % 16 := ⟨_, rfl⟩
    rw [← hd1, ← hd2] at h ⊢
    have hl : (pre ++ ([92, 120, dig d1, dig d2] ++ t)).length = pre.length + 4 + t.length := by simp; omega
    have q : ∀ j : Nat, rd (pre ++ ([92, 120, dig d1, dig d2] ++ t)) ((pre.length + 2 + j : Nat) : Int) = ([dig d1, dig d2] ++ t).getD j 0 := fun j => by
      have := rd_off pre ([92, 120, dig d1, dig d2] ++ t) (2 + j)
      rw [show pre.length + 2 + j = pre.length + (2 + j) from by omega, this, show 2 + j = j + 1 + 1 from by omega]
      rfl
    refine (esc_head pre acc ([dig d1, dig d2] ++ t) 120 (by simp; omega) (by omega)).2.2.2.2.1 rfl ?_
    refine j2_more _ _ _ 2 (by omega) (by rw [show (pre ++ 92 :: 120 :: ([dig d1, dig d2] ++ t)) = pre ++ ([92, 120, dig d1, dig d2] ++ t) from rfl, hl]; omega) (by rw [show (pre ++ 92 :: 120 :: ([dig d1, dig d2] ++ t)) = pre ++ ([92, 120, dig d1, dig d2] ++ t) from rfl, hl]; omega) ?_
    show Ev (fun k => bobbinlaw06_read.l1 k (pre ++ ([92, 120, dig d1, dig d2] ++ t)) acc (pre.length : Int) ((2 : Nat) : Int) 0 ((0 : Nat) : Int)) R
    refine l1_step _ _ _ 0 2 0 d1 (by omega) (by omega) (by omega) (by omega) (by rw [hl]; omega) (by rw [hl]; omega) (q 0) ?_
    refine l1_step _ _ _ 1 2 _ d2 (by omega) (by omega) (by omega) (by omega) (by rw [hl]; omega) (by rw [hl]; omega) (q 1) ?_
    have hr : (0 * 16 + (d1 : Int)) * 16 + (d2 : Int) = r := by omega
    exact l1_end _ _ ch _ 2 _ (by omega) (by omega) (by rw [hl]; omega) (by rw [hl]; omega) (by rw [hr]; exact he) hB (by omega) h
  · rw [if_neg hh] at h ⊢
    unfold PJh.Hexed at hh
    rw [he] at h ⊢
    refine rd_plains ch pre acc t ?_ (by omega) (by omega) h
    rw [← he]
    intro x hx
    unfold Lib.encodeRuneZ at hx
    split at hx
    · simp at hx; omega
    split at hx
    · simp at hx; omega
    split at hx
    · simp at hx; omega
    split at hx
    · simp at hx; omega
    · simp at hx; omega
def txt (chs : List (List Int)) : List Int := chs.flatMap fun ch => unitJ (runeOf ch)
theorem read_loop : ∀ (chs : List (List Int)) (pre acc : List Int), (∀ ch ∈ chs, V.Form ch) → pre.length + 6 * chs.length ≤ 1099511600000 → acc.length + 4 * chs.length ≤ 1099511600000 →
    Ev (fun k => bobbinlaw06_read.l0 k (pre ++ txt chs) acc (pre.length : Int)) (strOfNums (acc ++ chs.flatten), true)
  | [], pre, acc, hf, hp, ha => by
    refine ⟨1, fun k hk => ?_⟩
    obtain ⟨k, rfl⟩ : ∃ m, k = m + 1 := ⟨k - 1, by omega⟩
    simp [bobbinlaw06_read.l0, txt]
  | ch :: chs, pre, acc, hf, hp, ha => by
    rw [List.length_cons] at hp ha
    have h1 := hf ch List.mem_cons_self
    have hu := V.unitJ_len (runeOf ch)
    have hfl := V.form_len h1
    have htl : (txt chs).length ≤ 6 * chs.length := by
      clear hp ha h1 hu hfl hf
      induction chs with
      | nil => simp [txt]
      | cons c cs ih =>
        have := V.unitJ_len (runeOf c)
        unfold txt at ih ⊢
        rw [List.flatMap_cons, List.length_append, List.length_cons]
        omega
    have ih := read_loop chs (pre ++ unitJ (runeOf ch)) (acc ++ ch) (fun c hc => hf c (List.mem_cons_of_mem _ hc)) (by rw [List.length_append]; omega) (by rw [List.length_append]; omega)
    have e1 : txt (ch :: chs) = unitJ (runeOf ch) ++ txt chs := by unfold txt; rw [List.flatMap_cons]
    rw [e1, List.flatten_cons, ← List.append_assoc acc]
    refine read_unit ch pre acc (txt chs) h1 (by omega) (by omega) ?_
    rw [← List.length_append, ← List.append_assoc]
    exact ih
end Go.Proofs.YtdpnnglfaofjeaaDoor.PJb

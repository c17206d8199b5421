import Derived.Test.YtdpnnglfaofjeaaH
import Derived.Laws.RangeAny
import Derived.Laws.RangeString
import Derived.LoopTactic
namespace Go.Proofs.Ytdpnnglfaofjeaa.U
open Go.RowKit Go.Proofs.YtdpnnglfaofjeaaW.PrintWords Go.Proofs.YtdpnnglfaofjeaaW.PrintLast Go.Proofs.YtdpnnglfaofjeaaW.PrintMore
set_option linter.unusedVariables false
set_option linter.unusedSimpArgs false

theorem form_pos {ch : List Int} (h : Form ch) : 0 < ch.length := by
  rcases h with ⟨x, rfl, _⟩ | ⟨x, y, rfl, _⟩ | ⟨x, y, z, rfl, _⟩ | ⟨x, y, z, u, rfl, _⟩ <;> simp
theorem runeCount_valid (chs : List (List Int)) : ∀ (a : List Int) (fuel : Nat), (∀ ch ∈ chs, Form ch) → chs.flatten.length ≤ fuel → Lib.runeCountFrom (strOfNums (a ++ chs.flatten)) fuel a.length = chs.length := by
  induction chs with
  | nil =>
    intro a fuel h hf
    exact Lib.runeCountFrom_end _ _ _ (by rw [str_size]; simp)
  | cons ch chs ih =>
    intro a fuel h hf
    have hch := h ch List.mem_cons_self
    have hp := form_pos hch
    simp only [List.flatten_cons, List.length_append] at hf
    obtain ⟨fuel, rfl⟩ : ∃ f, fuel = f + 1 := ⟨fuel - 1, by omega⟩
    unfold Lib.runeCountFrom
    have hd := decode_form a ch chs.flatten hch
    have e : a ++ (ch :: chs).flatten = a ++ ch ++ chs.flatten := by simp
    rw [e, if_pos (by rw [str_size]; simp; omega), hd]
    have := ih (a ++ ch) fuel (fun c hc => h c (List.mem_cons_of_mem _ hc)) (by omega)
    rw [List.length_append] at this
    simp only
    rw [this, List.length_cons]
    omega

set_option maxHeartbeats 4000000 in
set_option maxRecDepth 1000000 in
theorem runeCountS_calls (s : ByteArray) (w : World) (hs : s.size < 9223372036854775807) :
    Calls Try.prog 35 #[.string s] w fun e w' => e = .returned (.int .i64 (Lib.runeCount s)) ∧ Below w.heap.size w w' := by
  go_enter Try.func35, Try.ntmps35
  go_wp2
  go_loopw [2] (fun n w' => ∃ (pos b acc : Nat), w' = w.iter s pos ∧ n = .int .i64 acc ∧ acc + Lib.runeCountFrom s b pos = Lib.runeCount s ∧ s.size ≤ pos + b ∧ acc ≤ pos) (fun _ w' => s.size - w'.iterPos w.heap.size)
  case atStart => exact ⟨0, s.size, 0, rfl, rfl, by simp [Lib.runeCount], by omega, Nat.le_refl _⟩
  case round =>
    obtain ⟨pos, b, acc, rfl, rfl, hc, hb, ha⟩ := hrel
    by_cases hp : pos < s.size
    · have hnx : ∀ ty, (Instr.next (.pointer (some ⟨w.heap.size, 0, none⟩)) true ty).run Try.prog (w.iter s pos) = _ := fun ty => run_next_any w s pos ty hp
      have hwd := Lib.decode_width_pos s pos hp
      go_wp2
      go_roundw
      case rel =>
        cases b with
        | zero => omega
        | succ b =>
          refine ⟨pos + (Utf8.decode s pos).2, b, acc + 1, rfl, by go_num, ?_, by omega, by omega⟩
          rw [← hc]
          simp [Lib.runeCountFrom, hp]
          omega
      case measure =>
        simp
        omega
    · have hnx : ∀ ty, (Instr.next (.pointer (some ⟨w.heap.size, 0, none⟩)) true ty).run Try.prog (w.iter s pos) = _ := fun ty => run_next_end w s pos ty hp
      go_wp2
      go_ret
      rw [Lib.runeCountFrom_end s b pos hp, Nat.add_zero] at hc
      subst hc
      exact ⟨rfl, below_alloc (Below.refl _ _) _⟩

theorem form_ascii {ch : List Int} (h : Form ch) (x : Int) (h0 : ch[0]? = some x) (hx : x < 128) : ch = [x] := by
  rcases h with ⟨y, rfl, _⟩ | ⟨y, z, rfl, h1, _⟩ | ⟨y, z, u, rfl, h1, _⟩ | ⟨y, z, u, v, rfl, h1, _⟩ <;> simp at h0 <;> subst h0 <;> first | rfl | omega
theorem drop_rd (l : List Int) (n : Nat) (h : n < l.length) : l.drop n = rd l (n : Int) :: l.drop (n + 1) := by
  rw [List.drop_eq_getElem_cons h]
  simp [rd, List.getD_eq_getElem?_getD, h]
theorem ascii_step {l : List Int} {n m : Nat} (hn : n < l.length) (hx : rd l (n : Int) < 128) (H : ∃ chs2 : List (List Int), l.drop n = chs2.flatten ∧ (∀ ch ∈ chs2, Form ch) ∧ m = n + chs2.length) :
    ∃ chs2 : List (List Int), l.drop (n + 1) = chs2.flatten ∧ (∀ ch ∈ chs2, Form ch) ∧ m = n + 1 + chs2.length := by
  obtain ⟨chs2, h1, h2, h3⟩ := H
  rw [drop_rd l n hn] at h1
  cases chs2 with
  | nil => simp at h1
  | cons ch chs3 =>
    have hf := h2 ch List.mem_cons_self
    have hp := form_pos hf
    have h0 : ch[0]? = some (rd l (n : Int)) := by
      have := congrArg (fun q => q[0]?) h1
      simp only [List.flatten_cons] at this
      rw [List.getElem?_append_left hp] at this
      simpa using this.symm
    have := form_ascii hf _ h0 hx
    subst this
    simp only [List.flatten_cons, List.cons_append, List.nil_append, List.cons.injEq, true_and] at h1
    exact ⟨chs3, h1, fun c hc => h2 c (List.mem_cons_of_mem _ hc), by rw [h3, List.length_cons]; omega⟩
/-- Of a text of whole characters. -/
theorem runeCount_calls (chs : List (List Int)) (l : List Int) (A : Option Addr) (c : Nat) (w : World) (hl : l = chs.flatten) (hf : ∀ ch ∈ chs, Form ch) (hr : Kd.C (Kd.int .u8) w A l.length l) (hc : l.length ≤ c) (hN : l.length ≤ 9007199254740992) :
    Calls Try.prog 31 #[.slice A l.length c] w fun e w' => e = .returned (.int .i64 (chs.length : Int)) ∧ Below w.heap.size w w' := by
  have HL : Hid (l = chs.flatten ∧ (∀ ch ∈ chs, Form ch)) := ⟨hl, hf⟩
  have H0 : Hid (∃ chs2 : List (List Int), l.drop 0 = chs2.flatten ∧ (∀ ch ∈ chs2, Form ch) ∧ chs.length = 0 + chs2.length) := ⟨chs, by rw [List.drop_zero]; exact hl, hf, by simp⟩
  clear hl hf
  go_enter Try.func31, Try.ntmps31
  go_wp2
  go_loopw [4] (fun v wr => ∃ n : Nat, v = .int .i64 n ∧ n ≤ l.length ∧ wr = w ∧ Hid (∃ chs2 : List (List Int), l.drop n = chs2.flatten ∧ (∀ ch ∈ chs2, Form ch) ∧ chs.length = n + chs2.length)) (fun v _ => l.length - (intOf v).toNat)
  case atStart => exact ⟨0, rfl, Nat.zero_le _, rfl, H0⟩
  case round =>
    obtain ⟨n, rfl, hn, rfl, H⟩ := hrel
    by_cases hlt : n < l.length
    · have q1 : (n : Int) < (l.length : Int) := by omega
      obtain ⟨ad, rfl, hx⟩ := Kd.at_int hr (n : Int) (by omega) (by omega)
      rw [Int.toNat_natCast] at hx
      obtain ⟨x, hgx⟩ : ∃ x, rd l (n : Int) = x := ⟨_, rfl⟩
      rw [hgx] at hx
      have HX := Lib.hid hgx
      clear hgx
      by_cases h128 : x < 128
      · have H2 := ascii_step hlt (by rw [HX.out]; exact h128) H.out
        have H3 := Lib.hid H2
        clear H2
        go_wp2
        go_roundw
        case rel => exact ⟨n + 1, by go_num, by omega, trivial, H3⟩
        case measure => simp [intOf]; omega
      · obtain ⟨i0, hi0, _, hsz0, _⟩ := info_parts info5
        obtain ⟨A5, hcut, hA5, hc5⟩ := print_drop_of (P := Try.prog) (Value.int .u8) 0 22 5 .i64 Try.underlying22 hi0 hsz0 (some ad) c l (n : Int) (by omega) (by omega) hc
        have hC5 := Kd.C_of_reads (h1 := fun _ => rfl) (hA5 _ (Kd.reads_of_C hr))
        rw [Int.toNat_natCast] at hcut hC5 hc5
        have hstr := Kd.C_string (P := Try.prog) (c := c - n) Try.underlying22 Try.underlying5 Try.underlying9 hC5
        rw [List.length_drop] at hstr
        have e1 : Lib.runeCount (strOfNums (l.drop n)) + n = chs.length := by
          obtain ⟨chs2, h1, h2, h3⟩ := H.out
          have h4 := runeCount_valid chs2 [] (strOfNums (l.drop n)).size h2 (by rw [str_size, h1]; exact Nat.le_refl _)
          rw [List.nil_append, ← h1] at h4
          unfold Lib.runeCount
          rw [show (0 : Nat) = ([] : List Int).length from rfl, h4]
          omega
        have hle := Lib.runeCount_le (strOfNums (l.drop n))
        rw [str_size, List.length_drop] at hle
        have E1 := Lib.hid e1
        clear e1 hi0 hsz0 hA5
        have hss : (strOfNums (l.drop n)).size < 9223372036854775807 := by rw [str_size, List.length_drop]; omega
        go_wp2_with (go_at_call 35; refine (runeCountS_calls _ _ hss).mono ?_; rintro e w3 ⟨rfl, hb3⟩)
        go_ret
        exact ⟨by rw [← E1.out]; go_num, hb3⟩
    · obtain rfl : n = l.length := by omega
      go_wp2
      go_ret
      refine ⟨?_, Below.refl _ _⟩
      obtain ⟨chs2, h1, h2, h3⟩ := H.out
      have : chs2 = [] := by
        cases chs2 with
        | nil => rfl
        | cons ch chs3 =>
          have hp := form_pos (h2 ch List.mem_cons_self)
          have := congrArg List.length h1
          simp at this
          omega
      subst this
      rw [h3]
      simp

/-- How many characters. -/
theorem count_calls (l : List Int) (A : Option Addr) (c : Nat) (w : World) (hB : IsB l) (hr : Kd.C (Kd.int .u8) w A l.length l) (hc : l.length ≤ c) (hN : l.length ≤ 1099511627776) :
    Calls Try.prog 26 #[.slice A l.length c] w fun e w' => e = .returned (.int .i64 ((chars l).length : Int)) ∧ Below w.heap.size w w' := by
  go_enter Try.func26, Try.ntmps26
  go_wp2_with fail
  refine (clean_calls l A c w hr hc hN).mono ?_
  rintro e w1 ⟨v1, rfl, ho1, hb1⟩
  obtain ⟨A1, c1, rfl, hc1, hC1⟩ := Kd.R_reads ho1
  have hlen := run_len l
  have hcl : (clean l).length ≤ 9007199254740992 := by
    unfold clean rest3
    rw [List.length_append]
    split <;> simp [fffd] <;> omega
  go_wp2_with fail
  refine (runeCount_calls (chars l) (clean l) A1 c1 w1 (clean_chars l) (form_chars l hB) hC1 hc1 hcl).mono ?_
  rintro e w2 ⟨rfl, hb2⟩
  go_wp2
  go_ret
  exact ⟨rfl, below_then hb1 hb1.size hb2⟩
end Go.Proofs.Ytdpnnglfaofjeaa.U

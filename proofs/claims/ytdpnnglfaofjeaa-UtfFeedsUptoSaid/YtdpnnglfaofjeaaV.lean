import Derived.Test.YtdpnnglfaofjeaaS
namespace Go.Proofs.Ytdpnnglfaofjeaa.U
open Go.RowKit Go.Proofs.YtdpnnglfaofjeaaW.PrintWords Go.Proofs.YtdpnnglfaofjeaaW.PrintLast Go.Proofs.YtdpnnglfaofjeaaW.PrintMore
set_option linter.unusedVariables false
set_option linter.unusedSimpArgs false

theorem rest3_len (l : List Int) : (rest3 l).length ≤ 3 := by unfold rest3; split <;> simp [fffd]
set_option maxHeartbeats 4000000 in
theorem cut_calls (p : List Int) (A : Option Addr) (c : Nat) (a : Int) (w : World) (hp : Kd.C (Kd.int .u8) w A p.length p) (hc : p.length ≤ c) (hN : p.length ≤ 1048576) (ha : 0 ≤ a ∧ a ≤ 65535) :
    Calls Try.prog 5 #[.slice A p.length c, .int .u16 a] w fun e w' => e = .returned (.bool true) ∧ Below w.heap.size w w' := by
  obtain ⟨i0, hi0, _, hsz0, _⟩ := info_parts info5
  obtain ⟨n, hn, hn0, hnl⟩ : ∃ n : Int, a % ((p.length : Int) + 1) = n ∧ 0 ≤ n ∧ n ≤ p.length := ⟨_, rfl, Int.emod_nonneg _ (by omega), by have := Int.emod_lt_of_pos a (show (0 : Int) < (p.length : Int) + 1 by omega); omega⟩
  obtain ⟨htake, hT1, htc⟩ := print_take_of (P := Try.prog) (Value.int .u8) 0 22 5 .i64 Try.underlying22 hi0 hsz0 A c p n hn0 hnl hc
  obtain ⟨A2, hdrop, hT2, hdc⟩ := print_drop_of (P := Try.prog) (Value.int .u8) 0 22 5 .i64 Try.underlying22 hi0 hsz0 A c p n hn0 hnl hc
  have hl1 : (p.take n.toNat).length ≤ 1048576 := by rw [List.length_take]; omega
  have hl2 : (p.drop n.toNat).length ≤ 1048576 := by rw [List.length_drop]; omega
  have e0 := run_split p n.toNat
  generalize p.take n.toNat = p1 at htake hT1 htc hl1 e0
  generalize p.drop n.toNat = p2 at hdrop hT2 hdc hl2 e0
  obtain ⟨o1, r1, e1⟩ : ∃ o r, run p1 = (o, r) := ⟨_, _, rfl⟩
  obtain ⟨o2, r2, e2⟩ : ∃ o r, run (r1 ++ p2) = (o, r) := ⟨_, _, rfl⟩
  have k1 := run_len p1
  have k2 := run_len (r1 ++ p2)
  have w1 := wait_le p1
  have w2 := wait_le (r1 ++ p2)
  rw [e1] at e0 k1 w1
  simp only at e0 k1 w1
  rw [e2] at e0 k2 w2
  simp only [List.length_append] at e0 k2 w2
  have hcl : clean p = o1 ++ o2 ++ rest3 r2 := by unfold clean; rw [e0]
  have h3 := rest3_len r2
  have E1 := Lib.hid e1
  have E2 := Lib.hid e2
  have EC := Lib.hid hcl
  clear e0 e1 e2 hcl
  go_enter Try.func5, Try.ntmps5
  go_wp2_with fail
  refine (PUtf.bobbinlaw01_awake.calls true _ PUtf.awake_true).mono ?_
  rintro e w1 ⟨rfl, hb1⟩
  go_wp2_with fail
  rw [hn]
  refine (new_calls _).mono ?_
  rintro e w2 ⟨rfl, hd2, hb2⟩
  have D2 := DR.new hb1 hd2 hb2
  clear hd2 hb2
  have hC2 := Kd.C_below hp D2.2.2.1
  have hCT := Kd.C_of_reads (h1 := fun _ => rfl) (hT1 _ (Kd.reads_of_C hC2))
  have hlt : ([] : List Int).length + p1.length ≤ 1099511627776 := by rw [List.length_nil]; omega
  go_wp2_with fail
  refine (feed_calls _ _ [] p1 _ _ _ D2.1 hCT htc hlt).mono ?_
  intro e w3 hf3
  obtain ⟨A3, c3, he3, hc3, D3, hC3⟩ := D2.feed hf3
  rw [List.nil_append, E1.out] at hc3 D3 hC3 he3
  subst he3
  simp only at hc3 D3 hC3
  clear hf3 hCT hC2 D2
  go_wp2_with (at_builtin; refine appB (w0 := w) rfl _ _ rfl (.slice none 0 0) [] _ _ _ _ rfl rfl D3.2.1 hC3 D3.2.2.1 (by simp; omega) ?_; intro v4 w4 ho4 hb4 hg4 hat4; have D4 := D3.append ho4 hb4 hg4 hat4; clear hC3 D3 ho4 hb4 hg4 hat4)
  simp only [List.nil_append] at D4
  refine (carry_calls _ _ r1 _ D4.1 (by omega)).mono ?_
  rintro e w5 ⟨v5, rfl, ho5, hb5⟩
  obtain ⟨A5, c5, rfl⟩ := Kd.R_slice ho5
  have D5 := D4.below hb5
  clear D4 ho5 hb5
  have hC5 := Kd.C_of_reads (h1 := fun _ => rfl) (hT2 _ (Kd.reads_of_C (Kd.C_below hp D5.2.2.1)))
  go_wp2_with fail
  refine (feed_calls _ _ r1 p2 _ _ _ D5.1 hC5 hdc (by omega)).mono ?_
  intro e w6 hf6
  obtain ⟨A6, c6, he6, hc6, D6, hC6⟩ := D5.feed hf6
  rw [E2.out] at hc6 D6 hC6 he6
  subst he6
  simp only at hc6 D6 hC6
  clear hf6 hC5 D5
  go_wp2_with (at_builtin; refine appB (w0 := w) rfl _ _ rfl v4 _ _ _ _ _ rfl rfl D6.2.1 hC6 D6.2.2.1 (by omega) ?_; intro v7 w7 ho7 hb7 hg7 hat7; have D7 := D6.append ho7 hb7 hg7 hat7; clear hC6 D6 ho7 hb7 hg7 hat7)
  refine (finish_calls _ _ r2 _ D7.1).mono ?_
  intro e w8 hf8
  obtain ⟨A8, c8, rfl, hc8, D8, hC8⟩ := D7.finish hf8
  clear hf8 D7
  go_wp2_with (at_builtin; refine appB (w0 := w) rfl _ _ rfl v7 _ _ _ _ _ rfl rfl D8.2.1 hC8 D8.2.2.1 (by simp; omega) ?_; intro v9 w9 ho9 hb9 hg9 hat9; clear hC8 D8 hg9 hat9)
  rw [← EC.out] at ho9
  obtain ⟨A9, c9, rfl, hc9, hC9⟩ := Kd.R_reads ho9
  clear ho9 E1 E2 EC k1 k2 h3
  refine (new_calls _).mono ?_
  rintro e w10 ⟨rfl, hd10, hb10⟩
  have D10 := DR.new (Below.refl w9.heap.size w9) hd10 hb10
  clear hd10 hb10
  have hCp := Kd.C_below hp hb9
  go_wp2_with fail
  go_loopw [9, 10] (fun v9' v10 wr => ∃ (i : Nat), v10 = .int .i64 (i : Int) ∧ i ≤ p.length ∧ DR w9 wr w9.heap.size (run (p.take i)).2 v9' (run (p.take i)).1) (fun _ v10 _ => match v10 with | .int _ i => p.length - i.toNat | _ => 0)
  case atStart => exact ⟨0, rfl, Nat.zero_le _, by rw [List.take_zero, run_nil]; exact D10⟩
  case round =>
    obtain ⟨i, rfl, hi, D11⟩ := hrel
    by_cases hlt2 : i < p.length
    · obtain ⟨A12, hmid, hT3, hmc⟩ := print_mid_of (P := Try.prog) (Value.int .u8) 0 22 5 .i64 .i64 Try.underlying22 hi0 hsz0 A c p (i : Int) ((i : Int) + 1) (by omega) (by omega) (by omega) hc
      have e3 := run_take_succ p i hlt2
      have hq : ((p.take ((i : Int) + 1).toNat).drop (i : Int).toNat).length = 1 := by simp; omega
      rw [show ((i : Int) + 1).toNat = i + 1 from by omega, Int.toNat_natCast] at hmid hT3 hmc hq
      generalize (p.take (i + 1)).drop i = q at hmid hT3 hmc hq e3
      obtain ⟨x, rfl⟩ := List.length_eq_one_iff.1 hq
      have hmid1 : ∀ W : World, (Instr.slice 22 (.slice A p.length c) (some (.int .i64 (i : Int))) (some (.int .i64 ((i : Int) + 1))) none).run Try.prog W = .ok (.slice A12 1 (c - i)) W := hmid
      clear hmid
      have kl := run_len (p.take i)
      have hti : (p.take i).length ≤ 1048576 := by rw [List.length_take]; omega
      have wl := wait_le (p.take (i + 1))
      have E4 := Lib.hid e3
      rw [e3] at wl
      obtain ⟨o, r, e4⟩ : ∃ o r, run (p.take i) = (o, r) := ⟨_, _, rfl⟩
      rw [e4] at D11 kl E4 wl
      simp only at D11 kl E4 wl
      obtain ⟨o', r', e5⟩ : ∃ y z, run (r ++ [x]) = (y, z) := ⟨_, _, rfl⟩
      have kq := run_len (r ++ [x])
      rw [e5] at E4 wl kq
      simp only [List.length_append, List.length_cons, List.length_nil] at E4 wl kq
      have E5 := Lib.hid e5
      clear e3 e4 e5
      have hC12 := Kd.C_of_reads (h1 := fun _ => rfl) (hT3 _ (Kd.reads_of_C (Kd.C_below hCp D11.2.2.1)))
      go_wp2_with fail
      refine (feed_calls _ _ r [x] _ _ _ D11.1 hC12 hmc (by simp; omega)).mono ?_
      intro e w13 hf13
      obtain ⟨A13, c13, he13, hc13, D13, hC13⟩ := D11.feed hf13
      rw [E5.out] at hc13 D13 hC13 he13
      subst he13
      simp only at hc13 D13 hC13
      clear hf13 hC12 D11
      go_wp2_with (at_builtin; refine appB (w0 := w9) rfl _ _ rfl u9 _ _ _ _ _ rfl rfl D13.2.1 hC13 D13.2.2.1 (by omega) ?_; intro v14 w14 ho14 hb14 hg14 hat14; have D14 := D13.append ho14 hb14 hg14 hat14; clear hC13 D13 ho14 hb14 hg14 hat14)
      refine (carry_calls _ _ r' _ D14.1 (by omega)).mono ?_
      rintro e w15 ⟨v15, rfl, ho15, hb15⟩
      obtain ⟨A15, c15, rfl⟩ := Kd.R_slice ho15
      have D15 := D14.below hb15
      clear D14 ho15 hb15
      go_wp2_with fail
      go_roundw
      case rel =>
        refine ⟨i + 1, rfl, by omega, ?_⟩
        rw [E4.out]
        exact D15
      case measure => simp; omega
    · have hip : i = p.length := by omega
      subst hip
      rw [List.take_length] at D11
      have kl := run_len p
      have h3 := rest3_len (run p).2
      go_wp2_with fail
      refine (finish_calls _ _ _ _ D11.1).mono ?_
      intro e w12 hf12
      obtain ⟨A12, c12, rfl, hc12, D12, hC12⟩ := D11.finish hf12
      clear hf12 D11
      go_wp2_with (at_builtin; refine appB (w0 := w9) rfl _ _ rfl u9 _ _ _ _ _ rfl rfl D12.2.1 hC12 D12.2.2.1 (by omega) ?_; intro v13 w13 ho13 hb13 hg13 hat13; have D13 := D12.append ho13 hb13 hg13 hat13; clear hC12 D12 ho13 hb13 hg13 hat13)
      have D13' : DR w9 w13 w9.heap.size [] v13 (clean p) := D13
      clear D13
      refine (clean_calls p A c _ (Kd.C_below hCp D13'.2.2.1) hc (by omega)).mono ?_
      rintro e w14 ⟨v14, rfl, ho14, hb14⟩
      have D14 := D13'.below hb14
      obtain ⟨A14, c14, rfl, hc14, hC14⟩ := Kd.R_reads ho14
      obtain ⟨A13, c13, rfl, hc13, hC13⟩ := Kd.R_reads D14.2.1
      clear D13' hb14 ho14 kl h3
      generalize hcp : clean p = cp at *
      go_wp2_with fail
      refine (PUtf.bobbinlaw01_same.calls A9 c9 cp A14 c14 cp true w14 (Kd.C_below hC9 D14.2.2.1) hc9 hC14 hc14 (by simp [PUtf.bobbinlaw01_same.f])).mono ?_
      rintro e w15 ⟨rfl, hd15⟩
      have D15 := D14.below hd15.below
      have hC14' := Kd.C_below hC14 hd15.below
      have hC13' := Kd.C_below hC13 hd15.below
      go_wp2_with fail
      refine (PUtf.bobbinlaw01_same.calls A13 c13 cp A14 c14 cp true w15 hC13' hc13 hC14' hc14 (by simp [PUtf.bobbinlaw01_same.f])).mono ?_
      rintro e w16 ⟨rfl, hd16⟩
      have D16 := D15.below hd16.below
      go_wp2_with fail
      refine (finish_calls _ _ _ _ D16.1).mono ?_
      intro e w17 hf17
      obtain ⟨A17, c17, rfl, hc17, D17, hC17⟩ := D16.finish hf17
      go_wp2_with fail
      go_ret
      exact ⟨rfl, below_then hb9 hb9.size D17.2.2.1⟩
end Go.Proofs.Ytdpnnglfaofjeaa.U

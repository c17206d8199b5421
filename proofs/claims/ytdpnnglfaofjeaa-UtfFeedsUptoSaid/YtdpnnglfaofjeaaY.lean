import Derived.Test.YtdpnnglfaofjeaaX
namespace Go.Proofs.Ytdpnnglfaofjeaa.U
open Go.RowKit Go.Proofs.YtdpnnglfaofjeaaW.PrintWords Go.Proofs.YtdpnnglfaofjeaaW.PrintLast Go.Proofs.YtdpnnglfaofjeaaW.PrintMore
set_option linter.unusedVariables false
set_option linter.unusedSimpArgs false

theorem flatten_drop (cs : List (List Int)) (i : Nat) (h : i < cs.length) : (cs.drop i).flatten.length = (PUtf.rd_L1 cs (i : Int)).length + (cs.drop (i + 1)).flatten.length := by
  rw [List.drop_eq_getElem_cons h, List.flatten_cons, List.length_append]
  simp [PUtf.rd_L1, List.getD_eq_getElem?_getD, h, -List.length_flatten]
theorem DR.fresh {w0 W : World} {g : Nat} {l : List Int} {v : Value} {xs : List Int} (h : DR w0 W g l v xs) : DR w0 W g l (.slice none 0 0) [] :=
  ⟨h.1.mono (fun k _ => ⟨trivial, by simp [Value.ownBlock]⟩), Kd.R_nil _ _ _ _ _, h.2.2.1, h.2.2.2⟩
theorem same_self (l : List Int) : PUtf.bobbinlaw01_same.f l l = some true := by simp [PUtf.bobbinlaw01_same.f]
theorem Same_self (l : List Int) : PUtf.bobbinref01_Same.f l l = some true := by simp [PUtf.bobbinref01_Same.f]
theorem clean_wait (a : List Int) : clean (run a).2 = rest3 (run a).2 := by unfold clean; rw [run_idem]; simp
set_option maxHeartbeats 4000000 in
theorem feeds_calls (cs : List (List Int)) (es : List Bool) (A A1 : Option Addr) (c c1 : Nat) (w : World) (hp : Kd.C (Kd.slice 5 (Kd.int .u8)) w A cs.length cs) (hc : cs.length ≤ c)
    (hq : Kd.C Kd.bool w A1 es.length es) (hc1 : es.length ≤ c1) (hN : cs.flatten.length + cs.length ≤ 1048576) :
    Calls Try.prog 4 #[.slice A cs.length c, .slice A1 es.length c1] w fun e w' => e = .returned (.bool true) ∧ Below w.heap.size w w' := by
  obtain ⟨i0, hi0, _, hsz0, _⟩ := info_parts info5
  go_enter Try.func4, Try.ntmps4
  go_wp2_with fail
  refine (PUtf.bobbinlaw01_awake.calls true _ PUtf.awake_true).mono ?_
  rintro e w1 ⟨rfl, hb1⟩
  go_wp2_with fail
  refine (new_calls _).mono ?_
  rintro e w2 ⟨rfl, hd2, hb2⟩
  have D2 := DR.new hb1 hd2 hb2
  clear hd2 hb2
  go_wp2_with fail
  go_loopw [6, 7, 8] (fun v6 v7 v8 wr => ∃ (i : Nat) (S : List Int), v8 = .int .i64 (i : Int) ∧ v7 = .int .i64 ((run S).1.length : Int) ∧ i ≤ cs.length ∧ S.length + (cs.drop i).flatten.length ≤ 1048576 ∧ DR w wr w1.heap.size (run S).2 v6 S) (fun _ _ v8 _ => match v8 with | .int _ i => cs.length - i.toNat | _ => 0)
  case atStart => exact ⟨0, [], rfl, by rw [run_nil]; rfl, Nat.zero_le _, by rw [List.length_nil, List.drop_zero]; omega, by rw [run_nil]; exact D2⟩
  case round =>
    obtain ⟨i, S, rfl, rfl, hi, hS, D3⟩ := hrel
    by_cases hlt : i < cs.length
    · rw [flatten_drop cs i hlt] at hS
      obtain ⟨ad, A0, c0, rfl, hcell0, hc0, hC0⟩ := PUtf.at_L1 hp (i : Int) (by omega) (by omega)
      rw [Int.toNat_natCast] at hcell0
      have hcell : ∀ W : World, Below w.heap.size w W → W.cell? (ad.add i) = some (.slice A0 (PUtf.rd_L1 cs (i : Int)).length c0) := fun W hW => (hW.cell (World.block_lt_of_cell? w _ hcell0)).trans hcell0
      generalize PUtf.rd_L1 cs (i : Int) = ch at hS hcell0 hc0 hC0 hcell
      have hcell3 := hcell _ D3.2.2.1
      have kS := run_len S
      obtain ⟨oS, rS, eS⟩ : ∃ o r, run S = (o, r) := ⟨_, _, rfl⟩
      obtain ⟨o, r, e1⟩ : ∃ o r, run (rS ++ ch) = (o, r) := ⟨_, _, rfl⟩
      have e2 : run (S ++ ch) = (oS ++ o, r) := by rw [run_append, eS, e1]
      have k1 := run_len (rS ++ ch)
      have kw := clean_wait (S ++ ch)
      rw [e2] at kw
      simp only at kw
      have hl1 : (S ++ ch).length = S.length + ch.length := List.length_append
      rw [eS] at D3 kS
      rw [e1, List.length_append] at k1
      simp only at D3 kS k1
      go_wp2_with (at_builtin; refine appB (w0 := w) rfl _ _ rfl u6 _ _ _ _ _ rfl rfl D3.2.1 (Kd.C_below hC0 D3.2.2.1) D3.2.2.1 (by omega) ?_; intro v4 w4 ho4 hb4 hg4 hat4; have D4 := D3.append ho4 hb4 hg4 hat4; clear hcell3 D3 ho4 hb4 hg4 hat4)
      generalize S ++ ch = S' at D4 e2 hl1
      obtain ⟨A4, c4, rfl, hc4, hC4⟩ := Kd.R_reads D4.2.1
      have hsure := sure_calls S' A4 c4 w4 hC4 hc4 (by omega)
      unfold SureIs at hsure
      rw [e2] at hsure
      simp only at hsure
      refine hsure.mono ?_
      clear hsure hC4
      rintro e w5 ⟨v5, A6, c6, rfl, ho5, hc6, hw6, hb5⟩
      have hbd : Below w5.heap.size w5 w5.drew := below_drew (Below.refl _ _)
      have D5 := (D4.below hb5).below hbd
      have hg4 := D4.1.lt
      obtain ⟨X, hX⟩ : ∃ X, oS ++ o = X := ⟨_, rfl⟩
      have hXl : X.length = oS.length + o.length := by rw [← hX, List.length_append]
      have hXd : X.drop ((oS.length : Int)).toNat = o := by rw [← hX]; simp
      rw [hX] at ho5 e2
      replace ho5 := Kd.R_below ho5 hbd
      obtain ⟨A5, c5, rfl, hc5, hC5⟩ := Kd.R_reads ho5
      obtain ⟨A7, hdrop, hT7, hdc7⟩ := print_drop_of (P := Try.prog) (Value.int .u8) 0 22 5 .i64 Try.underlying22 hi0 hsz0 A5 c5 X (oS.length : Int) (by omega) (by omega) hc5
      rw [hXd] at hdrop hT7 hdc7
      have hcell5 := hcell _ D5.2.2.1
      have hC05 := Kd.C_below hC0 D5.2.2.1
      have E1 := Lib.hid e1
      have E2 := Lib.hid e2
      have KW := Lib.hid kw
      clear hX hXd eS e1 e2 kw hC5 D4
      have hle5 : rS.length + ch.length ≤ 1099511627776 := by omega
      have mark1 : True := trivial
      have HL := Lib.hid hl1
      have HX := Lib.hid hXl
      clear hl1 hXl
      go_wp2_with fail
      go_region_with (first
        | (go_at_call 18; go_loud (
            refine (feed_calls _ _ rS ch _ _ _ D5.1 hC05 hc0 hle5).mono ?_
            intro e w6 hf6
            have ho6 : OB w4 w6 (.slice A5 X.length c5) X := by obtain ⟨_, _, _, _, hgr⟩ := hf6; exact OB.keep ho5 hg4 hgr
            obtain ⟨A8, c8, he8, hc8, D6, hC8⟩ := D5.feed hf6
            rw [E1.out] at hc8 D6 hC8 he8
            subst he8
            simp only at hc8 D6 hC8
            clear hf6 ho5 D5 hcell5
            have hC7 := Kd.C_of_reads (h1 := fun _ => rfl) (hT7 _ (Kd.reads_of_C (Kd.R_reads' ho6).2.2))))
        | (go_at_call 17; clear mark1; go_loud (
            refine (PUtf.bobbinref01_Same.calls A8 c8 o A7 _ o true w6 hC8 hc8 hC7 hdc7 (Same_self o)).mono ?_
            rintro e w7 ⟨rfl, hd7⟩
            have D7 := D6.below hd7.below
            clear hC7 hC8))
        | (go_at_call 19; go_loud (
            refine (carry_calls _ _ r _ D7.1 (by omega)).mono ?_
            rintro e w8 ⟨v8, rfl, ho8, hb8⟩
            obtain ⟨A9, c9, rfl, hc9, hC9⟩ := Kd.R_reads ho8
            have D8 := D7.below hb8
            have hC10 := hw6 _ (Kd.R_reads' D8.2.1).2.2))
        | (go_at_call 17; go_loud (
            refine (PUtf.bobbinref01_Same.calls A9 c9 r A6 c6 r true w8 hC9 hc9 hC10 hc6 (Same_self r)).mono ?_
            rintro e w9 ⟨rfl, hd9⟩
            have D9 := D8.below hd9.below
            clear hC9 hC10)))
      have hbd9 : Below w9.heap.size w9 w9.drew := below_drew (Below.refl _ _)
      by_cases he : i < es.length
      · obtain ⟨ad1, rfl, hcb⟩ := Kd.at_bool hq (i : Int) (by omega) (by omega)
        rw [Int.toNat_natCast] at hcb
        have hcb9 : w9.cell? (ad1.add i) = some (.bool (rdOf false es (i : Int))) := (D9.2.2.1.cell (World.block_lt_of_cell? w _ hcb)).trans hcb
        have hcb9' : w9.drew.cell? (ad1.add i) = some (.bool (rdOf false es (i : Int))) := hcb9
        cases hb : rdOf false es (i : Int) with
        | false =>
          rw [hb] at hcb9 hcb9'
          go_wp2_with fail
          go_roundw
          case rel => exact ⟨i + 1, S', rfl, by rw [E2.out], by omega, by have := HL.out; omega, by rw [E2.out]; exact D9⟩
          case measure => simp; omega
        | true =>
          rw [hb] at hcb9 hcb9'
          obtain ⟨k10, hk10⟩ := (PUtf.ref_clean_ev r (by omega)).rounds
          rw [KW.out] at hk10
          have hC10 := hw6 _ (Kd.R_reads' D9.2.1).2.2
          have hr3 := rest3_len r
          go_wp2_with fail
          refine (PUtf.bobbinref01_Clean.calls k10 A6 c6 r _ w9 hC10 hc6 hk10).mono ?_
          rintro e w10 ⟨v10, rfl, ho10, hb10⟩
          have D10 := D9.below hb10
          obtain ⟨A10, c10, rfl, hc10, hC10'⟩ := Kd.R_reads ho10
          have hg10 := D9.1.lt
          go_wp2_with fail
          refine (finish_calls _ _ r _ D10.1).mono ?_
          intro e w11 hf11
          have ho11 : OB w9 w11 (.slice A10 (rest3 r).length c10) (rest3 r) := by obtain ⟨_, _, _, _, hgr⟩ := hf11; exact OB.keep ho10 hg10 hgr
          obtain ⟨A11, c11, rfl, hc11, D11, hC11⟩ := D10.finish hf11
          have hC12 := (Kd.R_reads' ho11).2.2
          go_wp2_with fail
          refine (PUtf.bobbinref01_Same.calls A11 c11 (rest3 r) A10 c10 (rest3 r) true w11 hC11 hc11 hC12 hc10 (Same_self _)).mono ?_
          rintro e w12 ⟨rfl, hd12⟩
          have D12 := D11.below hd12.below
          go_wp2_with fail
          refine (carry_calls _ _ [] _ D12.1 (by simp)).mono ?_
          rintro e w13 ⟨v13, rfl, ho13, hb13⟩
          obtain ⟨A13, c13, rfl⟩ := Kd.R_slice ho13
          have D13 := (D12.below hb13).fresh
          go_wp2_with fail
          go_roundw
          case rel => exact ⟨i + 1, [], rfl, by rw [run_nil]; rfl, by omega, by rw [List.length_nil]; omega, by rw [run_nil]; exact D13⟩
          case measure => simp; omega
      · go_wp2_with fail
        go_roundw
        case rel => exact ⟨i + 1, S', rfl, by rw [E2.out], by omega, by have := HL.out; omega, by rw [E2.out]; exact D9⟩
        case measure => simp; omega
    · go_wp2_with fail
      go_ret
      exact ⟨rfl, D3.2.2.1⟩
end Go.Proofs.Ytdpnnglfaofjeaa.U
namespace Go.Proofs.Ytdpnnglfaofjeaa.U
theorem ones_sum (l : List Int) : (l.map fun _ => 1).sum = l.length := by
  induction l with
  | nil => rfl
  | cons a l ih => rw [List.map_cons, List.sum_cons, ih, List.length_cons]; omega
theorem chunk_sum (cs : List (List Int)) : cs.flatten.length + cs.length ≤ (cs.map fun l => (l.map fun _ => 1).sum + 1).sum := by
  induction cs with
  | nil => simp
  | cons a cs ih =>
    rw [List.flatten_cons, List.length_append, List.length_cons, List.map_cons, List.sum_cons, ones_sum]
    omega
end Go.Proofs.Ytdpnnglfaofjeaa.U

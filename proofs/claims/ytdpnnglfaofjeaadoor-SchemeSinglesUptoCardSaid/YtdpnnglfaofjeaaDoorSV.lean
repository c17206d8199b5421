import Derived.Test.YtdpnnglfaofjeaaDoorSU
namespace Go.Proofs.YtdpnnglfaofjeaaDoor.Z
open Go.RowKit Go.Lib Go.Proofs.YtdpnnglfaofjeaaDoorW.PrintWords Go.Proofs.YtdpnnglfaofjeaaDoorW.PrintLast Go.Proofs.YtdpnnglfaofjeaaDoorW.PrintMore Go.Proofs.YtdpnnglfaofjeaaDoor.PSc
open Go.Proofs.YtdpnnglfaofjeaaDoor.V (RB RB.of_OB RB.lit only_setCell only_alloc size_set conv_const info5 R_empty)
set_option linter.unusedVariables false
set_option linter.unusedSimpArgs false
set_option maxRecDepth 1000000

theorem want_out (s p : List Int) : wantL s ++ outG s p = wantL (s ++ p) := by
  have h := out_want s p
  unfold wantL at *
  cases h1 : sureG s
  · rw [h.1, h1]; simp
  · rw [h.1, h1, sure_app s p h1]
    simp only [if_true]
    unfold passL
    rw [stopped_app s p h1]
    cases h3 : stopped s <;> simp
theorem want_all (p : List Int) : wantL p ++ heldG p = passL p := by
  unfold wantL heldG
  cases h : sureG p
  · unfold passL; rw [unsure_free p h]; simp
  · simp
theorem want_nil : wantL [] = [] := by decide
theorem sure_nil : sureG [] = false := by decide
theorem getD_snoc (s : List Int) (x : Int) (j : Nat) : (s ++ [x]).getD j 0 = if j < s.length then s.getD j 0 else if j = s.length then x else 0 := by
  by_cases h : j < s.length
  · rw [if_pos h, getD_app_left _ _ _ h]
  · rw [if_neg h]
    by_cases h2 : j = s.length
    · rw [if_pos h2, h2, getD_app_mid]
    · rw [if_neg h2, List.getD_eq_getElem?_getD, List.getElem?_eq_none (by simp; omega)]; rfl
theorem sure_snoc (s : List Int) (x : Int) (h : sureG s = false) : sureG (s ++ [x]) = true ↔ stop x ∨ 16 ≤ s.length := by
  rw [unsure_iff] at h
  rw [sure_iff, List.length_append, List.length_singleton]
  have hn : ∀ j : Nat, j < s.length → ¬ stop (s.getD j 0) := by
    rcases mark_is s with ⟨_, hn⟩ | ⟨i, e, _⟩
    · exact hn
    · omega
  constructor
  · rintro (h1 | h1)
    · rcases mark_is (s ++ [x]) with ⟨e, _⟩ | ⟨i, e, hi, hs, _⟩
      · omega
      · rw [getD_snoc] at hs
        by_cases h2 : i < s.length
        · rw [if_pos h2] at hs; exact absurd hs (hn i h2)
        · rw [if_neg h2, if_pos (by simp at hi; omega)] at hs
          exact .inl hs
    · right; omega
  · rintro (h1 | h1)
    · left
      rw [(mark_is (s ++ [x])).unique (s := (s.length : Int)) (.inr ⟨s.length, rfl, by simp, by rw [getD_app_mid]; exact h1, fun j hj => by rw [getD_app_left _ _ _ hj]; exact hn j hj⟩)]
      omega
    · right; omega
set_option maxHeartbeats 16000000 in
theorem singles_calls (p : List Int) (A : Option Addr) (c : Nat) (w : World) (hp : Kd.C (Kd.int .u8) w A p.length p) (hc : p.length ≤ c) (hB : ∀ j : Nat, 0 ≤ p.getD j 0 ∧ p.getD j 0 ≤ 255) (hN : p.length ≤ 2097152) (hS : SchOK w) :
    Calls Tryd.prog 16 #[.slice A p.length c] w fun e w' => e = .returned (.bool true) ∧ Below w.heap.size w w' := by
  obtain ⟨i0, hi0, _, hsz0, _⟩ := info_parts info5
  have HP := Lib.hid hp
  have HS := Lib.hid hS
  have HB := Lib.hid hB
  clear hp hS hB
  go_enter Tryd.func16, Tryd.ntmps16
  go_wp2_with fail
  refine (awake5_calls w HS.out).mono ?_
  rintro e w1 ⟨rfl, hb1⟩
  have hS1 := HS.out.below hb1
  have h6 := hS1.six
  have hsz1 := hb1.size
  go_wp2_with fail
  refine (gnew_calls w1).mono ?_
  rintro e w2 ⟨rfl, hd2, hb2⟩
  have hb2' := below_then hb1 hb1.size hb2
  have hsz2 := hb2.size
  have hd2' : GateG w2 (fun k => w1.heap.size ≤ k) w1.heap.size w1.heap.size [] := by
    unfold GateG
    rw [heldG_nil, isG_nil]
    exact hd2.mono (fun k hk => Nat.le_of_eq hk.symm)
  clear hd2
  go_wp2_with fail
  go_loopw [4, 5, 6] (fun v4 v5 v6 wr => ∃ i : Nat, v6 = .int .i64 (i : Int) ∧ i ≤ p.length ∧ v4 = .string (strOfNums (wantL (p.take i))) ∧ v5 = .bool (sureG (p.take i)) ∧ GateG wr (fun k => w1.heap.size ≤ k) w1.heap.size w1.heap.size (p.take i) ∧ Below w.heap.size w wr ∧ w1.heap.size ≤ wr.heap.size) (fun _ _ v6 _ => match v6 with | .int _ i => p.length - i.toNat | _ => 0)
  case atStart => exact ⟨0, rfl, Nat.zero_le _, by rw [List.take_zero, want_nil]; rfl, by rw [List.take_zero, sure_nil], by rw [List.take_zero]; exact hd2', hb2', hsz2⟩
  case round =>
    obtain ⟨i, rfl, hi, rfl, rfl, hd, hb, hsz⟩ := hrel
    have hwl : (wantL (p.take i)).length ≤ p.length + 8 := by
      have h1 := pass_length (p.take i)
      have h2 : (p.take i).length ≤ p.length := List.length_take_le' _ _
      unfold wantL
      split
      · omega
      · simp
    have hBs := take_bytes HB.out i
    have hls : (p.take i).length = i := by rw [List.length_take]; omega
    by_cases hlt : i < p.length
    · have hlt' : (i : Int) < (p.length : Int) := by omega
      obtain ⟨A12, hmid, hT3, hmc⟩ := print_mid_of (P := Tryd.prog) (Value.int .u8) 0 22 5 .i64 .i64 Tryd.underlying22 hi0 hsz0 A c p (i : Int) ((i : Int) + 1) (by omega) (by omega) (by omega) hc
      obtain ⟨ad, rfl, hx⟩ := cell_at HP.out i hlt
      have hqe : (p.take (i + 1)).drop i = [p.getD i 0] := by
        rw [z_snoc p i hlt, List.drop_append_of_le_length (by omega), List.drop_of_length_le (by omega)]; rfl
      rw [show ((i : Int) + 1).toNat = i + 1 from by omega, Int.toNat_natCast, hqe] at hmid hT3 hmc
      have hsn := z_snoc p i hlt
      have hBx := HB.out i
      have HX : Hid (∀ W : World, Below w.heap.size w W → W.cell? (ad.add i) = some (.int .u8 (p.getD i 0))) := Lib.hid (fun W hW => (hW.cell (World.block_lt_of_cell? w _ hx)).trans hx)
      generalize p.getD i 0 = x at hmid hT3 hmc hsn hBx HX
      have HSN := Lib.hid hsn
      have hC12 := Kd.C_of_reads (h1 := fun _ => rfl) (hT3 _ (Kd.reads_of_C (Kd.C_below HP.out hb)))
      have hmid1 : ∀ W : World, (Instr.slice 22 (.slice (some ad) p.length c) (some (.int .i64 (i : Int))) (some (.int .i64 ((i : Int) + 1))) none).run Tryd.prog W = .ok (.slice A12 1 (c - i)) W := hmid
      clear hx hqe hsn hmid hT3
      have hw1 : IntKind.i64.wrap ((i : Int) + 1) = (i : Int) + 1 := IntWalk.i64_in _ (by omega)
      generalize p.take i = s at *
      have hf := feedG_calls _ _ _ s [x] A12 (c - i) wr hd hC12 (by simp; omega) hBs (bytes_small _ (by intro y hy; simp at hy; omega)) (HS.out.below hb) h6 (fun k hk => hk) hsz (fun k hk => by omega)
      have kw := want_out s [x]
      have ko := out_len s [x]
      have ku : sureG s = false → wantL s = [] := fun h => by unfold wantL; rw [h]; simp
      have ku2 : sureG (s ++ [x]) = false → outG s [x] = [] := fun h => by unfold outG; rw [h]; simp
      have kz : sureG (s ++ [x]) = true → heldG (s ++ [x]) = [] := fun h => by unfold heldG; rw [h]; simp
      have kz2 : sureG (s ++ [x]) = false → heldG (s ++ [x]) = s ++ [x] := fun h => by unfold heldG; rw [h]; simp
      have kn : sureG s = false → sureG (s ++ [x]) = true → outG s [x] ≠ [] := fun h h2 => by
        unfold outG passL
        rw [h, h2]
        cases stopped (s ++ [x]) <;> simp [blockedL]
      have kS := sure_snoc s x
      have KW := Lib.hid kw
      clear kw
      go_wp2_with fail
      refine hf.mono ?_
      rintro e w3 ⟨A3, c3, rfl, hc3, hC3, hd3, hO3, _⟩
      have hs3 := z_string (c := c3) hC3
      have hb3 : Below w.heap.size w w3 := hb.trans (hO3.below (fun k hk => by omega) (by omega))
      have hsz3 := hO3.size
      have hx3 := HX.out w3 hb3
      have hheld := heldG_calls _ _ _ (s ++ [x]) w3 hd3
      have HD3 := Lib.hid hd3
      have hsz' : w1.heap.size ≤ w3.heap.size := by omega
      simp only [List.length_singleton] at ko
      have HLS := Lib.hid hls
      clear hf hd hC3 hd3 hC12 hc3 hmid1 hO3
      generalize outG s [x] = o at *
      generalize heldG (s ++ [x]) = h3 at *
      have hcase : (sureG s = true) ∨ (sureG s = false ∧ sureG (s ++ [x]) = false ∧ ¬ stop x ∧ i < 16) ∨ (sureG s = false ∧ sureG (s ++ [x]) = true ∧ (stop x ∨ 16 ≤ i)) := by
        cases h1 : sureG s
        · right
          cases h2 : sureG (s ++ [x])
          · left
            have hno : ¬ (stop x ∨ 16 ≤ s.length) := fun h => by have := (kS h1).2 h; rw [h2] at this; cases this
            exact ⟨rfl, rfl, fun h => hno (.inl h), by have : ¬ 16 ≤ s.length := fun h => hno (.inr h); omega⟩
          · right
            have := (kS h1).1 h2
            exact ⟨rfl, rfl, this.imp id (fun h => by omega)⟩
        · left; rfl
      have hxs : x = 58 ∨ x = 47 ∨ x = 63 ∨ x = 35 ∨ (¬ stop x ∧ (x == 58) = false ∧ (x == 47) = false ∧ (x == 63) = false ∧ (x == 35) = false) := by
        by_cases a1 : x = 58
        · exact .inl a1
        by_cases a2 : x = 47
        · exact .inr (.inl a2)
        by_cases a3 : x = 63
        · exact .inr (.inr (.inl a3))
        by_cases a4 : x = 35
        · exact .inr (.inr (.inr (.inl a4)))
        exact .inr (.inr (.inr (.inr ⟨by unfold stop; omega, beq_eq_false_iff_ne.2 a1, beq_eq_false_iff_ne.2 a2, beq_eq_false_iff_ne.2 a3, beq_eq_false_iff_ne.2 a4⟩)))
      have hnil : strOfNums [] = ⟨#[]⟩ := rfl
      rcases hcase with h1 | ⟨h1, h2, h4, h5⟩ | ⟨h1, h2, h4⟩
      · have hS2 := sure_app s [x] h1
        obtain ⟨sw, hsw⟩ : ∃ y, strOfNums (wantL s) = y := ⟨_, rfl⟩
        obtain ⟨so, hso⟩ : ∃ y, strOfNums o = y := ⟨_, rfl⟩
        have hzw : sw.size = (wantL s).length := by rw [← hsw, strOfNums_size]
        have hzo : so.size = o.length := by rw [← hso, strOfNums_size]
        have hq : (9223372036854775807 < sw.size + so.size) = False := eq_false (by omega)
        rw [hso] at hs3
        rw [hsw, h1]
        have HE : Hid (Value.string (sw ++ so) = .string (strOfNums (wantL (p.take (i + 1))))) := Lib.hid (by rw [HSN.out, ← KW.out, z_app, hsw, hso])
        have HV : Hid (Value.bool true = .bool (sureG (p.take (i + 1)))) := Lib.hid (by rw [HSN.out, hS2])
        have HG : Hid (GateG w3 (fun k => w1.heap.size ≤ k) w1.heap.size w1.heap.size (p.take (i + 1))) := Lib.hid (by rw [HSN.out]; exact HD3.out)
        clear hsw hso hzw hzo h1 hS2 ku ku2 kz kz2 kn kS hls hnil ko hBx
        rcases hxs with rfl | rfl | rfl | rfl | ⟨_, g1, g2, g3, g4⟩
        all_goals (
          go_wp2_with fail
          go_roundw
          case rel => exact ⟨i + 1, by first | rfl | simp, by omega, HE.out, HV.out, HG.out, hb3, hsz'⟩
          case measure => simp; omega)
      · have ew := ku h1
        have eo := ku2 h2
        have eh := kz2 h2
        subst eo
        subst eh
        have hs3' : (convert 22 9 (.slice A3 0 c3)).run Tryd.prog w3 = .ok (.string ⟨#[]⟩) w3 := hs3
        clear hs3
        rw [ew, hnil, h1]
        have hl3 : (s ++ [x]).length = i + 1 := by rw [List.length_append, HLS.out]; rfl
        rw [hl3] at hheld
        have HE : Hid (Value.string (⟨#[]⟩ : ByteArray) = .string (strOfNums (wantL (p.take (i + 1))))) := Lib.hid (by rw [HSN.out, ← KW.out, ew]; rfl)
        have HV : Hid (Value.bool false = .bool (sureG (p.take (i + 1)))) := Lib.hid (by rw [HSN.out, h2])
        have HG : Hid (GateG w3 (fun k => w1.heap.size ≤ k) w1.heap.size w1.heap.size (p.take (i + 1))) := Lib.hid (by rw [HSN.out]; exact HD3.out)
        have h5' : (i : Int) < 16 := by omega
        have hns : x ≠ 58 ∧ x ≠ 47 ∧ x ≠ 63 ∧ x ≠ 35 := by unfold stop at h4; omega
        have g1 : (x == 58) = false := beq_eq_false_iff_ne.2 hns.1
        have g2 : (x == 47) = false := beq_eq_false_iff_ne.2 hns.2.1
        have g3 : (x == 63) = false := beq_eq_false_iff_ne.2 hns.2.2.1
        have g4 : (x == 35) = false := beq_eq_false_iff_ne.2 hns.2.2.2
        clear ew hl3 h1 h2 h4 hns ku ku2 kz kz2 kn kS hls hnil ko hBx hxs
        go_wp2_with (go_at_call 45; go_loud (refine hheld.mono ?_; rintro e w9 ⟨rfl, rfl⟩))
        go_roundw
        case rel => exact ⟨i + 1, by first | rfl | simp, by omega, by first | exact HE.out | (simpa using HE.out), HV.out, HG.out, hb3, hsz'⟩
        case measure => simp; omega
      · have ew := ku h1
        have eh := kz h2
        have eo := kn h1 h2
        subst eh
        rw [ew, hnil, h1]
        obtain ⟨so, hso⟩ : ∃ y, strOfNums o = y := ⟨_, rfl⟩
        have hzo : so.size = o.length := by rw [← hso, strOfNums_size]
        have hopos : 0 < o.length := List.length_pos_iff.2 eo
        have ht1 : (so.toList = []) = False := eq_false (fun h => by
          have hL : so.toList.length = so.size := by rw [Lib.toList_data, ← Lib.size_eq]
          rw [h, List.length_nil] at hL
          omega)
        have ht2 : so.toList.isEmpty = false := by cases h : so.toList.isEmpty; rfl; exact absurd (List.isEmpty_iff.1 h) (fun e => by rw [e] at ht1; simp at ht1)
        rw [hso] at hs3
        have HE : Hid (Value.string (⟨#[]⟩ ++ so) = .string (strOfNums (wantL (p.take (i + 1))))) := Lib.hid (by rw [HSN.out, ← KW.out, z_app, hso, ew]; rfl)
        have HV : Hid (Value.bool true = .bool (sureG (p.take (i + 1)))) := Lib.hid (by rw [HSN.out, h2])
        have HG : Hid (GateG w3 (fun k => w1.heap.size ≤ k) w1.heap.size w1.heap.size (p.take (i + 1))) := Lib.hid (by rw [HSN.out]; exact HD3.out)
        have hq : (9223372036854775807 < so.size) = False := eq_false (by omega)
        have hxs' : x = 58 ∨ x = 47 ∨ x = 63 ∨ x = 35 ∨ (16 ≤ (i : Int) ∧ (x == 58) = false ∧ (x == 47) = false ∧ (x == 63) = false ∧ (x == 35) = false) := by
          rcases hxs with h | h | h | h | ⟨ha, hb⟩
          · exact .inl h
          · exact .inr (.inl h)
          · exact .inr (.inr (.inl h))
          · exact .inr (.inr (.inr (.inl h)))
          · exact .inr (.inr (.inr (.inr ⟨by rcases h4 with h | h; exact absurd h ha; omega, hb⟩)))
        clear hxs ew eo hso hzo hopos h1 h2 h4 ku ku2 kz kz2 kn kS hls hnil ko hBx
        rcases hxs' with rfl | rfl | rfl | rfl | ⟨g0, g1, g2, g3, g4⟩
        all_goals (
          go_wp2_with (go_at_call 45; go_loud (refine hheld.mono ?_; rintro e w9 ⟨rfl, rfl⟩))
          go_roundw
          case rel => exact ⟨i + 1, by first | rfl | simp, by omega, by first | exact HE.out | (simpa using HE.out), HV.out, HG.out, hb3, hsz'⟩
          case measure => simp; omega)
    · have hip : i = p.length := by omega
      subst hip
      rw [List.take_length] at *
      have hlt' : ¬ ((p.length : Int) < (p.length : Int)) := by omega
      obtain ⟨s1, hs1⟩ : ∃ s, strOfNums (wantL p) = s := ⟨_, rfl⟩
      have hz1 : s1.size = (wantL p).length := by rw [← hs1, strOfNums_size]
      have hfin := finG_calls _ _ _ p wr hd HB.out (by omega) (HS.out.below hb)
      have kf := want_all p
      have kz : (heldG p).length ≤ p.length := by unfold heldG; split <;> simp
      rw [hs1]
      have S1 := Lib.hid hs1
      have EF := Lib.hid kf
      clear hs1 kf hd
      go_wp2_with fail
      refine hfin.mono ?_
      rintro e w7 ⟨A7, c7, rfl, hc7, hC7, hd7, hg7, _⟩
      have hs7 := z_string (c := c7) hC7
      generalize heldG p = o3 at *
      obtain ⟨s3, hs3⟩ : ∃ s, strOfNums o3 = s := ⟨_, rfl⟩
      have hz3 : s3.size = o3.length := by rw [← hs3, strOfNums_size]
      rw [hs3] at hs7
      have S3 := Lib.hid hs3
      have q2 : (9223372036854775807 < s1.size + s3.size) = False := eq_false (by omega)
      have hb7 : Below w.heap.size w w7 := pw_below_grown hb _ hb.size hg7 (by rintro k ⟨⟩; exact hsz1)
      have cP := pass_calls p A c w7 (Kd.C_below HP.out hb7) HB.out (by omega) (HS.out.below hb7)
      have e8 : strOfNums (passL p) = s1 ++ s3 := by rw [← EF.out, z_app, S1.out, S3.out]
      have E8 := Lib.hid e8
      clear hs3 hC7 hfin hd7 e8
      go_wp2_with fail
      refine cP.mono ?_
      rintro e w8 ⟨u, rfl, ho8, hb8⟩
      obtain ⟨A8, c8, rfl, hc8, hC8⟩ := ho8.reads
      have hs8 := z_string (c := c8) hC8
      rw [E8.out] at hs8
      have hb8' := below_then hb7 hb7.size hb8
      clear ho8 hC8 hs7 cP
      go_wp2_with fail
      go_ret
      exact ⟨rfl, hb8'⟩
end Go.Proofs.YtdpnnglfaofjeaaDoor.Z

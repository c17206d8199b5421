import Derived.Test.YtdpnnglfaofjeaaDoorST
namespace Go.Proofs.YtdpnnglfaofjeaaDoor.Z
open Go.RowKit Go.Lib Go.Proofs.YtdpnnglfaofjeaaDoorW.PrintWords Go.Proofs.YtdpnnglfaofjeaaDoorW.PrintLast Go.Proofs.YtdpnnglfaofjeaaDoorW.PrintMore Go.Proofs.YtdpnnglfaofjeaaDoor.PSc
open Go.Proofs.YtdpnnglfaofjeaaDoor.V (RB RB.of_OB RB.lit only_setCell only_alloc size_set conv_const info5 R_empty)
set_option linter.unusedVariables false
set_option linter.unusedSimpArgs false
set_option maxRecDepth 1000000

theorem z_app (a b : List Int) : strOfNums (a ++ b) = strOfNums a ++ strOfNums b := by
  apply ByteArray.ext
  apply Array.toList_inj.1
  simp [strOfNums_data, ByteArray.toList_data_append]
/-- A row of the call's own is written over. -/
def Fill (W0 W : World) (A : Option Addr) (n c : Nat) : Prop :=
  W0.grownBy W (Value.slice A n c).ownBlock ∧ (0 < n → ∃ g cur, A = some ⟨g, 0, none⟩ ∧ W.heap[g]? = some (.cells cur 5 (0, 0)) ∧ n ≤ cur.size)
theorem Fill.of_R {W : World} {base : Nat} {F : Nat → Prop} {A : Option Addr} {n c : Nat} {xs : List Int} (h : Kd.R (Kd.int .u8) 5 W base F (.slice A n c) xs) : Fill W W A n c := by
  refine ⟨World.grownBy.refl _ _, fun hn => ?_⟩
  have hn' := (Kd.R_reads' h).1
  subst hn'
  have ho := Kd.own_of_R h
  rcases ho.2 with ⟨h1, h2⟩ | ⟨g, cap, cur, h1, hbg, hg, hnc, hcm, hcs, htake⟩
  · injection h1 with _ h3 _; omega
  · injection h1 with h3 h4 h5
    exact ⟨g, cur, h3, hg, by omega⟩
theorem Fill.cell {W0 W : World} {A : Option Addr} {n c i : Nat} (h : Fill W0 W A n c) (hi : i < n) : ∃ ad, A = some ad ∧ (∃ u, W.cell? (ad.add i) = some u) ∧ W.frozen? (ad.add i) = false ∧ ∀ v, Fill W0 (W.setCell (ad.add i) v) A n c := by
  obtain ⟨hg, hc⟩ := h
  obtain ⟨g, cur, rfl, hb, hn⟩ := hc (by omega)
  refine ⟨_, rfl, ?_⟩
  rw [add_plain]
  refine ⟨⟨cur[i]'(by omega), ?_⟩, blk_frozen hb i, fun v => ⟨only_setCell (g := g) (p := ⟨g, i, none⟩) hg (.inl rfl) v, fun _ => ⟨g, cur.setIfInBounds i v, rfl, blk_set hb i v, by simpa using hn⟩⟩⟩
  have := blk_cell hb i
  simpa [show i < cur.size by omega] using this
theorem drop_bytes {l : List Int} (hB : ∀ j : Nat, 0 ≤ l.getD j 0 ∧ l.getD j 0 ≤ 255) (n : Nat) : ∀ j : Nat, 0 ≤ (l.drop n).getD j 0 ∧ (l.drop n).getD j 0 ≤ 255 := by
  intro j
  rw [List.getD_eq_getElem?_getD, List.getElem?_drop, ← List.getD_eq_getElem?_getD]
  exact hB _
set_option maxHeartbeats 16000000 in
theorem cut5_calls (p : List Int) (A : Option Addr) (c : Nat) (a : Int) (w : World) (hp : Kd.C (Kd.int .u8) w A p.length p) (hc : p.length ≤ c) (hB : ∀ j : Nat, 0 ≤ p.getD j 0 ∧ p.getD j 0 ≤ 255) (hN : p.length ≤ 2097152) (ha : 0 ≤ a ∧ a ≤ 65535) (hS : SchOK w) :
    Calls Tryd.prog 15 #[.slice A p.length c, .int .u16 a] w fun e w' => e = .returned (.bool true) ∧ Below w.heap.size w w' := by
  obtain ⟨i0, hi0, _, hsz0, _⟩ := info_parts info5
  obtain ⟨n, hn, hn0, hnl⟩ : ∃ n : Int, a % ((p.length : Int) + 1) = n ∧ 0 ≤ n ∧ n ≤ p.length := ⟨_, rfl, Int.emod_nonneg _ (by omega), by have := Int.emod_lt_of_pos a (show (0 : Int) < (p.length : Int) + 1 by omega); omega⟩
  obtain ⟨A2, hdrop, hT2, hdc⟩ := print_drop_of (P := Tryd.prog) (Value.int .u8) 0 22 5 .i64 Tryd.underlying22 hi0 hsz0 A c p n hn0 hnl hc
  have htk := fun (Am : Option Addr) (cm : Nat) (hcm : p.length ≤ cm) => print_take_of (P := Tryd.prog) (Value.int .u8) 0 22 5 .i64 Tryd.underlying22 hi0 hsz0 Am cm p n hn0 hnl hcm
  have hl1 : (p.take n.toNat).length ≤ 2097152 := by rw [List.length_take]; omega
  have hl2 : (p.drop n.toNat).length ≤ 2097152 := by rw [List.length_drop]; omega
  have hln : (p.take n.toNat).length = n.toNat := by rw [List.length_take]; omega
  have hB1 := take_bytes hB n.toNat
  have hB2 := drop_bytes hB n.toNat
  have e0 : p.take n.toNat ++ p.drop n.toNat = p := List.take_append_drop _ _
  have HTK := Lib.hid htk
  have HLN := Lib.hid hln
  clear htk hln
  generalize hp1 : p.take n.toNat = p1 at *
  generalize hp2 : p.drop n.toNat = p2 at *
  have k1 := out_len [] p1
  have k2 := out_len p1 p2
  have ke := out_out [] p1 p2
  rw [List.nil_append, e0] at ke
  have kf := out_all p
  rw [← ke] at kf
  have kz : (heldG p).length ≤ p.length := by unfold heldG; split <;> simp
  rw [List.length_nil] at k1
  have E0 := Lib.hid e0
  have EF := Lib.hid kf
  have HP := Lib.hid hp
  have HS := Lib.hid hS
  have HB := Lib.hid hB
  clear e0 ke kf hp hS hB hp1 hp2
  go_enter Tryd.func15, Tryd.ntmps15
  go_wp2_with fail
  refine (awake5_calls w HS.out).mono ?_
  rintro e w1 ⟨rfl, hb1⟩
  have hS1 := HS.out.below hb1
  have h6 := hS1.six
  go_wp2_with fail
  rw [hn]
  refine (gnew_calls w1).mono ?_
  rintro e w2 ⟨rfl, hd2, hb2⟩
  have hb2' := below_then hb1 hb1.size hb2
  have hC2 := Kd.C_below HP.out hb2'
  have hgl2 := hd2.lt
  go_wp2_with (at_builtin; refine V.appB (w0 := w2) rfl _ _ rfl (.slice none 0 0) [] p _ _ _ rfl rfl (Kd.R_nil _ _ _ _ _) hC2 (Below.refl _ _) (by simp; omega) ?_; intro v3 w3 ho3 hb3 _ _)
  rw [List.nil_append] at ho3
  have hsz23 := hb3.size
  have hd3 : GateG w3 (fun k => k = w1.heap.size ∨ w3.heap.size ≤ k) w1.heap.size w1.heap.size [] := by
    have h := hd2.below hb3
    unfold GateG
    rw [heldG_nil, isG_nil]
    exact h.mono (fun k hk => .inl hk)
  have hb3' := below_then hb2' hb2'.size hb3
  obtain ⟨Am, cm, rfl, hcm, hCm⟩ := Kd.R_reads ho3
  obtain ⟨htake, hT1, htc⟩ := HTK.out Am cm hcm
  have hC3 := Kd.C_of_reads (h1 := fun _ => rfl) (hT1 _ (Kd.reads_of_C hCm))
  have hsz1 := hb1.size
  have hsz2 := hb2.size
  have hf1 := feedG_calls _ _ _ [] p1 Am cm w3 hd3 hC3 (by simp; omega) (by intro j; simp) hB1 (HS.out.below hb3') h6 (fun k hk => by rcases hk with hk | hk <;> omega) (by omega) (fun k hk => .inr hk)
  clear hd2 hd3 hC2 hCm hC3 hT1
  have ho3b := Kd.R_bound ho3
  clear ho3
  go_wp2_with fail
  rw [htake]
  simp only [Result.andThen]
  rw [Oper.upon_value]
  go_wp2_with fail
  refine hf1.mono ?_
  rintro e w4 ⟨A4, c4, rfl, hc4, hC4, hd4, hO4, _⟩
  rw [List.nil_append] at hd4
  have hs4 := z_string (c := c4) hC4
  generalize outG [] p1 = o1 at *
  obtain ⟨s1, hs1⟩ : ∃ s, strOfNums o1 = s := ⟨_, rfl⟩
  have hz1 : s1.size = o1.length := by rw [← hs1, strOfNums_size]
  rw [hs1] at hs4
  have ho4 := Kd.R_step ho3b (fun k hk hl => hO4.block k hl (fun e => by rcases e with e | e <;> omega))
  have hb4 : Below w.heap.size w w4 := hb3'.trans (hO4.below (fun k hk => by rcases hk with hk | hk <;> omega) (by omega))
  have HF4 := Fill.of_R ho4
  have hown := ho4.1
  have hsz4 := hO4.size
  have S1 := Lib.hid hs1
  clear hf1 hC4 hs1
  go_wp2_with fail
  clear hs4
  go_loopw [9] (fun v9 wr => ∃ i : Nat, v9 = .int .i64 (i : Int) ∧ (i : Int) ≤ n ∧ Fill w4 wr Am p.length cm) (fun v9 _ => match v9 with | .int _ i => (n - i).toNat | _ => 0)
  case atStart => exact ⟨0, rfl, by omega, HF4⟩
  case round =>
    obtain ⟨i, rfl, hi, HF⟩ := hrel
    by_cases hlt : (i : Int) < n
    · obtain ⟨ad, rfl, ⟨u, hu⟩, hfr, hset⟩ := HF.cell (show i < p.length by omega)
      go_wp2_with fail
      go_roundw
      case rel => exact ⟨i + 1, by first | rfl | simp, by omega, hset _⟩
      case measure => simp; omega
    · have hg5 := HF.1
      have hb5 : Below w.heap.size w wr := pw_below_grown hb4 _ hb4.size hg5 (fun k hk => by have := hown k hk; omega)
      have hd5 := hd4.step (fun k hk hl => hg5.block k hl (fun e => by have h1 := hown k e.symm; rcases hk with hk | hk <;> omega))
      have hC5 := Kd.C_of_reads (h1 := fun _ => rfl) (hT2 _ (Kd.reads_of_C (Kd.C_below HP.out hb5)))
      have hsz5 := hg5.size
      have hf2 := feedG_calls _ _ _ p1 p2 A2 (c - n.toNat) wr hd5 hC5 (by omega) hB1 hB2 (HS.out.below hb5) h6 (fun k hk => by rcases hk with hk | hk <;> omega) (by omega) (fun k hk => .inr (by omega))
      clear HF HF4 hd4 hd5 hC5 hg5 ho4 ho3b
      go_wp2_with fail
      refine hf2.mono ?_
      rintro e w6 ⟨A6, c6, rfl, hc6, hC6, hd6, hO6, _⟩
      rw [E0.out] at hd6
      have hs6 := z_string (c := c6) hC6
      generalize outG p1 p2 = o2 at *
      obtain ⟨s2, hs2⟩ : ∃ s, strOfNums o2 = s := ⟨_, rfl⟩
      have hz2 : s2.size = o2.length := by rw [← hs2, strOfNums_size]
      rw [hs2] at hs6
      have S2 := Lib.hid hs2
      have q1 : (9223372036854775807 < s1.size + s2.size) = False := eq_false (by omega)
      have hb6 : Below w.heap.size w w6 := hb5.trans (hO6.below (fun k hk => by rcases hk with hk | hk <;> omega) (by omega))
      have hsz6 := hO6.size
      have hfin := finG_calls _ _ _ p w6 hd6 HB.out (by omega) (HS.out.below hb6)
      clear hs2 hC6 hf2 hd6 hO6
      go_wp2_with fail
      refine hfin.mono ?_
      rintro e w7 ⟨A7, c7, rfl, hc7, hC7, hd7, hg7, _⟩
      have hs7 := z_string (c := c7) hC7
      generalize heldG p = o3 at *
      obtain ⟨s3, hs3⟩ : ∃ s, strOfNums o3 = s := ⟨_, rfl⟩
      have hz3 : s3.size = o3.length := by rw [← hs3, strOfNums_size]
      rw [hs3] at hs7
      have S3 := Lib.hid hs3
      have q2 : (9223372036854775807 < s1.size + s2.size + s3.size) = False := eq_false (by omega)
      have hb7 : Below w.heap.size w w7 := pw_below_grown hb6 _ hb6.size hg7 (by rintro k ⟨⟩; exact hsz1)
      have cP := pass_calls p A c w7 (Kd.C_below HP.out hb7) HB.out (by omega) (HS.out.below hb7)
      have e8 : strOfNums (passL p) = s1 ++ s2 ++ s3 := by rw [← EF.out, z_app, z_app, S1.out, S2.out, S3.out]
      have E8 := Lib.hid e8
      clear hs3 hC7 hfin hd7 e8 hs6
      go_wp2_with fail
      refine cP.mono ?_
      rintro e w8 ⟨u, rfl, ho8, hb8⟩
      obtain ⟨A8, c8, rfl, hc8, hC8⟩ := ho8.reads
      have hs8 := z_string (c := c8) hC8
      rw [E8.out] at hs8
      have hb8' := below_then hb7 hb7.size hb8
      clear ho8 hC8 hs7 cP
      go_wp2_with (first
        | (go_at_call 44; go_loud (refine (gfeed_nil _ _ _ _).mono ?_; rintro e w9 ⟨rfl, rfl⟩))
        | (go_at_call 46; go_loud (refine (gfinish_nil _).mono ?_; rintro e w9 ⟨rfl, rfl⟩))
        | (go_at_call 45; go_loud (refine (gheld_nil _).mono ?_; rintro e w9 ⟨rfl, rfl⟩)))
      go_ret
      exact ⟨rfl, hb8'⟩
end Go.Proofs.YtdpnnglfaofjeaaDoor.Z

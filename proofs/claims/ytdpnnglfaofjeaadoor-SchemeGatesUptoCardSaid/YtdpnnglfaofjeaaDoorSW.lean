import Derived.Test.YtdpnnglfaofjeaaDoorSU
namespace Go.Proofs.YtdpnnglfaofjeaaDoor.Z
open Go.RowKit Go.Lib Go.Proofs.YtdpnnglfaofjeaaDoorW.PrintWords Go.Proofs.YtdpnnglfaofjeaaDoorW.PrintLast Go.Proofs.YtdpnnglfaofjeaaDoorW.PrintMore Go.Proofs.YtdpnnglfaofjeaaDoor.PSc
open Go.Proofs.YtdpnnglfaofjeaaDoor.V (RB RB.of_OB RB.lit only_setCell only_alloc size_set conv_const info5 R_empty)
set_option linter.unusedVariables false
set_option linter.unusedSimpArgs false
set_option maxRecDepth 1000000

def rd2 (xs : List (List Int)) (i : Nat) : List Int := xs.getD i []
theorem at_rows {w : World} {A : Option Addr} {n : Nat} {xs : List (List Int)} (h : Kd.C (Kd.slice 5 (Kd.int .u8)) w A n xs) (i : Nat) (h1 : i < n) : ∃ ad A0 c0, A = some ad ∧ w.cell? (ad.add i) = some (.slice A0 (rd2 xs i).length c0) ∧ (rd2 xs i).length ≤ c0 ∧ (Kd.int .u8).C w A0 (rd2 xs i).length (rd2 xs i) := by
  obtain ⟨ad, c, e, _, hK, hc0⟩ := Kd.C_get h ([] : List Int) (i : Int) (by omega) (by omega)
  rw [Int.toNat_natCast] at hc0 hK
  have hc : ∀ j u, c[j]? = some u → w.cell? (ad.add (i * 1 + j)) = some u := hc0
  obtain ⟨A0, c0, rfl, l0, g0⟩ := hK
  exact ⟨ad, A0, c0, e, by have hq := hc 0 _ rfl; rwa [Nat.mul_one, Nat.add_zero] at hq, l0, g0⟩
theorem rows_small {cs : List (List Int)} (h : ∀ v ∈ cs, ∀ x ∈ v, 0 ≤ x ∧ x ≤ 255) : ∀ i j : Nat, 0 ≤ (rd2 cs i).getD j 0 ∧ (rd2 cs i).getD j 0 ≤ 255 := by
  intro i
  refine bytes_small _ (fun x hx => ?_)
  unfold rd2 at hx
  by_cases hi : i < cs.length
  · rw [List.getD_eq_getElem?_getD, List.getElem?_eq_getElem hi] at hx
    exact h _ (List.getElem_mem hi) x hx
  · rw [List.getD_eq_getElem?_getD, List.getElem?_eq_none (by omega)] at hx
    simp at hx
theorem ones_sum2 (l : List Int) : (l.map fun _ => 1).sum = l.length := by
  induction l with
  | nil => rfl
  | cons a l ih => rw [List.map_cons, List.sum_cons, ih, List.length_cons]; omega
theorem chunk_sum2 (cs : List (List Int)) : cs.flatten.length + cs.length ≤ (cs.map fun l => (l.map fun _ => 1).sum + 1).sum := by
  induction cs with
  | nil => simp
  | cons a cs ih =>
    rw [List.flatten_cons, List.length_append, List.length_cons, List.map_cons, List.sum_cons, ones_sum2]
    omega
theorem flatten_drop2 (cs : List (List Int)) (i : Nat) (h : i < cs.length) : (cs.drop i).flatten.length = (rd2 cs i).length + (cs.drop (i + 1)).flatten.length := by
  rw [List.drop_eq_getElem_cons h, List.flatten_cons, List.length_append]
  simp [rd2, List.getD_eq_getElem?_getD, h, -List.length_flatten]
theorem run_strtail {P : Program} (t : TypeId) (s : ByteArray) (k : Nat) (h : P.underlying t = some .string) (hk : k ≤ s.size) (w : World) :
    (Instr.slice t (.string s) (some (.int .i64 (k : Int))) none none).run P w = .ok (.string (s.extract k s.size)) w := by
  have hi : 0 ≤ (k : Int) ∧ (k : Int) ≤ (s.size : Int) := by omega
  simp [Instr.slice, Instr.sliceBounds, Instr.sliceBound, asIntOf, run_underlying h, hi]
  intro hc
  omega
theorem str_extract (l : List Int) (k : Nat) : (strOfNums l).extract k (strOfNums l).size = strOfNums (l.drop k) := by
  apply ByteArray.ext
  apply Array.toList_inj.1
  rw [strOfNums_size]
  simp [strOfNums_data, ByteArray.data_extract]
  rw [List.take_of_length_le (by simp)]
theorem R_only {F : Nat → Prop} {w w1 : World} {base : Nat} {v : Value} {xs : List Int} (h : Kd.R (Kd.int .u8) 5 w base (fun _ => True) v xs) (hO : Only F w w1) (hv : ∀ k, v.ownBlock = some k → ¬ F k) : Kd.R (Kd.int .u8) 5 w1 base (fun _ => True) v xs :=
  Kd.R_mono (Kd.R_step (Kd.R_of_own (ok := fun k => v.ownBlock = some k) (Kd.own_of_R h) (fun _ h => h)) (fun k hk hl => hO.block k hl (hv k hk))) (fun _ _ => trivial)
/-- A gate g beside a row v of the call's own. -/
def GS (w0 W : World) (g : Nat) (S : List Int) (v : Value) (xs : List Int) : Prop :=
  GateG W (fun k => g ≤ k ∧ some k ≠ v.ownBlock) g g S ∧ Kd.R (Kd.int .u8) 5 W w0.heap.size (fun _ => True) v xs ∧ Below w0.heap.size w0 W ∧ w0.heap.size ≤ g ∧ g < W.heap.size
theorem GateG.bound {W : World} {F : Nat → Prop} {B g : Nat} {S : List Int} (h : GateG W F B g S) : GateG W (fun k => F k ∧ k < W.heap.size) B g S := by
  obtain ⟨hF, v, hg, hr⟩ := h
  exact ⟨⟨hF, blk_lt hg⟩, v, hg, Kd.R_mono (Kd.R_bound hr) (fun k hk => ⟨⟨hk.1.1, hk.2.2.1⟩, hk.1.2⟩)⟩
theorem GS.below {w0 W W1 : World} {g : Nat} {S : List Int} {v : Value} {xs : List Int} (h : GS w0 W g S v xs) (hb : Below W.heap.size W W1) : GS w0 W1 g S v xs :=
  ⟨h.1.below hb, Kd.R_below h.2.1 hb, below_then h.2.2.1 h.2.2.1.size hb, h.2.2.2.1, Nat.lt_of_lt_of_le h.2.2.2.2 hb.size⟩
theorem GS.append {w0 W W1 : World} {g : Nat} {S : List Int} {v v1 : Value} {xs ys : List Int} (h : GS w0 W g S v xs) (ho : Kd.R (Kd.int .u8) 5 W1 w0.heap.size (fun _ => True) v1 ys) (hb : Below w0.heap.size w0 W1) (hg : W.grownBy W1 v.ownBlock)
    (hat : v1.ownBlock = v.ownBlock ∨ ∃ b, v1.ownBlock = some b ∧ W.heap.size ≤ b) : GS w0 W1 g S v1 ys := by
  refine ⟨(h.1.bound.step (fun k hk hl => hg.block k hl hk.1.2)).mono (fun k hk => ⟨hk.1.1, ?_⟩), ho, hb, h.2.2.2.1, Nat.lt_of_lt_of_le h.2.2.2.2 hg.size⟩
  rcases hat with e | ⟨b, e, hbb⟩
  · rw [e]; exact hk.1.2
  · rw [e]; intro e2; injection e2 with e2; have := hk.2; omega
theorem GS.feed {w0 W W1 : World} {g : Nat} {S p : List Int} {v : Value} {xs : List Int} {e : Ending} (h : GS w0 W g S v xs) (hf : FeedG W (fun k => g ≤ k ∧ some k ≠ v.ownBlock) g g S p e W1) :
    ∃ A c, e = .returned (.slice A (outG S p).length c) ∧ (outG S p).length ≤ c ∧ Kd.C (Kd.int .u8) W1 A (outG S p).length (outG S p) ∧ GS w0 W1 g (S ++ p) v xs := by
  obtain ⟨A, c, he, hc, hC, hd, hO, _⟩ := hf
  exact ⟨A, c, he, hc, hC, hd, R_only h.2.1 hO (fun k hk hF => hF.2 hk.symm), h.2.2.1.trans (hO.below (fun k hk => Nat.le_trans h.2.2.2.1 hk.1) h.2.2.1.size), h.2.2.2.1, Nat.lt_of_lt_of_le h.2.2.2.2 hO.size⟩
theorem GS.fin {w0 W W1 : World} {g : Nat} {S : List Int} {v : Value} {xs : List Int} {e : Ending} (h : GS w0 W g S v xs) (hf : FinG W (fun k => g ≤ k ∧ some k ≠ v.ownBlock) g g S e W1) :
    ∃ A c, e = .returned (.slice A (heldG S).length c) ∧ Kd.C (Kd.int .u8) W1 A (heldG S).length (heldG S) ∧ GS w0 W1 g [] (.slice none 0 0) [] := by
  obtain ⟨A, c, he, hc, hC, hd, hg, _⟩ := hf
  exact ⟨A, c, he, hC, hd.mono (fun k hk => ⟨Nat.le_of_eq hk.symm, by simp [Value.ownBlock]⟩), Kd.R_nil _ _ _ _ _, pw_below_grown h.2.2.1 _ h.2.2.1.size hg (by rintro k ⟨⟩; exact h.2.2.2.1), h.2.2.2.1, Nat.lt_of_lt_of_le h.2.2.2.2 hg.size⟩
theorem GS.feeds {w0 W : World} {g : Nat} {S p : List Int} {v : Value} {xs : List Int} (h : GS w0 W g S v xs) (A : Option Addr) (c : Nat) (hp : Kd.C (Kd.int .u8) W A p.length p) (hN : S.length + p.length ≤ 1099511627776)
    (hBs : ∀ j : Nat, 0 ≤ S.getD j 0 ∧ S.getD j 0 ≤ 255) (hBp : ∀ j : Nat, 0 ≤ p.getD j 0 ∧ p.getD j 0 ≤ 255) (hS : SchOK w0) :
    Calls Tryd.prog 44 #[.pointer (some ⟨g, 0, none⟩), .slice A p.length c] W (FeedG W (fun k => g ≤ k ∧ some k ≠ v.ownBlock) g g S p) :=
  feedG_calls _ g g S p A c W h.1 hp hN hBs hBp (hS.below h.2.2.1) (Nat.le_trans hS.six h.2.2.2.1) (fun k hk => hk.1) (Nat.le_of_lt h.2.2.2.2)
    (fun k hk => ⟨Nat.le_trans (Nat.le_of_lt h.2.2.2.2) hk, fun e => by have := Kd.R_lt h.2.1 k e.symm; omega⟩)
theorem app_bytes {s p : List Int} (hBs : ∀ j : Nat, 0 ≤ s.getD j 0 ∧ s.getD j 0 ≤ 255) (hBp : ∀ j : Nat, 0 ≤ p.getD j 0 ∧ p.getD j 0 ≤ 255) : ∀ j : Nat, 0 ≤ (s ++ p).getD j 0 ∧ (s ++ p).getD j 0 ≤ 255 := fun j => by
  by_cases hj : j < s.length
  · rw [getD_app_left _ _ _ hj]; exact hBs j
  · rw [List.getD_eq_getElem?_getD, List.getElem?_append_right (by omega), ← List.getD_eq_getElem?_getD]; exact hBp _
set_option maxHeartbeats 16000000 in
theorem gates_calls (cs : List (List Int)) (es : List Bool) (A A1 : Option Addr) (c c1 : Nat) (w : World) (hp : Kd.C (Kd.slice 5 (Kd.int .u8)) w A cs.length cs) (hc : cs.length ≤ c)
    (hq : Kd.C Kd.bool w A1 es.length es) (hc1 : es.length ≤ c1) (hN : cs.flatten.length + cs.length ≤ 1048576) (hB : ∀ i j : Nat, 0 ≤ (rd2 cs i).getD j 0 ∧ (rd2 cs i).getD j 0 ≤ 255) (hS : SchOK w) :
    Calls Tryd.prog 14 #[.slice A cs.length c, .slice A1 es.length c1] w fun e w' => e = .returned (.bool true) ∧ Below w.heap.size w w' := by
  have HP := Lib.hid hp
  have HQ := Lib.hid hq
  have HS := Lib.hid hS
  have HB := Lib.hid hB
  clear hp hq hS hB
  go_enter Tryd.func14, Tryd.ntmps14
  go_wp2_with fail
  refine (awake5_calls w HS.out).mono ?_
  rintro e w1 ⟨rfl, hb1⟩
  have hsz1 := hb1.size
  go_wp2_with fail
  refine (gnew_calls w1).mono ?_
  rintro e w2 ⟨rfl, hd2, hb2⟩
  have D2 : GS w w2 w1.heap.size [] (.slice none 0 0) [] := by
    refine ⟨?_, Kd.R_nil _ _ _ _ _, below_then hb1 hb1.size hb2, hsz1, hd2.lt⟩
    unfold GateG
    rw [heldG_nil, isG_nil]
    exact hd2.mono (fun k hk => ⟨Nat.le_of_eq hk.symm, by simp [Value.ownBlock]⟩)
  clear hd2
  go_wp2_with fail
  go_loopw [6, 7, 8] (fun v6 v7 v8 wr => ∃ (i : Nat) (S : List Int), v8 = .int .i64 (i : Int) ∧ v7 = .int .i64 ((wantL S).length : Int) ∧ i ≤ cs.length ∧ S.length + (cs.drop i).flatten.length ≤ 1048576 ∧ (∀ j : Nat, 0 ≤ S.getD j 0 ∧ S.getD j 0 ≤ 255) ∧ GS w wr w1.heap.size S v6 S) (fun _ _ v8 _ => match v8 with | .int _ i => cs.length - i.toNat | _ => 0)
  case atStart => exact ⟨0, [], rfl, rfl, Nat.zero_le _, by rw [List.length_nil, List.drop_zero]; omega, by intro j; simp, D2⟩
  case round =>
    obtain ⟨i, S, rfl, rfl, hi, hS, hBS, D3⟩ := hrel
    by_cases hlt : i < cs.length
    · rw [flatten_drop2 cs i hlt] at hS
      obtain ⟨ad, A0, c0, rfl, hcell0, hc0, hC0⟩ := at_rows HP.out i hlt
      have hBc := HB.out i
      have HX : Hid (∀ W : World, Below w.heap.size w W → W.cell? (ad.add i) = some (.slice A0 (rd2 cs i).length c0)) := Lib.hid (fun W hW => (hW.cell (World.block_lt_of_cell? w _ hcell0)).trans hcell0)
      generalize rd2 cs i = ch at hS hcell0 hc0 hC0 HX hBc
      have hcell3 := HX.out _ D3.2.2.1
      have hlt' : (i : Int) < (cs.length : Int) := by omega
      have HC0 := Lib.hid hC0
      clear hcell0 hC0
      go_wp2_with (at_builtin; refine V.appB (w0 := w) rfl _ _ rfl u6 _ _ _ _ _ rfl rfl D3.2.1 (Kd.C_below HC0.out D3.2.2.1) D3.2.2.1 (by omega) ?_; intro v4 w4 ho4 hb4 hg4 hat4; have D4 := D3.append ho4 hb4 hg4 hat4; clear hcell3 D3 ho4 hb4 hg4 hat4)
      -- ROUND BEGIN
      have hl1 : (S ++ ch).length = S.length + ch.length := List.length_append
      have hBS' := app_bytes hBS hBc
      obtain ⟨kw1, kw2⟩ := out_want S ch
      have ko := out_len S ch
      have kzl : (wantL (S ++ ch)).length ≤ S.length + ch.length + 8 := by
        have := pass_length (S ++ ch)
        unfold wantL
        split
        · omega
        · simp
      have hle5 : S.length + ch.length ≤ 1099511627776 := by omega
      have hfeed : ∀ (W : World) (v : Value) (xs : List Int), GS w W w1.heap.size S v xs → Calls Tryd.prog 44 #[.pointer (some ⟨w1.heap.size, 0, none⟩), .slice A0 ch.length c0] W (FeedG W (fun k => w1.heap.size ≤ k ∧ some k ≠ v.ownBlock) w1.heap.size w1.heap.size S ch) :=
        fun W v xs D => D.feeds A0 c0 (Kd.C_below HC0.out D.2.2.1) hle5 hBS hBc HS.out
      have hfd : ∀ (W W1 : World) (v : Value) (xs : List Int) (e : Ending), GS w W w1.heap.size S v xs → FeedG W (fun k => w1.heap.size ≤ k ∧ some k ≠ v.ownBlock) w1.heap.size w1.heap.size S ch e W1 → _ := fun W W1 v xs e D h => D.feed h
      have HFD := Lib.hid hfd
      have HFE := Lib.hid hfeed
      clear hfeed hfd
      generalize outG S ch = o at *
      generalize S ++ ch = S' at *
      have e1 := sure5_ev S' (by omega) (S'.length + 1) (by omega)
      have e2 := pass5_ev S' hBS' (by omega) (S'.length + 1) (by omega)
      have e3 : (if stopped S' = true then blockedB else strOfNums S') = strOfNums (passL S') := by unfold passL; split <;> rfl
      rw [e3] at e2
      have e4 : bobbinref05_Sure.f (S'.length + 1) S' = some (sureG S') := e1
      obtain ⟨sW, hsW⟩ : ∃ y, strOfNums (wantL S') = y := ⟨_, rfl⟩
      obtain ⟨so, hso⟩ : ∃ y, strOfNums o = y := ⟨_, rfl⟩
      have hzW : sW.size = (wantL S').length := by rw [← hsW, strOfNums_size]
      obtain ⟨told, htold⟩ : ∃ n, (wantL S).length = n := ⟨_, rfl⟩
      have hslice : ∀ W : World, (Instr.slice 9 (.string sW) (some (.int .i64 (told : Int))) none none).run Tryd.prog W = .ok (.string so) W := fun W => by
        rw [run_strtail 9 sW told Tryd.underlying9 (by omega), ← hsW, str_extract, ← hso, kw1, htold]
      rw [htold]
      rw [htold] at kw2
      have kz2 := kw2
      have hns : sureG S' = false → S'.length ≤ 16 := fun h => by have := (unsure_iff S').1 h; omega
      have hwt : sureG S' = true → wantL S' = passL S' := fun h => by unfold wantL; rw [h]; simp
      have hwf : sureG S' = false → wantL S' = [] := fun h => by unfold wantL; rw [h]; simp
      have hht : sureG S' = true → heldG S' = [] := fun h => by unfold heldG; rw [h]; simp
      have hhf : sureG S' = false → heldG S' = S' := fun h => by unfold heldG; rw [h]; simp
      have HL := Lib.hid hl1
      have hl1a : S'.length ≤ S.length + ch.length := by omega
      have hl1b : S.length + ch.length ≤ S'.length := by omega
      clear hl1
      have hof : sureG S' = false → so = ⟨#[]⟩ := fun h => by rw [← hso, kw1, hwf h]; simp [strOfNums]
      have HSO := Lib.hid hso
      have HSW := Lib.hid hsW
      have HZW := Lib.hid hzW
      have HNS := Lib.hid hns
      have HBS := Lib.hid hBS'
      have hgt : ¬ ((told : Int) > (sW.size : Int)) := by omega
      clear kw1 htold e1 e3 hso hsW hns hBS' hBS hBc hzW
      obtain ⟨A4, c4, rfl, hc4, hC4⟩ := Kd.R_reads D4.2.1
      have cS := fun (W : World) (hC : Kd.C (Kd.int .u8) W A4 S'.length S') => bobbinref05_Sure.calls (S'.length + 1) A4 c4 S' (sureG S') W hC hc4 e4
      have cS0 := cS _ hC4
      have HCS := Lib.hid cS
      clear cS hC4 e4
      go_wp2_with fail
      refine cS0.mono ?_
      rintro e w5 ⟨rfl, hd5⟩
      have D5 := D4.below hd5.below
      clear cS0 D4 hd5
      cases hs : sureG S'
      · have ew := hwf hs
        have eh := hhf hs
        have hln := HNS.out hs
        rw [hs] at HCS
        have ew2 : sW = ⟨#[]⟩ := by rw [← HSW.out, ew]; rfl
        subst ew2
        have hz : told = 0 := by have : (⟨#[]⟩ : ByteArray).size = 0 := rfl; rw [ew] at kw2; simp at kw2; omega
        subst hz
        have eo := hof hs
        subst eo
        clear ew e2 hwt hwf hht hhf hof hs
        have D6 := D5
        clear D5
        have HEH := Lib.hid eh
        clear eh
        obtain ⟨w6, rfl⟩ : ∃ w6, w5 = w6 := ⟨_, rfl⟩
        have D6d := D6.below (below_drew (Below.refl _ _))
        have hcell6 := HX.out _ D6.2.2.1
        have hcell6d := HX.out _ D6d.2.2.1
        go_wp2_with fail
        go_region_with (go_at_call 44; go_loud (
          refine (HFE.out _ _ _ D6d).mono ?_
          intro e w7 hf7
          obtain ⟨A7, c7, rfl, hc7, hC7, D7⟩ := HFD.out _ _ _ _ _ D6d hf7
          have hs7 := z_string (c := c7) hC7
          rw [HSO.out] at hs7
          clear hf7 hC7 D6 D6d hcell6 hcell6d))
        all_goals (
          have D7d := D7.below (below_drew (Below.refl _ _))
          have cS1 := HCS.out _ (Kd.R_reads' D7.2.1).2.2
          have hC4l := hc4
          go_wp2_with fail
          refine cS1.mono ?_
          rintro e w8 ⟨rfl, hd8⟩
          have D8 := D7.below hd8.below
          clear cS1 D7 D7d hs7
          have cH := heldG_calls _ _ _ _ _ D8.1
          rw [HEH.out] at cH
          by_cases he : i < es.length
          · have he' : (i : Int) < (es.length : Int) := by omega
            obtain ⟨ad1, rfl, hcb⟩ := Kd.at_bool HQ.out (i : Int) (by omega) (by omega)
            rw [Int.toNat_natCast] at hcb
            have hcb8 : w8.cell? (ad1.add i) = some (.bool (rdOf false es (i : Int))) := (D8.2.2.1.cell (World.block_lt_of_cell? w _ hcb)).trans hcb
            clear hcb
            cases hb : rdOf false es (i : Int) with
            | false =>
              rw [hb] at hcb8
              go_wp2_with (go_at_call 45; go_loud (refine cH.mono ?_; rintro e w9 ⟨rfl, rfl⟩))
              go_roundw
              case rel => exact ⟨i + 1, S', by first | rfl | simp, by first | rfl | (rw [← HZW.out]; rfl) | rw [HZW.out], by omega, by omega, HBS.out, D8⟩
              case measure => simp; omega
            | true =>
              rw [hb] at hcb8
              have cS2 := HCS.out _ (Kd.R_reads' D8.2.1).2.2
              go_wp2_with (first
                | (go_at_call 45; go_loud (refine cH.mono ?_; rintro e w9 ⟨rfl, rfl⟩))
                | (go_at_call 43; go_loud (refine cS2.mono ?_; rintro e w10 ⟨rfl, hd10⟩; have D10 := D8.below hd10.below; have hsx := z_string (c := c4) (Kd.R_reads' D10.2.1).2.2; have cF := finG_calls _ _ _ S' _ D10.1 HBS.out (by omega) (HS.out.below D10.2.2.1); clear cS2 D8 cH hcb8))
                | (go_at_call 46; go_loud (refine cF.mono ?_; intro e w11 hf11; obtain ⟨A11, c11, rfl, hC11, D11⟩ := D10.fin hf11; rw [HEH.out] at hC11 ⊢; have hs11 := z_string (c := c11) hC11; clear hf11 cF D10 hC11; have cH : Calls Tryd.prog 45 #[.pointer (some ⟨w1.heap.size, 0, none⟩)] w11 fun e w' => e = .returned (.int .i64 0) ∧ w' = w11 := heldG_calls _ _ _ _ _ D11.1)))
              go_roundw
              case rel => exact ⟨i + 1, [], by first | rfl | simp, rfl, by omega, by rw [List.length_nil]; omega, by intro j; simp, D11⟩
              case measure => simp; omega
          · have he' : ¬ ((i : Int) < (es.length : Int)) := by omega
            go_wp2_with (go_at_call 45; go_loud (refine cH.mono ?_; rintro e w9 ⟨rfl, rfl⟩))
            go_roundw
            case rel => exact ⟨i + 1, S', by first | rfl | simp, by first | rfl | (rw [← HZW.out]; rfl) | rw [HZW.out], by omega, by omega, HBS.out, D8⟩
            case measure => simp; omega)
      · have ew := hwt hs
        have eh := hht hs
        rw [hs] at HCS
        rw [← ew, HSW.out] at e2
        have cP := bobbinref05_Pass.calls (S'.length + 1) A4 c4 S' sW w5 (Kd.R_reads' D5.2.1).2.2 hc4 e2
        clear ew e2 hwt hwf hht hhf hof hs
        go_wp2_with fail
        refine cP.mono ?_
        rintro e w6 ⟨rfl, hb6⟩
        have D6 := D5.below hb6
        clear cP D5 hb6
        have HEH := Lib.hid eh
        clear eh
        have D6d := D6.below (below_drew (Below.refl _ _))
        have hcell6 := HX.out _ D6.2.2.1
        have hcell6d := HX.out _ D6d.2.2.1
        go_wp2_with fail
        go_region_with (go_at_call 44; go_loud (
          refine (HFE.out _ _ _ D6d).mono ?_
          intro e w7 hf7
          obtain ⟨A7, c7, rfl, hc7, hC7, D7⟩ := HFD.out _ _ _ _ _ D6d hf7
          have hs7 := z_string (c := c7) hC7
          rw [HSO.out] at hs7
          clear hf7 hC7 D6 D6d hcell6 hcell6d))
        all_goals (
          have D7d := D7.below (below_drew (Below.refl _ _))
          have cS1 := HCS.out _ (Kd.R_reads' D7.2.1).2.2
          have hC4l := hc4
          go_wp2_with fail
          refine cS1.mono ?_
          rintro e w8 ⟨rfl, hd8⟩
          have D8 := D7.below hd8.below
          clear cS1 D7 D7d hs7
          have cH := heldG_calls _ _ _ _ _ D8.1
          rw [HEH.out] at cH
          clear hgt
          by_cases he : i < es.length
          · have he' : (i : Int) < (es.length : Int) := by omega
            obtain ⟨ad1, rfl, hcb⟩ := Kd.at_bool HQ.out (i : Int) (by omega) (by omega)
            rw [Int.toNat_natCast] at hcb
            have hcb8 : w8.cell? (ad1.add i) = some (.bool (rdOf false es (i : Int))) := (D8.2.2.1.cell (World.block_lt_of_cell? w _ hcb)).trans hcb
            clear hcb
            cases hb : rdOf false es (i : Int) with
            | false =>
              rw [hb] at hcb8
              go_wp2_with (go_at_call 45; go_loud (refine cH.mono ?_; rintro e w9 ⟨rfl, rfl⟩))
              go_roundw
              case rel => exact ⟨i + 1, S', by first | rfl | simp, by first | rfl | (rw [← HZW.out]; rfl) | rw [HZW.out], by omega, by omega, HBS.out, D8⟩
              case measure => simp; omega
            | true =>
              rw [hb] at hcb8
              have cS2 := HCS.out _ (Kd.R_reads' D8.2.1).2.2
              go_wp2_with (first
                | (go_at_call 45; go_loud (refine cH.mono ?_; rintro e w9 ⟨rfl, rfl⟩))
                | (go_at_call 43; go_loud (refine cS2.mono ?_; rintro e w10 ⟨rfl, hd10⟩; have D10 := D8.below hd10.below; have hsx := z_string (c := c4) (Kd.R_reads' D10.2.1).2.2; have cF := finG_calls _ _ _ S' _ D10.1 HBS.out (by omega) (HS.out.below D10.2.2.1); clear cS2 D8 cH hcb8))
                | (go_at_call 46; clear hsx; go_loud (refine cF.mono ?_; intro e w11 hf11; obtain ⟨A11, c11, rfl, hC11, D11⟩ := D10.fin hf11; rw [HEH.out] at hC11 ⊢; have hs11 : (convert 22 9 (.slice A11 0 c11)).run Tryd.prog w11 = .ok (.string ⟨#[]⟩) w11 := z_string (c := c11) hC11; clear hf11 cF D10 hC11; have cH : Calls Tryd.prog 45 #[.pointer (some ⟨w1.heap.size, 0, none⟩)] w11 fun e w' => e = .returned (.int .i64 0) ∧ w' = w11 := heldG_calls _ _ _ _ _ D11.1)))
              go_roundw
              case rel => exact ⟨i + 1, [], by first | rfl | simp, rfl, by omega, by rw [List.length_nil]; omega, by intro j; simp, D11⟩
              case measure => simp; omega
          · have he' : ¬ ((i : Int) < (es.length : Int)) := by omega
            go_wp2_with (go_at_call 45; go_loud (refine cH.mono ?_; rintro e w9 ⟨rfl, rfl⟩))
            go_roundw
            case rel => exact ⟨i + 1, S', by first | rfl | simp, by first | rfl | (rw [← HZW.out]; rfl) | rw [HZW.out], by omega, by omega, HBS.out, D8⟩
            case measure => simp; omega)
      -- ROUND END
    · have hlt' : ¬ ((i : Int) < (cs.length : Int)) := by omega
      go_wp2_with fail
      go_ret
      exact ⟨rfl, D3.2.2.1⟩
end Go.Proofs.YtdpnnglfaofjeaaDoor.Z

import Derived.Test.YtdpnnglfaofjeaaEc
namespace Go.Proofs.Ytdpnnglfaofjeaa.U
open Go.RowKit Go.Shelf Go.Proofs.YtdpnnglfaofjeaaW.PrintWords Go.Proofs.YtdpnnglfaofjeaaW.PrintLast Go.Proofs.YtdpnnglfaofjeaaW.PrintMore
set_option linter.unusedVariables false
set_option linter.unusedSimpArgs false
attribute [local go_sem] Oper.semAt_some

theorem places_get : ∀ (chs : List (List Int)) (n k : Nat), k < chs.length → (PUtf.placesL n chs)[k]? = some ((n + placeN chs k : Nat) : Int)
  | [], n, k, h => by simp at h
  | ch :: t, n, 0, h => by simp [PUtf.placesL, placeN]
  | ch :: t, n, k + 1, h => by
    have := places_get t (n + ch.length) k (by simpa using h)
    simp only [PUtf.placesL, List.getElem?_cons_succ, this]
    unfold placeN
    rw [List.take_succ_cons, List.flatten_cons, List.length_append]
    congr 2
    omega
theorem places_len : ∀ (chs : List (List Int)) (n : Nat), (PUtf.placesL n chs).length = chs.length
  | [], n => rfl
  | ch :: t, n => by simp [PUtf.placesL, places_len t]
theorem rd_places (chs : List (List Int)) (k : Nat) (h : k < chs.length) : rd (PUtf.placesL 0 chs) (k : Int) = (placeN chs k : Int) := by
  have := places_get chs 0 k h
  simp [rd, List.getD_eq_getElem?_getD, this]
theorem rd_runes (chs : List (List Int)) (k : Nat) (h : k < chs.length) : rd (chs.map runeOf) (k : Int) = runeOf (chs.getD k []) := by
  simp [rd, List.getD_eq_getElem?_getD, h]

theorem rune_le {ch : List Int} (h : Form ch) : 0 ≤ runeOf ch ∧ runeOf ch ≤ 2147483647 := by
  rcases h with ⟨x, rfl, h1, h2⟩ | ⟨x, y, rfl, h1, h2, h3, h4⟩ | ⟨x, y, z, rfl, h1, h2, h3, h4, h5, h6, h7, h8⟩ | ⟨x, y, z, u, rfl, h1, h2, h3, h4, h5, h6, h7, h8, h9, h10⟩ <;> simp only [runeOf] <;> omega
set_option maxRecDepth 100000 in
set_option maxHeartbeats 4000000 in
theorem each_law (p : List Int) (A : Option Addr) (c : Nat) (stop : Int) (w : World) (hp : Kd.C (Kd.int .u8) w A p.length p) (hc : p.length ≤ c) (hB : IsB p) (hN : p.length ≤ 1048576) (hs : 0 ≤ stop ∧ stop ≤ 255) :
    Calls Try.prog 8 #[.slice A p.length c, .int .u8 stop] w fun e w' => e = .returned (.bool true) ∧ Below w.heap.size w w' := by
  have hch : ∀ ch ∈ chars p, Form ch := fun ch h => form_of ch (isChar_chars p ch h) ((isB_clean p hB).2 ch h)
  have hcl := Lib.hid (clean_chars p)
  obtain ⟨kr, hkr⟩ := (PUtf.runes_ev p (by omega) hB).rounds
  obtain ⟨kp, hkp⟩ := (PUtf.pieces_ev p (by omega)).rounds
  have BS0 := (Boxed.new w 5 (.int .u8 stop)).alloc (.cells #[.bool false] 4)
  have BR0 := Boxed.new (w.alloc (.cells #[.int .u8 stop] 5)) 4 (.bool false)
  rw [World.size_alloc] at BR0
  have hb0 := ((Below.refl w.heap.size w).alloc (Nat.le_refl _) (.cells #[.int .u8 stop] 5)).alloc (by simp) (.cells #[.bool false] 4)
  refine (callsIn_wide (n := 3)).1 ?_
  refine callsIn_of_wp_marks Try.func8 rfl trivial ?_ rfl
  simp only [Try.ntmps8, List.size_toArray, List.length_cons, List.length_nil, Nat.reduceAdd, Nat.reduceSub, Array.replicate_succ, Array.replicate_zero, List.push_toArray, List.append_toArray, List.nil_append, List.cons_append]
  gi_wp2_with fail
  generalize ((w.alloc (.cells #[.int .u8 stop] 5)).alloc (.cells #[.bool false] 4)) = w0 at *
  refine ⟨trivial, callsIn_wide.2 ?_⟩
  refine (PUtf.bobbinlaw01_awake.calls true _ PUtf.awake_true).mono ?_
  rintro e w1 ⟨rfl, hb1⟩
  have BS1 := Boxed.below BS0 hb1
  have BR1 := Boxed.below BR0 hb1
  have hb1' := below_then hb0 hb0.size hb1
  clear BS0 BR0 hb0 hb1
  gi_wp2_with fail
  refine ⟨trivial, callsIn_wide.2 ?_⟩
  refine (PUtf.bobbinref01_Runes.calls kr A c p _ w1 (Kd.C_below hp hb1') hc hkr).mono ?_
  rintro e w2 ⟨v2, rfl, ho2, hb2⟩
  obtain ⟨AU, cU, rfl, hcU, hCU⟩ := Kd.R_reads ho2
  rw [List.length_map] at hcU hCU
  have BU2 := Boxed.new w2 40 (.slice AU (chars p).length cU)
  have hbx := (Below.refl w2.heap.size w2).alloc (Nat.le_refl _) (.cells #[.slice AU (chars p).length cU] 40)
  have BS2 := Boxed.below (Boxed.below BS1 hb2) hbx
  have BR2 := Boxed.below (Boxed.below BR1 hb2) hbx
  have hb2' := below_then (below_then hb1' hb1'.size hb2) (Nat.le_trans hb1'.size hb2.size) hbx
  have hCU2 := Kd.C_below hCU hbx
  clear BS1 BR1 hb1' hb2 ho2 hCU
  generalize hchs : chars p = chs at *
  gi_wp2_with fail
  have hbUlt : w2.heap.size < (w2.alloc (.cells #[.slice AU chs.length cU] 40)).heap.size := by simp
  generalize (w2.alloc (.cells #[.slice AU chs.length cU] 40)) = wa at *
  generalize w2.heap.size = bU at *
  refine ⟨trivial, callsIn_wide.2 ?_⟩
  refine (PUtf.bobbinref01_Pieces.calls kp A c p _ _ _ wa (Kd.C_below hp hb2') hc hkp).mono ?_
  rintro e w3 ⟨v3, v4, rfl, ho3, ho4, hb3⟩
  obtain ⟨AC, cC, rfl, hcC, hCC⟩ := Kd.R_reads ho3
  obtain ⟨AA, cA, rfl, hcA, hCA⟩ := Kd.R_reads ho4
  rw [places_len] at hcA hCA
  have BC3 := (Boxed.new w3 22 (.slice AC (clean p).length cC)).alloc (.cells #[.slice AA chs.length cA] 40)
  have BA3 := Boxed.new (w3.alloc (.cells #[.slice AC (clean p).length cC] 22)) 40 (.slice AA chs.length cA)
  rw [World.size_alloc] at BA3
  have hbx3 := ((Below.refl w3.heap.size w3).alloc (Nat.le_refl _) (.cells #[.slice AC (clean p).length cC] 22)).alloc (by simp) (.cells #[.slice AA chs.length cA] 40)
  have BS3 := Boxed.below (Boxed.below BS2 hb3) hbx3
  have BR3 := Boxed.below (Boxed.below BR2 hb3) hbx3
  have BU3 := Boxed.below (Boxed.below BU2 hb3) hbx3
  have hCU3 := Kd.C_below (Kd.C_below hCU2 hb3) hbx3
  have hCA3 := Kd.C_below hCA hbx3
  have hb3' := below_then (below_then hb2' hb2'.size hb3) (Nat.le_trans hb2'.size hb3.size) hbx3
  have hbCn : (Value.slice AA (PUtf.placesL 0 chs).length cA) = .slice AA chs.length cA := by rw [places_len]
  rw [hbCn]
  clear BS2 BR2 BU2 hCU2 hCA hb2' hb3 ho3 ho4 hbx hCC hbUlt hbCn
  generalize hcleng : (clean p).length = ncl at *
  gi_wp2_with fail
  have hbClt : w3.heap.size + 1 < ((w3.alloc (.cells #[.slice AC ncl cC] 22)).alloc (.cells #[.slice AA chs.length cA] 40)).heap.size := by simp
  generalize ((w3.alloc (.cells #[.slice AC ncl cC] 22)).alloc (.cells #[.slice AA chs.length cA] 40)) = wb at *
  generalize w3.heap.size = bC at *
  refine ⟨trivial, callsIn_wide.2 ?_⟩
  refine (each_calls p A c wb (Kd.C_below hp hb3') hc (by omega)).mono ?_
  rintro e w4 ⟨Bx, Ae, ce, rfl, hm4, hC4, hBx, hb4⟩
  rw [hcl.out] at hm4 hC4
  have BS4 := Boxed.below BS3 hb4
  have BR4 := Boxed.below BR3 hb4
  have BU4 := Boxed.below BU3 hb4
  have BC4 := Boxed.below BC3 hb4
  have BA4 := Boxed.below BA3 hb4
  have hCU4 := Kd.C_below hCU3 hb4
  have hCA4 := Kd.C_below hCA3 hb4
  have hb4' := below_then hb3' hb3'.size hb4
  have hcN : chs.length ≤ 3145728 := by
    have h1 := clean_len' p
    rw [hcl.out] at h1
    have h2 := flatten_ge chs hch
    omega
  have hncl : chs.flatten.length = ncl := by rw [← hcl.out]; exact hcleng
  clear BS3 BR3 BU3 BC3 BA3 hCU3 hCA3 hb3' hb4 hbx3 hbClt hkr hkp hcleng
  have BN := Boxed.new w4 3 (.int .i64 0)
  have hbN := (Below.refl w4.heap.size w4).alloc (Nat.le_refl _) (.cells #[.int .i64 0] 3)
  have hW : w4.heap.size < (w4.alloc (.cells #[.int .i64 0] 3)).heap.size := by simp
  gi_wp2_with fail
  generalize (w4.alloc (.cells #[.int .i64 0] 3)) = w5 at *
  generalize hbn : w4.heap.size = bN at *
  have hst := each_stops Fence.wide 2 trivial rfl (by decide) Bx ce Ae chs hch w5 (by have := hbN.size; omega) ((hbN.cell (p := ⟨Bx, 0, none⟩) (by omega)).trans hm4) (Kd.C_below hC4 (by rw [hbn]; exact hbN))
  refine wpIn_rangeFunc_ownF rfl (by decide) (gf := 30) (lb := #[.pointer (some ⟨Bx, 0, none⟩)]) rfl trivial (enters_of Try.func30 (by kernel_rfl) rfl) hst walksK_t walksK_b (Below.refl _ _) (fun _ => rfl)
    (fun pre W => Below bN w4 W ∧ Boxed W bN 3 (.int .i64 (pre.length : Int)) ∧ (pre.length : Int) ≤ stop)
    (fun cc pre W => (cc = .ret ∧ ¬ InOrder pre) ∨ (cc = .exit 0 ∧ Below bN w4 W ∧ Boxed W bN 3 (.int .i64 (pre.length : Int)) ∧ (pre.length : Int) = stop + 1))
    (fun s X Y row hs hg hr => by
      obtain ⟨h1, h2, h3⟩ := hs
      exact ⟨h1.grown hg (by have := h1.size; omega) (fun k e => by have := (hr k e).1; omega), Boxed.noncells h2 hg (fun r e => (hr r e).2), h3⟩)
    (fun cc s X Y row hs hg hr => by
      rcases hs with hs | ⟨h0, h1, h2, h3⟩
      · exact .inl hs
      · exact .inr ⟨h0, h1.grown hg (by have := h1.size; omega) (fun k e => by have := (hr k e).1; omega), Boxed.noncells h2 hg (fun r e => (hr r e).2), h3⟩)
    ⟨hbN, BN, by simp; omega⟩
    ?a1 ?assign ?body ?done ?stop
  case assign =>
    intro l x W K hK
    dsimp only [encN]
    gi_wp2
    exact hK
  case body =>
    rintro l pre x W ⟨hBl, hbn2, hps⟩ hlt
    have hfx : Form (chs[x.1]?.getD []) := hch _ (by have := x.2; simp [this])
    have hru := rune_le hfx
    have hBl' : Below w4.heap.size w4 W := by rw [hbn]; exact hBl
    have rU := Kd.C_below hCU4 hBl'
    have rA := Kd.C_below hCA4 hBl'
    obtain ⟨adU, hadU, cU2⟩ := Kd.at_int rU (pre.length : Int) (by omega) (by omega)
    obtain ⟨adA, hadA, cA2⟩ := Kd.at_int rA (pre.length : Int) (by omega) (by omega)
    rw [rd_runes chs pre.length hlt, Int.toNat_natCast, List.getD_eq_getElem?_getD] at cU2
    rw [rd_places chs pre.length hlt, Int.toNat_natCast] at cA2
    have hpk := placeN_le chs hch pre.length hlt
    have hord : InOrder (pre ++ [x]) → (placeN chs x.1 : Int) = (placeN chs pre.length : Int) ∧ runeOf (chs[x.1]?.getD []) = runeOf (chs[pre.length]?.getD []) := fun h => by
      obtain ⟨h1, h2⟩ := h.init
      rw [h2]
      exact ⟨rfl, rfl⟩
    have c1 := hbn2.cell
    have f1 := hbn2.frozen
    have c2 := (Boxed.below BU4 hBl').cell
    have c3 := (Boxed.below BC4 hBl').cell
    have c4 := (Boxed.below BA4 hBl').cell
    have c5 := (Boxed.below BS4 hBl').cell
    have hbR := Boxed.below BR4 hBl'
    have c6 := hbR.cell
    have f6 := hbR.frozen
    have hl1 : (pre ++ [x]).length = pre.length + 1 := by simp
    subst hadU
    subst hadA
    generalize hpx : (placeN chs x.1 : Int) = pl at hord ⊢
    generalize runeOf (chs[x.1]?.getD []) = ru at hord hru ⊢
    generalize runeOf (chs[pre.length]?.getD []) = rk at hord cU2
    generalize placeN chs pre.length = pk at hord cA2 hpk
    by_cases h1 : pl = (pk : Int)
    · by_cases h2 : ru = rk
      · subst h2
        subst h1
        have c5' : (W.setCell ⟨bN, 0, none⟩ (.int .i64 ((pre.length : Int) + 1))).cell? ⟨w.heap.size, 0, none⟩ = some (.int .u8 stop) := (Boxed.other (B' := bN) (Boxed.below BS4 hBl') (by have := BS4.lt; omega) _).cell
        have c1' := (hbn2.set (.int .i64 ((pre.length : Int) + 1))).cell
        by_cases h3 : stop < (pre.length : Int) + 1
        · gi_wp2
          refine ⟨KeepsOthers.setCell _ _ _, .inr ⟨rfl, hBl.setCell (p := ⟨bN, 0, none⟩) (Nat.le_refl _) _, ?_, ?_⟩⟩
          · rw [hl1]; exact hbn2.set _
          · rw [hl1]; omega
        · gi_wp2
          have hKO := KeepsOthers.setCell W ⟨bN, 0, none⟩ (.int .i64 ((pre.length : Int) + 1))
          refine ⟨hKO, hKO.walks, hBl.setCell (p := ⟨bN, 0, none⟩) (Nat.le_refl _) _, ?_, ?_⟩
          · rw [hl1]; exact hbn2.set _
          · rw [hl1]; omega
      · gi_wp2
        exact ⟨KeepsOthers.setCell _ _ _, .inl ⟨rfl, fun h => h2 (hord h).2⟩⟩
    · gi_wp2
      exact ⟨KeepsOthers.setCell _ _ _, .inl ⟨rfl, fun h => h1 (hord h).1⟩⟩
  case done =>
    rintro D ys W hD ⟨hio, hyl⟩ ⟨hBl, hbn2, hps⟩ hK
    rw [hyl] at hbn2 hps
    have hmin : ¬ stop + 1 < (chs.length : Int) := by omega
    have hBl' : Below w4.heap.size w4 W := by rw [hbn]; exact hBl
    have c1 := hbn2.cell
    have c2 := (Boxed.below BU4 hBl').cell
    have c5 := (Boxed.below BS4 hBl').cell
    have hDlt := (Array.getElem?_eq_some_iff.1 hK).1
    have BM := Boxed.new W 3 (.int .i64 0)
    have hbM := (Below.refl W.heap.size W).alloc (Nat.le_refl _) (.cells #[.int .i64 0] 3)
    have hMs : W.heap.size < (W.alloc (.cells #[.int .i64 0] 3)).heap.size := by simp
    gi_wp2_with fail
    generalize (W.alloc (.cells #[.int .i64 0] 3)) = w6 at *
    generalize hbm : W.heap.size = bM at *
    have hb6 : Below w4.heap.size w4 w6 := by rw [hbn]; exact hBl.trans (hbM.mono (by omega))
    have hst2 := each_stops Fence.wide 2 trivial rfl (by decide) Bx ce Ae chs hch w6 (by have := hbM.size; have := hb6.size; omega) ((hb6.cell (p := ⟨Bx, 0, none⟩) (by show Bx < w4.heap.size; omega)).trans hm4) (Kd.C_below hC4 hb6)
    refine wpIn_rangeFunc_ownF rfl (by decide) (gf := 30) (lb := #[.pointer (some ⟨Bx, 0, none⟩)]) rfl trivial (enters_of Try.func30 (by kernel_rfl) rfl) hst2 walksK_t walksK_b (Below.refl _ _) (fun _ => rfl)
      (fun pre X => Below bM W X ∧ Boxed X bM 3 (.int .i64 (pre.length : Int)))
      (fun cc pre X => cc = .ret ∧ ¬ InOrder pre)
      (fun s X Y row hs hg hr => by
        obtain ⟨h1, h2⟩ := hs
        exact ⟨h1.grown hg (by have := h1.size; omega) (fun k e => by have := (hr k e).1; omega), Boxed.noncells h2 hg (fun r e => (hr r e).2)⟩)
      (fun cc s X Y row hs hg hr => hs)
      ⟨hbM, BM⟩
      ?a2 ?assign2 ?body2 ?done2 ?stop2
    case assign2 =>
      intro l x X K hK
      dsimp only [encN]
      gi_wp2
      exact hK
    case body2 =>
      rintro l pre x X ⟨hBx2, hbm2⟩ hlt
      have hb7 : Below w4.heap.size w4 X := by rw [hbn]; exact hBl.trans (hBx2.mono (by omega))
      have rU := Kd.C_below hCU4 hb7
      obtain ⟨adU, hadU, cU2⟩ := Kd.at_int rU (pre.length : Int) (by omega) (by omega)
      rw [rd_runes chs pre.length hlt, Int.toNat_natCast, List.getD_eq_getElem?_getD] at cU2
      have hord : InOrder (pre ++ [x]) → runeOf (chs[x.1]?.getD []) = runeOf (chs[pre.length]?.getD []) := fun h => by
        obtain ⟨h1, h2⟩ := h.init
        rw [h2]
      have hfx : Form (chs[x.1]?.getD []) := hch _ (by have := x.2; simp [this])
      have hru := rune_le hfx
      have c1 := hbm2.cell
      have f1 := hbm2.frozen
      have c2 := (Boxed.below BU4 hb7).cell
      have hbR := Boxed.below BR4 hb7
      have c6 := hbR.cell
      have f6 := hbR.frozen
      have hl1 : (pre ++ [x]).length = pre.length + 1 := by simp
      subst hadU
      generalize runeOf (chs[x.1]?.getD []) = ru at hord hru ⊢
      generalize runeOf (chs[pre.length]?.getD []) = rk at hord cU2
      by_cases h2 : ru = rk
      · subst h2
        gi_wp2
        have hKO := KeepsOthers.setCell X ⟨bM, 0, none⟩ (.int .i64 ((pre.length : Int) + 1))
        refine ⟨hKO, hKO.walks, hBx2.setCell (p := ⟨bM, 0, none⟩) (Nat.le_refl _) _, ?_⟩
        rw [hl1]; exact hbm2.set _
      · gi_wp2
        all_goals first
          | exact ⟨KeepsOthers.setCell _ _ _, rfl, fun h => h2 (hord h)⟩
          | (exfalso; rename_i hx; exact h2 (by simpa using hx.2))
    case done2 =>
      rintro D2 zs X hD2 ⟨hio2, hzl⟩ ⟨hBx2, hbm2⟩ hK2
      rw [hzl] at hbm2
      have hb7 : Below w4.heap.size w4 X := by rw [hbn]; exact hBl.trans (hBx2.mono (by omega))
      have hK1 : X.heap[D]? = some (.deferred (some [])) := (hBx2.block D hDlt).trans hK
      have c1 := hbm2.cell
      have c2 := (Boxed.below BU4 hb7).cell
      have hbR := Boxed.below BR4 hb7
      have c6 := hbR.cell
      have f6 := hbR.frozen
      gi_wp2
      have hDD : D ≠ D2 := by omega
      have hK2' := (KeepsOthers.setCell X ⟨w.heap.size + 1, 0, none⟩ (.bool true)).same D2 _ hK2 rfl
      have hK1' := (KeepsOthers.setCell X ⟨w.heap.size + 1, 0, none⟩ (.bool true)).same D _ hK1 rfl
      have hK1'' := (World.putObj_heap_other (o := .deferred none) hDD).trans hK1'
      refine ⟨by simp, .inl ⟨_, _, rfl, run_takeDeferred hK2', ⟨by simp, .inl ⟨_, _, rfl, run_takeDeferred hK1'', ?_⟩⟩⟩⟩
      have hR8 := hbR.set (.bool true)
      have hk9 := cell_kept hR8.cell (grownBy_putObj' _ D2 (.deferred none)) (fun r e => by cases e; exact ⟨_, hK2', rfl⟩)
      have hk10 := cell_kept hk9 (grownBy_putObj' _ D (.deferred none)) (fun r e => by cases e; exact ⟨_, hK1'', rfl⟩)
      have hbX : Below w.heap.size w X := below_then hb4' hb4'.size hb7
      have hb8 := hbX.setCell (p := ⟨w.heap.size + 1, 0, none⟩) (by show w.heap.size ≤ w.heap.size + 1; omega) (.bool true)
      have hz := hb4'.size
      refine ⟨.bool true, ?_, rfl, (hb8.trans (belowK_b (w := w) (Nat.le_refl _) _ D2 _ _ (by omega) hK2' rfl rfl)).trans (belowK_b (w := w) (Nat.le_refl _) _ D _ _ (by omega) hK1'' rfl rfl)⟩
      simp [results, Try.f8, go_sem, hk10]
    case stop2 =>
      rintro D2 cc pre X _ hSp2 ⟨_, h⟩ _
      exact (h hSp2.1).elim
  case stop =>
    rintro D cc pre0 W hD hSp hIx hK
    rcases hIx with ⟨_, h⟩ | ⟨rfl, hBl, hbn2, hps⟩
    · exact (h hSp.1).elim
    have hle := hSp.2
    rw [hps] at hbn2
    by_cases hmin : stop + 1 < (chs.length : Int)
    · skip
      have hBl' : Below w4.heap.size w4 W := by rw [hbn]; exact hBl
      have c1 := hbn2.cell
      have c2 := (Boxed.below BU4 hBl').cell
      have c5 := (Boxed.below BS4 hBl').cell
      have hDlt := (Array.getElem?_eq_some_iff.1 hK).1
      have BM := Boxed.new W 3 (.int .i64 0)
      have hbM := (Below.refl W.heap.size W).alloc (Nat.le_refl _) (.cells #[.int .i64 0] 3)
      have hMs : W.heap.size < (W.alloc (.cells #[.int .i64 0] 3)).heap.size := by simp
      gi_wp2_with fail
      generalize (W.alloc (.cells #[.int .i64 0] 3)) = w6 at *
      generalize hbm : W.heap.size = bM at *
      have hb6 : Below w4.heap.size w4 w6 := by rw [hbn]; exact hBl.trans (hbM.mono (by omega))
      have hst2 := each_stops Fence.wide 2 trivial rfl (by decide) Bx ce Ae chs hch w6 (by have := hbM.size; have := hb6.size; omega) ((hb6.cell (p := ⟨Bx, 0, none⟩) (by show Bx < w4.heap.size; omega)).trans hm4) (Kd.C_below hC4 hb6)
      refine wpIn_rangeFunc_ownF rfl (by decide) (gf := 30) (lb := #[.pointer (some ⟨Bx, 0, none⟩)]) rfl trivial (enters_of Try.func30 (by kernel_rfl) rfl) hst2 walksK_t walksK_b (Below.refl _ _) (fun _ => rfl)
        (fun pre X => Below bM W X ∧ Boxed X bM 3 (.int .i64 (pre.length : Int)))
        (fun cc pre X => cc = .ret ∧ ¬ InOrder pre)
        (fun s X Y row hs hg hr => by
          obtain ⟨h1, h2⟩ := hs
          exact ⟨h1.grown hg (by have := h1.size; omega) (fun k e => by have := (hr k e).1; omega), Boxed.noncells h2 hg (fun r e => (hr r e).2)⟩)
        (fun cc s X Y row hs hg hr => hs)
        ⟨hbM, BM⟩
        ?a3 ?assign2 ?body2 ?done2 ?stop2
      case assign2 =>
        intro l x X K hK
        dsimp only [encN]
        gi_wp2
        exact hK
      case body2 =>
        rintro l pre x X ⟨hBx2, hbm2⟩ hlt
        have hb7 : Below w4.heap.size w4 X := by rw [hbn]; exact hBl.trans (hBx2.mono (by omega))
        have rU := Kd.C_below hCU4 hb7
        obtain ⟨adU, hadU, cU2⟩ := Kd.at_int rU (pre.length : Int) (by omega) (by omega)
        rw [rd_runes chs pre.length hlt, Int.toNat_natCast, List.getD_eq_getElem?_getD] at cU2
        have hord : InOrder (pre ++ [x]) → runeOf (chs[x.1]?.getD []) = runeOf (chs[pre.length]?.getD []) := fun h => by
          obtain ⟨h1, h2⟩ := h.init
          rw [h2]
        have hfx : Form (chs[x.1]?.getD []) := hch _ (by have := x.2; simp [this])
        have hru := rune_le hfx
        have c1 := hbm2.cell
        have f1 := hbm2.frozen
        have c2 := (Boxed.below BU4 hb7).cell
        have hbR := Boxed.below BR4 hb7
        have c6 := hbR.cell
        have f6 := hbR.frozen
        have hl1 : (pre ++ [x]).length = pre.length + 1 := by simp
        subst hadU
        generalize runeOf (chs[x.1]?.getD []) = ru at hord hru ⊢
        generalize runeOf (chs[pre.length]?.getD []) = rk at hord cU2
        by_cases h2 : ru = rk
        · subst h2
          gi_wp2
          have hKO := KeepsOthers.setCell X ⟨bM, 0, none⟩ (.int .i64 ((pre.length : Int) + 1))
          refine ⟨hKO, hKO.walks, hBx2.setCell (p := ⟨bM, 0, none⟩) (Nat.le_refl _) _, ?_⟩
          rw [hl1]; exact hbm2.set _
        · gi_wp2
          all_goals first
            | exact ⟨KeepsOthers.setCell _ _ _, rfl, fun h => h2 (hord h)⟩
            | (exfalso; rename_i hx; exact h2 (by simpa using hx.2))
      case done2 =>
        rintro D2 zs X hD2 ⟨hio2, hzl⟩ ⟨hBx2, hbm2⟩ hK2
        rw [hzl] at hbm2
        have hb7 : Below w4.heap.size w4 X := by rw [hbn]; exact hBl.trans (hBx2.mono (by omega))
        have hK1 : X.heap[D]? = some (.deferred (some [])) := (hBx2.block D hDlt).trans hK
        have c1 := hbm2.cell
        have c2 := (Boxed.below BU4 hb7).cell
        have hbR := Boxed.below BR4 hb7
        have c6 := hbR.cell
        have f6 := hbR.frozen
        gi_wp2
        have hDD : D ≠ D2 := by omega
        have hK2' := (KeepsOthers.setCell X ⟨w.heap.size + 1, 0, none⟩ (.bool true)).same D2 _ hK2 rfl
        have hK1' := (KeepsOthers.setCell X ⟨w.heap.size + 1, 0, none⟩ (.bool true)).same D _ hK1 rfl
        have hK1'' := (World.putObj_heap_other (o := .deferred none) hDD).trans hK1'
        refine ⟨by simp, .inl ⟨_, _, rfl, run_takeDeferred hK2', ⟨by simp, .inl ⟨_, _, rfl, run_takeDeferred hK1'', ?_⟩⟩⟩⟩
        have hR8 := hbR.set (.bool true)
        have hk9 := cell_kept hR8.cell (grownBy_putObj' _ D2 (.deferred none)) (fun r e => by cases e; exact ⟨_, hK2', rfl⟩)
        have hk10 := cell_kept hk9 (grownBy_putObj' _ D (.deferred none)) (fun r e => by cases e; exact ⟨_, hK1'', rfl⟩)
        have hbX : Below w.heap.size w X := below_then hb4' hb4'.size hb7
        have hb8 := hbX.setCell (p := ⟨w.heap.size + 1, 0, none⟩) (by show w.heap.size ≤ w.heap.size + 1; omega) (.bool true)
        have hz := hb4'.size
        refine ⟨.bool true, ?_, rfl, (hb8.trans (belowK_b (w := w) (Nat.le_refl _) _ D2 _ _ (by omega) hK2' rfl rfl)).trans (belowK_b (w := w) (Nat.le_refl _) _ D _ _ (by omega) hK1'' rfl rfl)⟩
        simp [results, Try.f8, go_sem, hk10]
      case stop2 =>
        rintro D2 cc pre X _ hSp2 ⟨_, h⟩ _
        exact (h hSp2.1).elim
    · have hse : stop + 1 = (chs.length : Int) := by omega
      rw [hse] at hbn2
      clear hps hse
      have hBl' : Below w4.heap.size w4 W := by rw [hbn]; exact hBl
      have c1 := hbn2.cell
      have c2 := (Boxed.below BU4 hBl').cell
      have c5 := (Boxed.below BS4 hBl').cell
      have hDlt := (Array.getElem?_eq_some_iff.1 hK).1
      have BM := Boxed.new W 3 (.int .i64 0)
      have hbM := (Below.refl W.heap.size W).alloc (Nat.le_refl _) (.cells #[.int .i64 0] 3)
      have hMs : W.heap.size < (W.alloc (.cells #[.int .i64 0] 3)).heap.size := by simp
      gi_wp2_with fail
      generalize (W.alloc (.cells #[.int .i64 0] 3)) = w6 at *
      generalize hbm : W.heap.size = bM at *
      have hb6 : Below w4.heap.size w4 w6 := by rw [hbn]; exact hBl.trans (hbM.mono (by omega))
      have hst2 := each_stops Fence.wide 2 trivial rfl (by decide) Bx ce Ae chs hch w6 (by have := hbM.size; have := hb6.size; omega) ((hb6.cell (p := ⟨Bx, 0, none⟩) (by show Bx < w4.heap.size; omega)).trans hm4) (Kd.C_below hC4 hb6)
      refine wpIn_rangeFunc_ownF rfl (by decide) (gf := 30) (lb := #[.pointer (some ⟨Bx, 0, none⟩)]) rfl trivial (enters_of Try.func30 (by kernel_rfl) rfl) hst2 walksK_t walksK_b (Below.refl _ _) (fun _ => rfl)
        (fun pre X => Below bM W X ∧ Boxed X bM 3 (.int .i64 (pre.length : Int)))
        (fun cc pre X => cc = .ret ∧ ¬ InOrder pre)
        (fun s X Y row hs hg hr => by
          obtain ⟨h1, h2⟩ := hs
          exact ⟨h1.grown hg (by have := h1.size; omega) (fun k e => by have := (hr k e).1; omega), Boxed.noncells h2 hg (fun r e => (hr r e).2)⟩)
        (fun cc s X Y row hs hg hr => hs)
        ⟨hbM, BM⟩
        ?a4 ?assign2 ?body2 ?done2 ?stop2
      case assign2 =>
        intro l x X K hK
        dsimp only [encN]
        gi_wp2
        exact hK
      case body2 =>
        rintro l pre x X ⟨hBx2, hbm2⟩ hlt
        have hb7 : Below w4.heap.size w4 X := by rw [hbn]; exact hBl.trans (hBx2.mono (by omega))
        have rU := Kd.C_below hCU4 hb7
        obtain ⟨adU, hadU, cU2⟩ := Kd.at_int rU (pre.length : Int) (by omega) (by omega)
        rw [rd_runes chs pre.length hlt, Int.toNat_natCast, List.getD_eq_getElem?_getD] at cU2
        have hord : InOrder (pre ++ [x]) → runeOf (chs[x.1]?.getD []) = runeOf (chs[pre.length]?.getD []) := fun h => by
          obtain ⟨h1, h2⟩ := h.init
          rw [h2]
        have hfx : Form (chs[x.1]?.getD []) := hch _ (by have := x.2; simp [this])
        have hru := rune_le hfx
        have c1 := hbm2.cell
        have f1 := hbm2.frozen
        have c2 := (Boxed.below BU4 hb7).cell
        have hbR := Boxed.below BR4 hb7
        have c6 := hbR.cell
        have f6 := hbR.frozen
        have hl1 : (pre ++ [x]).length = pre.length + 1 := by simp
        subst hadU
        generalize runeOf (chs[x.1]?.getD []) = ru at hord hru ⊢
        generalize runeOf (chs[pre.length]?.getD []) = rk at hord cU2
        by_cases h2 : ru = rk
        · subst h2
          gi_wp2
          have hKO := KeepsOthers.setCell X ⟨bM, 0, none⟩ (.int .i64 ((pre.length : Int) + 1))
          refine ⟨hKO, hKO.walks, hBx2.setCell (p := ⟨bM, 0, none⟩) (Nat.le_refl _) _, ?_⟩
          rw [hl1]; exact hbm2.set _
        · gi_wp2
          all_goals first
            | exact ⟨KeepsOthers.setCell _ _ _, rfl, fun h => h2 (hord h)⟩
            | (exfalso; rename_i hx; exact h2 (by simpa using hx.2))
      case done2 =>
        rintro D2 zs X hD2 ⟨hio2, hzl⟩ ⟨hBx2, hbm2⟩ hK2
        rw [hzl] at hbm2
        have hb7 : Below w4.heap.size w4 X := by rw [hbn]; exact hBl.trans (hBx2.mono (by omega))
        have hK1 : X.heap[D]? = some (.deferred (some [])) := (hBx2.block D hDlt).trans hK
        have c1 := hbm2.cell
        have c2 := (Boxed.below BU4 hb7).cell
        have hbR := Boxed.below BR4 hb7
        have c6 := hbR.cell
        have f6 := hbR.frozen
        gi_wp2
        have hDD : D ≠ D2 := by omega
        have hK2' := (KeepsOthers.setCell X ⟨w.heap.size + 1, 0, none⟩ (.bool true)).same D2 _ hK2 rfl
        have hK1' := (KeepsOthers.setCell X ⟨w.heap.size + 1, 0, none⟩ (.bool true)).same D _ hK1 rfl
        have hK1'' := (World.putObj_heap_other (o := .deferred none) hDD).trans hK1'
        refine ⟨by simp, .inl ⟨_, _, rfl, run_takeDeferred hK2', ⟨by simp, .inl ⟨_, _, rfl, run_takeDeferred hK1'', ?_⟩⟩⟩⟩
        have hR8 := hbR.set (.bool true)
        have hk9 := cell_kept hR8.cell (grownBy_putObj' _ D2 (.deferred none)) (fun r e => by cases e; exact ⟨_, hK2', rfl⟩)
        have hk10 := cell_kept hk9 (grownBy_putObj' _ D (.deferred none)) (fun r e => by cases e; exact ⟨_, hK1'', rfl⟩)
        have hbX : Below w.heap.size w X := below_then hb4' hb4'.size hb7
        have hb8 := hbX.setCell (p := ⟨w.heap.size + 1, 0, none⟩) (by show w.heap.size ≤ w.heap.size + 1; omega) (.bool true)
        have hz := hb4'.size
        refine ⟨.bool true, ?_, rfl, (hb8.trans (belowK_b (w := w) (Nat.le_refl _) _ D2 _ _ (by omega) hK2' rfl rfl)).trans (belowK_b (w := w) (Nat.le_refl _) _ D _ _ (by omega) hK1'' rfl rfl)⟩
        simp [results, Try.f8, go_sem, hk10]
      case stop2 =>
        rintro D2 cc pre X _ hSp2 ⟨_, h⟩ _
        exact (h hSp2.1).elim
end Go.Proofs.Ytdpnnglfaofjeaa.U

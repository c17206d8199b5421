import Derived.Test.YtdpnnglfaofjeaaEb
namespace Go.Proofs.Ytdpnnglfaofjeaa.U
open Go.RowKit Go.Shelf Go.Proofs.YtdpnnglfaofjeaaW.PrintWords Go.Proofs.YtdpnnglfaofjeaaW.PrintLast Go.Proofs.YtdpnnglfaofjeaaW.PrintMore
set_option linter.unusedVariables false
set_option linter.unusedSimpArgs false
attribute [local go_sem] Oper.semAt_some

theorem R_noncells {W W' : World} {base : Nat} {F : Nat → Prop} {v : Value} {xs : List Int} {row : Option Nat} (h : Kd.R (Kd.int .u8) 5 W base F v xs) (hg : W.grownBy W' row)
    (hr : ∀ r, row = some r → ∃ o : Obj, W.heap[r]? = some o ∧ o.isCells = false) : Kd.R (Kd.int .u8) 5 W' base F v xs := by
  refine Kd.R_grown2 h rfl hg ?_
  intro k hk he
  obtain ⟨o, ho, hoc⟩ := hr k hk
  rcases (Kd.own_of_R h).2 with ⟨h1, _⟩ | ⟨g, cap, cur, h1, _, hg', _⟩
  · rw [h1] at he; simp [Value.ownBlock] at he
  · rw [h1] at he
    simp [Value.ownBlock] at he
    subst he
    rw [ho] at hg'
    injection hg' with e
    subst e
    simp [Obj.isCells] at hoc
theorem Boxed.noncells {W W' : World} {B : Nat} {t : TypeId} {v : Value} {row : Option Nat} (h : Boxed W B t v) (hg : W.grownBy W' row)
    (hr : ∀ r, row = some r → ∃ o : Obj, W.heap[r]? = some o ∧ o.isCells = false) : Boxed W' B t v := by
  refine h.kept hg ?_
  intro e
  obtain ⟨o, ho, hoc⟩ := hr B e.symm
  rw [show W.heap[B]? = _ from h] at ho
  injection ho with e
  subst e
  simp [Obj.isCells] at hoc
theorem Boxed.below {W W' : World} {B : Nat} {t : TypeId} {v : Value} (h : Boxed W B t v) (hb : Below W.heap.size W W') : Boxed W' B t v := (hb.block B h.lt).trans h
theorem R_cells {W : World} {base : Nat} {F : Nat → Prop} {v : Value} {xs : List Int} (h : Kd.R (Kd.int .u8) 5 W base F v xs) : ∀ (j : Nat) (o : Obj), v.ownBlock = some j → W.heap[j]? = some o → o.isCells = true := by
  intro j o hj ho
  rcases (Kd.own_of_R h).2 with ⟨h1, _⟩ | ⟨g, cap, cur, h1, _, hg', _⟩
  · rw [h1] at hj; simp [Value.ownBlock] at hj
  · rw [h1] at hj
    simp [Value.ownBlock] at hj
    subst hj
    rw [ho] at hg'
    injection hg' with e
    subst e
    rfl
def outN (chs : List (List Int)) (pre : List (Nth chs)) : List Int := (pre.map fun k => chs.getD k.1 []).flatten
theorem outN_snoc (chs : List (List Int)) (pre : List (Nth chs)) (x : Nth chs) : outN chs (pre ++ [x]) = outN chs pre ++ chs.getD x.1 [] := by simp [outN]
theorem outN_order (chs : List (List Int)) (pre : List (Nth chs)) (h : InOrder pre) (hl : pre.length ≤ chs.length) : outN chs pre = (chs.take pre.length).flatten := by
  have e : (pre.map fun k => chs.getD k.1 []) = chs.take pre.length := by
    have e1 : (pre.map fun k => chs.getD k.1 []) = (pre.map (·.1)).map fun k => chs.getD k [] := by simp
    rw [e1, h]
    apply List.ext_getElem?
    intro i
    by_cases hi : i < pre.length
    · rw [List.getElem?_map, List.getElem?_range hi, List.getElem?_take_of_lt hi]
      have : i < chs.length := by omega
      simp [List.getD_eq_getElem?_getD, this]
    · rw [List.getElem?_eq_none (by simp; omega), List.getElem?_eq_none (by simp; omega)]
  unfold outN
  rw [e]
theorem InOrder.init {chs : List (List Int)} {pre : List (Nth chs)} {x : Nth chs} (h : InOrder (pre ++ [x])) : InOrder pre ∧ x.1 = pre.length := by
  unfold InOrder at h ⊢
  rw [List.map_append, List.length_append, List.length_singleton, List.range_succ] at h
  have := List.append_inj h (by simp)
  exact ⟨this.1, by simpa using this.2⟩
theorem clean_len' (l : List Int) : (clean l).length ≤ 3 * l.length := by
  have h := run_len l
  unfold clean rest3
  rw [List.length_append]
  split <;> simp [fffd] <;> omega
theorem flatten_ge (chs : List (List Int)) (h : ∀ ch ∈ chs, Form ch) : chs.length ≤ chs.flatten.length := by
  induction chs with
  | nil => simp
  | cons a t ih =>
    have h1 := ih (fun ch hc => h ch (List.mem_cons_of_mem _ hc))
    have h2 := form_pos (h a List.mem_cons_self)
    rw [List.flatten_cons, List.length_append, List.length_cons]
    omega
theorem form_len {ch : List Int} (h : Form ch) : ch.length ≤ 4 := by
  rcases h with ⟨x, rfl, _⟩ | ⟨x, y, rfl, _⟩ | ⟨x, y, z, rfl, _⟩ | ⟨x, y, z, u, rfl, _⟩ <;> simp
set_option maxRecDepth 100000 in
set_option maxHeartbeats 4000000 in
theorem runes_calls (p : List Int) (A : Option Addr) (c : Nat) (w : World) (hp : Kd.C (Kd.int .u8) w A p.length p) (hc : p.length ≤ c) (hB : IsB p) (hN : p.length ≤ 1048576) :
    Calls Try.prog 9 #[.slice A p.length c] w fun e w' => e = .returned (.bool true) ∧ Below w.heap.size w w' := by
  refine (callsIn_wide (n := 3)).1 ?_
  refine callsIn_of_wp_marks Try.func9 rfl trivial ?_ rfl
  simp only [Try.ntmps9, List.size_toArray, List.length_cons, List.length_nil, Nat.reduceAdd, Nat.reduceSub, Array.replicate_succ, Array.replicate_zero, List.push_toArray, List.append_toArray, List.nil_append, List.cons_append]
  have hch : ∀ ch ∈ chars p, Form ch := fun ch h => form_of ch (isChar_chars p ch h) ((isB_clean p hB).2 ch h)
  have hcl := Lib.hid (clean_chars p)
  have B0 := Boxed.new w 4 (.bool false)
  have hb0 := (Below.refl w.heap.size w).alloc (Nat.le_refl _) (.cells #[.bool false] 4)
  gi_wp2_with fail
  refine ⟨trivial, callsIn_wide.2 ?_⟩
  refine (PUtf.bobbinlaw01_awake.calls true _ PUtf.awake_true).mono ?_
  rintro e w1 ⟨rfl, hb1⟩
  have B1 := Boxed.below B0 hb1
  have hb1' := below_then hb0 hb0.size hb1
  clear B0 hb0 hb1
  gi_wp2_with fail
  refine ⟨trivial, callsIn_wide.2 ?_⟩
  refine (clean_calls p A c _ (Kd.C_below hp hb1') hc (by omega)).mono ?_
  rintro e w2 ⟨v2, rfl, ho2, hb2⟩
  have B2 := Boxed.below B1 hb2
  have hb2' := below_then hb1' hb1'.size hb2
  obtain ⟨A2, c2, rfl, hc2, hC2⟩ := Kd.R_reads ho2
  clear B1 hb1' hb2
  have B3 := Boxed.alloc (Boxed.alloc B2 (.cells #[.slice none 0 0] 22)) (.cells #[.int .i64 (-1)] 3)
  have BO := Boxed.alloc (Boxed.new w2 22 (.slice none 0 0)) (.cells #[.int .i64 (-1)] 3)
  have BL := Boxed.new (w2.alloc (.cells #[.slice none 0 0] 22)) 3 (.int .i64 (-1))
  rw [World.size_alloc] at BL
  have hb3 := (hb2'.alloc hb2'.size (.cells #[.slice none 0 0] 22)).alloc (Nat.le_trans hb2'.size (by simp)) (.cells #[.int .i64 (-1)] 3)
  have hsz0 : w.heap.size < w2.heap.size := B2.lt
  have hbb : Below w2.heap.size w2 ((w2.alloc (.cells #[.slice none 0 0] 22)).alloc (.cells #[.int .i64 (-1)] 3)) := ((Below.refl _ _).alloc (Nat.le_refl _) _).alloc (by simp) _
  have ho3 := Kd.R_below ho2 hbb
  gi_wp2_with fail
  generalize hW : ((w2.alloc (.cells #[.slice none 0 0] 22)).alloc (.cells #[.int .i64 (-1)] 3)) = w3 at *
  refine ⟨trivial, callsIn_wide.2 ?_⟩
  refine (each_calls p A c _ (Kd.C_below hp hb3) hc (by omega)).mono ?_
  rintro e w4 ⟨Bx, Ae, ce, rfl, hm4, hC4, hBx, hb4⟩
  rw [hcl.out] at hm4 hC4
  have B4 := Boxed.below B3 hb4
  have BO4 := Boxed.below BO hb4
  have BL4 := Boxed.below BL hb4
  have hb4' := below_then hb3 hb3.size hb4
  have hRc4 := Kd.R_lower (Kd.R_below ho3 hb4) (Nat.zero_le _)
  have hclt := Kd.R_lt hRc4
  have hsz4 : w.heap.size ≤ w4.heap.size := hb4'.size
  have hbOl := BO4.lt
  have hbLl := BL4.lt
  clear B2 B3 BO BL hb2' hC2 ho2 ho3 hbb hb3 hb4 hW
  generalize chars p = chs at hcl hm4 hC4 hch
  gi_wp2_with fail
  have hst := each_stops Fence.wide 2 trivial rfl (by decide) Bx ce Ae chs hch w4 hBx hm4 hC4
  have hcN : chs.length ≤ 3145728 := by
    have h1 := clean_len' p
    rw [hcl.out] at h1
    have h2 := flatten_ge chs hch
    omega
  generalize hbO : w2.heap.size = bO at *
  have hst' := hst
  refine wpIn_rangeFunc_ownF rfl (by decide) (gf := 30) (lb := #[.pointer (some ⟨Bx, 0, none⟩)]) rfl trivial (enters_of Try.func30 (by kernel_rfl) rfl) hst walksK_t walksK_b (Below.refl _ _) (fun _ => rfl)
    (fun pre W => (∃ v, Boxed W bO 22 v ∧ Kd.R (Kd.int .u8) 5 W w4.heap.size (fun _ => True) v (outN chs pre) ∧ (outN chs pre).length ≤ 4 * pre.length ∧ w4.heap.size ≤ W.heap.size) ∧ Kd.R (Kd.int .u8) 5 W 0 (fun _ => True) (.slice A2 (clean p).length c2) (clean p) ∧ (∃ last : Int, Boxed W (bO + 1) 3 (.int .i64 last) ∧ (InOrder pre → pre.length < chs.length → last < (placeN chs pre.length : Int))) ∧ Boxed W w.heap.size 4 (.bool false) ∧ Below w.heap.size w W)
    (fun c pre W => c = .ret ∧ ¬ InOrder pre)
    (fun s X Y row hs hg hr => by
      obtain ⟨⟨v, h1, h2, h3, h3'⟩, hcc, ⟨last, h4, h5⟩, h6, h7⟩ := hs
      have hr' : ∀ r, row = some r → ∃ o : Obj, X.heap[r]? = some o ∧ o.isCells = false := fun r e => (hr r e).2
      exact ⟨⟨v, Boxed.noncells h1 hg hr', R_noncells h2 hg hr', h3, Nat.le_trans h3' hg.size⟩, R_noncells hcc hg hr', ⟨last, Boxed.noncells h4 hg hr', h5⟩, Boxed.noncells h6 hg hr', h7.grown hg h7.size (fun k e => Nat.le_trans hb4'.size (hr k e).1)⟩)
    (fun _ _ _ _ _ hs _ _ => hs)
    ⟨⟨_, BO4, Kd.R_nil _ _ _ _ _, by simp [outN], Nat.le_refl _⟩, hRc4, ⟨_, BL4, fun _ _ => by omega⟩, B4, hb4'⟩
    (fun x => { tmps := #[.slice A p.length c, undef, .pointer (some ⟨w.heap.size, 0, none⟩), .slice A2 (clean p).length c2, .pointer (some ⟨bO, 0, none⟩), .pointer (some ⟨bO + 1, 0, none⟩), .int .i64 (placeN chs x.1 : Int), .int .i32 (runeOf (chs.getD x.1 [])), .bool true, .bool false, .slice A p.length c, .slice A2 (clean p).length c2, .slice A p.length c, .func (.func 30) #[] #[.pointer (some ⟨Bx, 0, none⟩)], .int .i64 (placeN chs x.1 : Int), .int .i32 (runeOf (chs.getD x.1 [])), undef, undef, undef, undef, undef, undef, undef, undef, undef, undef, undef, undef, undef, undef, undef, undef, undef, undef, undef, undef, undef, undef, undef], defers := [] }) ?assign ?body ?done ?stop
  case assign =>
    intro l x W K hK
    dsimp only [encN]
    generalize (placeN chs x.1 : Int) = pl at *
    generalize runeOf (chs.getD x.1 []) = ru at *
    gi_wp2
    exact hK
  case body =>
    rintro l pre x W ⟨⟨v, hbv, hR, hlen, hszW⟩, hRc, ⟨last, hbL, hlast⟩, hbR, hBl⟩ hlt
    have hsn := outN_snoc chs pre x
    have hfx : Form (chs.getD x.1 []) := hch _ (by have := x.2; simp [List.getD_eq_getElem?_getD, this])
    have henc := bytesOf_encode _ hfx
    have hfl := form_len hfx
    have hes : (Utf8.encode (runeOf (chs.getD x.1 []))).size = (chs.getD x.1 []).length := by rw [← bytesOf_length, henc]
    have hord : InOrder (pre ++ [x]) → last < (placeN chs x.1 : Int) ∧ (placeN chs x.1 : Int) = ((outN chs pre).length : Int) ∧ InOrder pre ∧ x.1 = pre.length := fun h => by
      obtain ⟨h1, h2⟩ := h.init
      rw [h2]
      exact ⟨hlast h1 hlt, by rw [outN_order chs pre h1 (by omega)]; rfl, h1, rfl⟩
    have hps := placeN_succ chs x.1 x.2
    have hpos := form_pos hfx
    have hpl : (placeN chs (x.1 + 1) : Int) = (placeN chs x.1 : Int) + ((chs.getD x.1 []).length : Int) := by rw [hps]; simp
    dsimp only
    generalize hpx : (placeN chs x.1 : Int) = pl at hord hpl ⊢
    generalize chs.getD x.1 [] = chx at hsn henc hfl hes hpl hpos ⊢
    generalize runeOf chx = ru at henc hes ⊢
    obtain ⟨Av, cv, rfl⟩ := Kd.R_slice hR
    generalize hou : outN chs pre = ou at hR hlen hsn hord hbv ⊢
    have c1 := hbv.cell
    have c2 := hbL.cell
    have c3 := hbR.cell
    have f1 := hbv.frozen
    have f2 := hbL.frozen
    have f3 := hbR.frozen
    by_cases h1 : pl ≤ last
    · gi_wp2
      refine ⟨KeepsOthers.setCell _ _ _, rfl, fun h => ?_⟩
      have := (hord h).1
      omega
    · by_cases h2 : pl = (ou.length : Int)
      · subst h2
        have hbv2 : Boxed (W.setCell ⟨bO + 1, 0, none⟩ (.int .i64 (ou.length : Int))) bO 22 (.slice Av ou.length cv) := Boxed.other (B' := bO + 1) hbv (by omega) _
        have c4 := hbv2.cell
        have f4 := hbv2.frozen
        have hR2 := Kd.R_set hR hbL (by simp [Kd.int, Kd.scalar]) 0 (.int .i64 (ou.length : Int))
        have hB2 := hBl.setCell (p := ⟨bO + 1, 0, none⟩) (by show w.heap.size ≤ bO + 1; omega) (.int .i64 (ou.length : Int))
        have hsW2 : w4.heap.size ≤ (W.setCell ⟨bO + 1, 0, none⟩ (.int .i64 (ou.length : Int))).heap.size := by rw [size_set]; exact hszW
        have hRc2 := Kd.R_set hRc hbL (by simp [Kd.int, Kd.scalar]) 0 (.int .i64 (ou.length : Int))
        gi_wp2_with (gi_at_builtin; go_loud (refine appS_in w4.heap.size hsW2 rfl _ _ rfl (.slice Av ou.length cv) ou _ rfl rfl hR2 (by omega) ?_; intro v1 w1 ho1 hg1; have hb1 := hB2.grown hg1 hB2.size (fun k hk => Nat.le_trans hsz4 (own_base (Kd.own_of_R hR2) k hk)); have hRc3 := Kd.R_grown2 hRc2 rfl hg1 (fun k hk he => by have h1 := own_base (Kd.own_of_R hR2) k hk; have h2 := hclt k he.symm; omega); have hsW3 := hg1.size; obtain ⟨A1, c1', rfl⟩ := Kd.R_slice ho1; have hbv3 : Boxed w1 bO 22 (.slice Av ou.length cv) := hbv2.kept hg1 (Kd.R_ne hR2 hbv2 (by decide)); have c5 := hbv3.cell; have f5 := hbv3.frozen))
        have hL2 : Boxed (W.setCell ⟨bO + 1, 0, none⟩ (.int .i64 (ou.length : Int))) (bO + 1) 3 (.int .i64 (ou.length : Int)) := hbL.set _
        have hL3 := (hL2.kept hg1 (Kd.R_ne hR2 hL2 (by decide))).other (B' := bO) (by omega) (.slice A1 (ou.length + chx.length) c1')
        have hr2 : Boxed (W.setCell ⟨bO + 1, 0, none⟩ (.int .i64 (ou.length : Int))) w.heap.size 4 (.bool false) := Boxed.other (B' := bO + 1) hbR (by omega) _
        have hr3 := (hr2.kept hg1 (Kd.R_ne hR2 hr2 (by decide))).other (B' := bO) (by omega) (.slice A1 (ou.length + chx.length) c1')
        have hKO := (KeepsOthers.setCell W ⟨bO + 1, 0, none⟩ (.int .i64 (ou.length : Int))).trans ((KeepsOthers.of_grownBy hg1 (R_cells hR2)).trans (KeepsOthers.setCell w1 ⟨bO, 0, none⟩ (.slice A1 (ou.length + chx.length) c1')))
        have hR3 := Kd.R_set ho1 hbv3 (by simp [Kd.int, Kd.scalar]) 0 (.slice A1 (ou.length + chx.length) c1')
        rw [henc] at hR3
        have e1 : (ou ++ chx).length = ou.length + chx.length := List.length_append
        rw [e1] at hR3
        refine ⟨hKO, hKO.walks, ⟨_, hbv3.set _, by rw [hsn]; exact hR3, by rw [hsn, List.length_append, List.length_append, List.length_singleton]; omega, by rw [size_set]; omega⟩, Kd.R_set hRc3 hbv3 (by simp [Kd.int, Kd.scalar]) 0 _, ⟨_, hL3, fun h _ => ?_⟩, hr3, hb1.setCell (p := ⟨bO, 0, none⟩) (by show w.heap.size ≤ bO; omega) _⟩
        rw [List.length_append, List.length_singleton, ← (hord h).2.2.2]
        omega
      · gi_wp2
        refine ⟨KeepsOthers.setCell _ _ _, rfl, fun h => ?_⟩
        exact h2 (hord h).2.1
  case done =>
    rintro D ys W hD ⟨hio, hyl⟩ ⟨⟨v, hbv, hR, hlen, hszW⟩, hRc, ⟨last, hbL, hlast⟩, hbR, hBl⟩ hK
    rw [outN_order chs ys hio (by omega), hyl, List.take_length, ← hcl.out] at hR
    obtain ⟨Av, cv, rfl, hcv, hCv⟩ := Kd.R_reads hR
    have hCc := (Kd.R_reads' hRc).2.2
    obtain ⟨kc, hkc⟩ := (PUtf.ref_clean_ev (clean p) (by have := clean_len' p; omega)).rounds
    rw [clean_idem] at hkc
    have c1 := hbv.cell
    generalize clean p = cp at *
    gi_wp2_with fail
    refine ⟨trivial, callsIn_wide.2 ?_⟩
    refine (PUtf.bobbinlaw01_same.calls Av cv cp A2 c2 cp true W hCv hcv hCc hc2 (by simp [PUtf.bobbinlaw01_same.f])).mono ?_
    rintro e w5 ⟨rfl, hd5⟩
    have hb5 := hd5.below
    gi_wp2_with fail
    refine ⟨trivial, callsIn_wide.2 ?_⟩
    refine (PUtf.bobbinref01_Clean.calls kc A2 c2 cp cp w5 (Kd.C_below hCc hb5) hc2 hkc).mono ?_
    rintro e w6 ⟨v6, rfl, ho6, hb6⟩
    obtain ⟨A6, c6, rfl, hc6, hC6⟩ := Kd.R_reads ho6
    gi_wp2_with fail
    refine ⟨trivial, callsIn_wide.2 ?_⟩
    refine (PUtf.bobbinlaw01_same.calls A6 c6 cp A2 c2 cp true w6 hC6 hc6 (Kd.C_below (Kd.C_below hCc hb5) hb6) hc2 (by simp [PUtf.bobbinlaw01_same.f])).mono ?_
    rintro e w7 ⟨rfl, hd7⟩
    have hbW : Below W.heap.size W w7 := (below_then (below_then hb5 hb5.size hb6) (Nat.le_trans hb5.size hb6.size) hd7.below)
    have hR7 := Boxed.below hbR hbW
    have c7 := hR7.cell
    have f7 := hR7.frozen
    gi_wp2_with fail
    have hK7 := (hbW.block D (Array.getElem?_eq_some_iff.1 hK).1).trans hK
    have hK8 := (KeepsOthers.setCell w7 ⟨w.heap.size, 0, none⟩ (.bool true)).same D _ hK7 rfl
    refine ⟨by simp, .inl ⟨_, _, rfl, run_takeDeferred hK8, ?_⟩⟩
    have hR8 := hR7.set (.bool true)
    have hk9 := cell_kept hR8.cell (grownBy_putObj' _ D (.deferred none)) (fun r e => by cases e; exact ⟨_, hK8, rfl⟩)
    have hb8 := (below_then hBl hBl.size hbW).setCell (p := ⟨w.heap.size, 0, none⟩) (Nat.le_refl _) (.bool true)
    refine ⟨.bool true, ?_, rfl, hb8.trans (belowK_b (w := w) (Nat.le_refl _) _ D _ _ (by omega) hK8 rfl rfl)⟩
    simp [results, Try.f9, go_sem, hk9]
  case stop =>
    rintro D cc pre W _ hSp ⟨_, h⟩ _
    exact (h hSp.1).elim
end Go.Proofs.Ytdpnnglfaofjeaa.U

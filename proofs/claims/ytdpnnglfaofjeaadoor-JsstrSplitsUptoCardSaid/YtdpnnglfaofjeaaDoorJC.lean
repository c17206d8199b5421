import Derived.Test.YtdpnnglfaofjeaaDoorVEa
import Derived.Test.YtdpnnglfaofjeaaDoorJB
import Derived.Maps.AppendAt
import Derived.Stop.RegionWithIn
namespace Go.Proofs.YtdpnnglfaofjeaaDoor.V
open Go.RowKit Go.Shelf Go.Proofs.YtdpnnglfaofjeaaDoorW.PrintWords Go.Proofs.YtdpnnglfaofjeaaDoorW.PrintLast Go.Proofs.YtdpnnglfaofjeaaDoorW.PrintMore
open PJh (unitJ)
set_option linter.unusedVariables false
set_option linter.unusedSimpArgs false
set_option maxRecDepth 100000
attribute [local go_sem] Oper.semAt_some

/-- An append of bytes (one at least) onto a row of the call's own, as a run. -/
theorem run_appB {P : Program} (hu : P.underlying 22 = some (.slice 5)) (hinfo : (P.info? 5).map (fun i => (i.zero, i.size, i.bytes)) = some (some (.int .u8 0), 1, 1)) (w : World) (base : Nat) (ty : TypeId) (v : Value) (xs ys : List Int) (A : Option Addr) (c : Nat) (ok : Nat → Prop)
    (HO : Kd.R (Kd.int .u8) 5 w base ok v xs) (HR : Kd.C (Kd.int .u8) w A ys.length ys) (hy : 0 < ys.length) (hl : xs.length + ys.length ≤ 140737488355328) (hbase : base ≤ w.heap.size) :
    ∃ v1 w1, (Builtin.append_ #[22, 22] ty #[v, .slice A ys.length c]).run P w = .ok v1 w1 ∧ Kd.R (Kd.int .u8) 5 w1 base (fun _ => True) v1 (xs ++ ys) ∧ w.grownBy w1 v.ownBlock := by
  obtain ⟨i0, hi, hz0, hz1, hz2⟩ := info_parts hinfo
  obtain ⟨_, _, hr⟩ := HR
  obtain ⟨ad, rfl, hc⟩ := hr hy
  have HO' := Kd.own_of_R HO
  have hnews : ∀ j u, (nums .u8 ys)[j]? = some u → w.cell? (ad.add j) = some u := by
    intro j u hu
    obtain ⟨cs, h1, h2, h3⟩ := hc j (ys.getD j 0) (by
      have hj : j < ys.length := by have := (List.getElem?_eq_some_iff.1 hu).1; simpa [nums] using this
      simp [List.getD_eq_getElem?_getD, hj])
    have hj : j < ys.length := by have := (List.getElem?_eq_some_iff.1 hu).1; simpa [nums] using this
    have h4 := h3 0 (Value.int .u8 (ys.getD j 0)) (by
      have : cs = [Value.int .u8 (ys.getD j 0)] := h2
      rw [this]; rfl)
    have e1 : u = Value.int .u8 (ys.getD j 0) := by
      simp [nums, hj] at hu
      simp [List.getD_eq_getElem?_getD, hj, ← hu]
    rw [e1]
    simpa [Kd.int, Kd.scalar] using h4
  obtain ⟨v1, w1, hrun, hown, hg, _, hat⟩ := run_append_own_at (P := P) (w := w) base 22 ty 5 i0 (.int .u8 0) 1 1 hu hi hz0 hz1 hz2 rfl (by decide) v xs.length _ HO' ad ys.length c (nums .u8 ys) (by simp [nums]) hnews
    (by intro u hu; simp [nums] at hu; obtain ⟨a, _, rfl⟩ := hu; rfl) (by simp only [maxLen]; omega) (by omega) hbase
  refine ⟨v1, w1, hrun, Kd.R_of_own (enc := Value.int .u8) (h1 := fun _ => rfl) ?_ (fun _ _ => trivial), hg⟩
  have e2 : (xs ++ ys).length = xs.length + ys.length := List.length_append
  have e3 : encs (Value.int .u8) (xs ++ ys) = encs (Value.int .u8) xs ++ nums .u8 ys := by rw [encs_append]; rfl
  rw [e2, e3]
  exact hown

theorem ite_len {c : Prop} {_ : Decidable c} {a b : List Int} (ha : 0 < a.length ∧ a.length ≤ 6) (hb : 0 < b.length ∧ b.length ≤ 6) : 0 < (if c then a else b).length ∧ (if c then a else b).length ≤ 6 := by
  split
  · exact ha
  · exact hb
theorem encode_len (r : Int) : 0 < (Lib.encodeRuneZ r).length ∧ (Lib.encodeRuneZ r).length ≤ 6 := by
  unfold Lib.encodeRuneZ
  exact ite_len (by simp) (ite_len (by simp) (ite_len (by simp) (ite_len (by simp) (by simp))))
theorem unitJ_len (r : Int) : 0 < (unitJ r).length ∧ (unitJ r).length ≤ 6 := by
  unfold unitJ
  exact ite_len (by simp) (ite_len (by simp) (ite_len (by simp) (ite_len (by simp) (ite_len (by simp) (ite_len (by simp) (ite_len (by simp) (ite_len (by simp) (encode_len r))))))))
theorem rune_le {ch : List Int} (h : Form ch) : 0 ≤ runeOf ch ∧ runeOf ch ≤ 2097151 := by
  refine ⟨rune_pos h, ?_⟩
  rcases h with ⟨x, rfl, h1, h2⟩ | ⟨x, y, rfl, h1, h2, h3, h4⟩ | ⟨x, y, z, rfl, h1, h2, h3, h4, h5, h6, h7, h8⟩ | ⟨x, y, z, u, rfl, h1, h2, h3, h4, h5, h6, h7, h8, h9, h10⟩ <;> simp only [runeOf] <;> omega
def UnitIs (w : World) (l : List Int) (e : Ending) (w' : World) : Prop := ∃ A c, e = .returned (.slice A l.length c) ∧ Kd.C (Kd.int .u8) w' A l.length l ∧ Below w.heap.size w w'
theorem unitj_calls (r : Int) (h0 : -2147483648 ≤ r) (h1 : r ≤ 2147483647) (w : World) (h : U.TabOK w) : Calls Tryd.prog 33 #[.int .i32 r] w (UnitIs w (unitJ r)) := by
  obtain ⟨k, hk⟩ := (PJh.unit_ev r h0 h1).rounds
  refine (PJh.jsstr_Unit.calls k r _ w hk h).mono ?_
  rintro e w' ⟨v, rfl, ⟨A, c, rfl, hc, hF⟩, hb⟩
  exact ⟨A, c, rfl, Kd.F_now hF, hb⟩
def outJ (chs : List (List Int)) (pre : List (Nth chs)) : List Int := pre.flatMap fun k => unitJ (runeOf (chs.getD k.1 []))
theorem outJ_snoc (chs : List (List Int)) (pre : List (Nth chs)) (x : Nth chs) : outJ chs (pre ++ [x]) = outJ chs pre ++ unitJ (runeOf (chs.getD x.1 [])) := by simp [outJ, List.flatMap_append]
theorem outJ_order (chs : List (List Int)) (pre : List (Nth chs)) (h : InOrder pre) (hl : pre.length ≤ chs.length) : outJ chs pre = (chs.take pre.length).flatMap fun ch => unitJ (runeOf ch) := by
  have e : (pre.map fun k => chs.getD k.1 []) = chs.take pre.length := by
    have e1 : (pre.map fun k => chs.getD k.1 []) = (pre.map (·.1)).map fun k => chs.getD k [] := by simp
    rw [e1, h]
    apply List.ext_getElem?
    intro i
    by_cases hi : i < pre.length
    · rw [List.getElem?_map, List.getElem?_range hi, List.getElem?_take_of_lt hi]
      have : i < chs.length := by omega
      simp [List.getD_eq_getElem?_getD, this]
    · rw [List.getElem?_eq_none (by simp; omega), List.getElem?_eq_none (by simp; omega)]
  unfold outJ
  rw [← e, List.flatMap_map]
def textJ (l : List Int) : List Int := (chars l).flatMap fun ch => unitJ (runeOf ch)
def TextIs (w : World) (l : List Int) (e : Ending) (w' : World) : Prop := ∃ v, e = .returned v ∧ Kd.R (Kd.int .u8) 5 w' w.heap.size (fun _ => True) v l ∧ Below w.heap.size w w'
section
variable {F : Fence} {n : Nat} {P : Program} {ops : Array Oper} {o : Oper} {a : Act} {Q : Exit → Act → World → Prop} {K : Act → World → Prop}
/-- An append as a step of a region, in a fence. -/
theorem appB_stepIn {W w1 : World} (hw : Region.wanted o (yielded ops a.tmps) = true) (s x : Operand) (ho : o.op = .call { callee := .builtin .append, args := #[s, x], argTypes := #[22, 22] }) (v v2 v1 : Value) (hs : a.eval s = v) (hx : a.eval x = v2)
    (hrun : (Builtin.append_ #[22, 22] o.type #[v, v2]).run P W = .ok v1 w1) (h : K (a.put o.dst v1) w1) :
    if Region.wanted o (yielded ops a.tmps) = true then Oper.wpIn F n P o a W K Q else (∀ f, o.about P W a.eval = some f → F.fn f) ∧ K (a.put o.dst undef) W := by
  rw [if_pos hw]
  unfold Oper.wpIn
  refine ⟨?_, ?_⟩
  · simp [Oper.about, ho, resolve, Target.leads, Sem.run_pure]
  · rw [Oper.semAt_plain F _ _ (by rw [ho]; intro c hc'; cases hc')]
    unfold execOp
    simp only [ho, resolve, invoke, builtin, Sem.run_bind, Sem.run_pure, Result.andThen_ok, List.map_toArray, List.map_cons, List.map_nil, hs, hx, hrun]
    exact h
end
set_option maxHeartbeats 4000000 in
theorem textj_calls (p : List Int) (A : Option Addr) (c : Nat) (w : World) (hp : Kd.C (Kd.int .u8) w A p.length p) (hc : p.length ≤ c) (hB : IsB p) (hN : p.length ≤ 1099511627776) (hT : U.TabOK w) :
    Calls Tryd.prog 31 #[.slice A p.length c] w (TextIs w (textJ p)) := by
  refine (callsIn_wide (n := 3)).1 ?_
  refine callsIn_of_wp_marks Tryd.func31 rfl trivial ?_ rfl
  simp only [Tryd.ntmps31, List.size_toArray, List.length_cons, List.length_nil, Nat.reduceAdd, Nat.reduceSub, Array.replicate_succ, Array.replicate_zero, List.push_toArray, List.append_toArray, List.nil_append, List.cons_append]
  have hch : ∀ ch ∈ chars p, Form ch := fun ch h => form_of ch (isChar_chars p ch h) ((isB_clean p hB).2 ch h)
  have hcl := Lib.hid (clean_chars p)
  have B0 := Boxed.new w 22 (.slice none 0 0)
  have hb0 := (Below.refl w.heap.size w).alloc (Nat.le_refl _) (.cells #[.slice none 0 0] 22)
  gi_wp2_with fail
  refine ⟨trivial, callsIn_wide.2 ?_⟩
  refine (each_calls p A c _ (Kd.C_below hp hb0) hc (by omega)).mono ?_
  rintro e w4 ⟨Bx, Ae, ce, rfl, hm4, hC4, hBx, hb4⟩
  rw [hcl.out] at hm4 hC4
  have B4 := Boxed.below B0 hb4
  have hb4' := below_then hb0 hb0.size hb4
  have hsz4 : w.heap.size ≤ w4.heap.size := hb4'.size
  have hbO := B4.lt
  clear B0 hb0 hb4
  have hcN : chars p = chars p := rfl
  have hlen4 : (chars p).length ≤ 3298534883328 := by
    have h1 := clean_len' p
    rw [hcl.out] at h1
    have h2 := flatten_ge (chars p) hch
    omega
  clear hcN
  obtain ⟨chs, hcp⟩ : ∃ chs, chars p = chs := ⟨_, rfl⟩
  rw [hcp] at hcl hm4 hC4 hch hlen4
  have HCP := Lib.hid hcp
  clear hcp
  gi_wp2_with fail
  have hst := each_stops Fence.wide 2 trivial rfl (by decide) Bx ce Ae chs hch w4 hBx hm4 hC4
  refine wpIn_rangeFunc_ownF rfl (by decide) (gf := 82) (lb := #[.pointer (some ⟨Bx, 0, none⟩)]) rfl trivial (enters_of Tryd.func82 (by kernel_rfl) rfl) hst walksK_t walksK_b (Below.refl _ _) (fun _ => rfl)
    (fun pre W => (∃ v, Boxed W w.heap.size 22 v ∧ Kd.R (Kd.int .u8) 5 W w4.heap.size (fun _ => True) v (outJ chs pre) ∧ (outJ chs pre).length ≤ 6 * pre.length ∧ w4.heap.size ≤ W.heap.size) ∧ Below w.heap.size w W)
    (fun c pre W => False)
    (fun s X Y row hs hg hr => by
      obtain ⟨⟨v, h1, h2, h3, h3'⟩, h7⟩ := hs
      have hr' : ∀ r, row = some r → ∃ o : Obj, X.heap[r]? = some o ∧ o.isCells = false := fun r e => (hr r e).2
      exact ⟨⟨v, Boxed.noncells h1 hg hr', R_noncells h2 hg hr', h3, Nat.le_trans h3' hg.size⟩, h7.grown hg h7.size (fun k e => Nat.le_trans hb4'.size (hr k e).1)⟩)
    (fun _ _ _ _ _ hs _ _ => hs)
    ⟨⟨_, B4, Kd.R_nil _ _ _ _ _, by simp [outJ], Nat.le_refl _⟩, hb4'⟩
    (fun x => { tmps := #[.slice A p.length c, undef, .slice none 0 0, .pointer (some ⟨w.heap.size, 0, none⟩), undef, .int .i32 (runeOf (chs.getD x.1 [])), .slice A p.length c, .func (.func 82) #[] #[.pointer (some ⟨Bx, 0, none⟩)], .int .i64 (placeN chs x.1 : Int), .int .i32 (runeOf (chs.getD x.1 [])), undef, undef, undef, undef, undef], defers := [] }) ?assign ?body ?done ?stop
  case assign =>
    intro l x W K hK
    dsimp only [encN]
    generalize (placeN chs x.1 : Int) = pl at *
    generalize runeOf (chs.getD x.1 []) = ru at *
    gi_wp2
    exact hK
  case body =>
    rintro l pre x W ⟨⟨v, hbv, hR, hlen, hszW⟩, hBl⟩ hlt
    have hsn := outJ_snoc chs pre x
    have hfx : Form (chs.getD x.1 []) := hch _ (by have := x.2; simp [List.getD_eq_getElem?_getD, this])
    have hrl := rune_le hfx
    have hul := unitJ_len (runeOf (chs.getD x.1 []))
    generalize (placeN chs x.1 : Int) = pl
    generalize runeOf (chs.getD x.1 []) = ru at hsn hrl hul ⊢
    obtain ⟨Av, cv, rfl⟩ := Kd.R_slice hR
    generalize hou : outJ chs pre = ou at hR hlen hsn hbv ⊢
    have c1 := hbv.cell
    have f1 := hbv.frozen
    have HS := Lib.hid hsn
    have HO := Lib.hid hou
    clear hsn hou
    gi_wp2_with fail
    refine wpIn_region_any (by kernel_rfl) ?_
    change wpAnyIn _ _ _ _ _ _ _ _ _ (World.drew _)
    have fin : ∀ (w5 : World) (A5 : Option Addr) (c5 : Nat), Kd.C (Kd.int .u8) w5 A5 (unitJ ru).length (unitJ ru) → Below W.drew.heap.size W.drew w5 →
        ∃ A6 c6 w6, (Builtin.append_ #[22, 22] 22 #[.slice Av ou.length cv, .slice A5 (unitJ ru).length c5]).run Tryd.prog w5 = .ok (.slice A6 (ou.length + (unitJ ru).length) c6) w6 ∧ Boxed w6 w.heap.size 22 (.slice Av ou.length cv) ∧
          (KeepsOthers W (w6.setCell ⟨w.heap.size, 0, none⟩ (.slice A6 (ou.length + (unitJ ru).length) c6)) ∧ KeepsWalks W (w6.setCell ⟨w.heap.size, 0, none⟩ (.slice A6 (ou.length + (unitJ ru).length) c6)) ∧
          (∃ v, Boxed (w6.setCell ⟨w.heap.size, 0, none⟩ (.slice A6 (ou.length + (unitJ ru).length) c6)) w.heap.size 22 v ∧ Kd.R (Kd.int .u8) 5 (w6.setCell ⟨w.heap.size, 0, none⟩ (.slice A6 (ou.length + (unitJ ru).length) c6)) w4.heap.size (fun _ => True) v (outJ chs (pre ++ [x])) ∧
            (outJ chs (pre ++ [x])).length ≤ 6 * (pre ++ [x]).length ∧ w4.heap.size ≤ (w6.setCell ⟨w.heap.size, 0, none⟩ (.slice A6 (ou.length + (unitJ ru).length) c6)).heap.size) ∧ Below w.heap.size w (w6.setCell ⟨w.heap.size, 0, none⟩ (.slice A6 (ou.length + (unitJ ru).length) c6))) := by
      intro w5 A5 c5 hC5 hb5
      have hbd : Below W.heap.size W w5 := below_then (below_drew (Below.refl W.heap.size W)) (Nat.le_refl _) hb5
      have hbv5 := Boxed.below hbv hbd
      have hR5 := Kd.R_below hR hbd
      obtain ⟨v6, w6, hrun6, ho6, hg6⟩ := run_appB (P := Tryd.prog) Tryd.underlying22 U.info5 w5 w4.heap.size 22 _ _ _ A5 c5 _ hR5 hC5 hul.1 (by omega) (Nat.le_trans hszW hbd.size)
      obtain ⟨A6, c6, rfl⟩ := Kd.R_slice ho6
      have e1 : (ou ++ unitJ ru).length = ou.length + (unitJ ru).length := List.length_append
      rw [e1] at ho6 hrun6
      have hbv6 : Boxed w6 w.heap.size 22 (.slice Av ou.length cv) := hbv5.kept hg6 (Kd.R_ne hR5 hbv5 (by decide))
      have hKO := ((KeepsOthers.of_grownBy (grown_of_below hbd none) (fun j o h => by cases h)).trans (KeepsOthers.of_grownBy hg6 (R_cells hR5))).trans (KeepsOthers.setCell w6 ⟨w.heap.size, 0, none⟩ (.slice A6 (ou.length + (unitJ ru).length) c6))
      have hb6 := (below_then hBl hBl.size hbd).grown hg6 (Nat.le_trans hBl.size hbd.size) (fun k hk => Nat.le_trans hsz4 (own_base (Kd.own_of_R hR5) k hk))
      refine ⟨A6, c6, w6, hrun6, hbv6, hKO, hKO.walks, ⟨_, hbv6.set _, ?_, ?_, ?_⟩, hb6.setCell (p := ⟨w.heap.size, 0, none⟩) (Nat.le_refl _) _⟩
      · rw [HS.out]
        exact Kd.R_set ho6 hbv6 (by simp [Kd.int, Kd.scalar]) 0 _
      · rw [HS.out, List.length_append, List.length_append, List.length_singleton]
        omega
      · rw [size_set]
        have := hg6.size
        have := hbd.size
        omega
    have FIN := Lib.hid fin
    clear fin HS HO hR hlen
    refine wpAnyIn_ready (rs := [0, 1]) (by kernel_rfl) (by simp) (AllReadyIn.cons rfl (fun K hK => ?_) (AllReadyIn.cons rfl (fun K hK => ?_) AllReadyIn.nil))
    all_goals go_simp
    · refine hK _ _ ?_
      clear hK K
      refine wpAnyIn_ready (rs := [1]) (by kernel_rfl) (by simp) (AllReadyIn.cons rfl (fun K hK => ?_) AllReadyIn.nil)
      go_simp
      refine hK _ _ ?_
      clear hK K
      refine wpAnyIn_ready (rs := [2]) (by kernel_rfl) (by simp) (AllReadyIn.cons rfl (fun K hK => ?_) AllReadyIn.nil)
      go_simp
      refine ⟨trivial, ?_⟩
      refine (CallsIn.inRound l (callsIn_wide.2 (unitj_calls ru (by omega) (by omega) W.drew (hT.below (below_drew hBl))))).mono ?_
      rintro e w5 ⟨A5, c5, rfl, hC5, hb5⟩
      refine hK _ _ ?_
      clear hK K
      obtain ⟨A6, c6, w6, hrun6, hbv6, hfin⟩ := FIN.out w5 A5 c5 hC5 hb5
      have hbd5 : Below W.heap.size W w5 := below_then (below_drew (Below.refl W.heap.size W)) (Nat.le_refl _) hb5
      have c5' := (Boxed.below hbv hbd5).cell
      have HF := Lib.hid hfin
      clear hfin hC5 hbd5
      clear c5'
      refine wpAnyIn_ready (rs := [3]) (by kernel_rfl) (by simp) (AllReadyIn.cons rfl (fun K hK => ?_) AllReadyIn.nil)
      refine appB_stepIn (by rfl) (.tmp 10) (.tmp 12) (by rfl) _ _ _ (by rfl) (by rfl) hrun6 ?_
      refine hK _ _ ?_
      clear hK K hrun6
      simp only [Act.put, List.setIfInBounds_toArray, List.set_cons_zero, List.set_cons_succ]
      have c6' := hbv6.cell
      have f6' := hbv6.frozen
      refine wpAnyIn_ready (rs := [4]) (by kernel_rfl) (by simp) (AllReadyIn.cons rfl (fun K hK => ?_) AllReadyIn.nil)
      go_simp
      refine hK _ _ ?_
      clear hK K
      refine wpAnyIn_done (by kernel_rfl) ?_ _
      gi_wp2
      exact HF.out
    · refine hK _ _ ?_
      clear hK K
      refine wpAnyIn_ready (rs := [0, 2]) (by kernel_rfl) (by simp) (AllReadyIn.cons rfl (fun K hK => ?_) (AllReadyIn.cons rfl (fun K hK => ?_) AllReadyIn.nil))
      all_goals go_simp
      · refine hK _ _ ?_
        clear hK K
        refine wpAnyIn_ready (rs := [2]) (by kernel_rfl) (by simp) (AllReadyIn.cons rfl (fun K hK => ?_) AllReadyIn.nil)
        go_simp
        refine ⟨trivial, ?_⟩
        refine (CallsIn.inRound l (callsIn_wide.2 (unitj_calls ru (by omega) (by omega) W.drew (hT.below (below_drew hBl))))).mono ?_
        rintro e w5 ⟨A5, c5, rfl, hC5, hb5⟩
        refine hK _ _ ?_
        clear hK K
        obtain ⟨A6, c6, w6, hrun6, hbv6, hfin⟩ := FIN.out w5 A5 c5 hC5 hb5
        have hbd5 : Below W.heap.size W w5 := below_then (below_drew (Below.refl W.heap.size W)) (Nat.le_refl _) hb5
        have c5' := (Boxed.below hbv hbd5).cell
        have HF := Lib.hid hfin
        clear hfin hC5 hbd5
        clear c5'
        refine wpAnyIn_ready (rs := [3]) (by kernel_rfl) (by simp) (AllReadyIn.cons rfl (fun K hK => ?_) AllReadyIn.nil)
        refine appB_stepIn (by rfl) (.tmp 10) (.tmp 12) (by rfl) _ _ _ (by rfl) (by rfl) hrun6 ?_
        refine hK _ _ ?_
        clear hK K hrun6
        simp only [Act.put, List.setIfInBounds_toArray, List.set_cons_zero, List.set_cons_succ]
        have c6' := hbv6.cell
        have f6' := hbv6.frozen
        refine wpAnyIn_ready (rs := [4]) (by kernel_rfl) (by simp) (AllReadyIn.cons rfl (fun K hK => ?_) AllReadyIn.nil)
        go_simp
        refine hK _ _ ?_
        clear hK K
        refine wpAnyIn_done (by kernel_rfl) ?_ _
        gi_wp2
        exact HF.out
      · refine ⟨trivial, ?_⟩
        refine (CallsIn.inRound l (callsIn_wide.2 (unitj_calls ru (by omega) (by omega) W.drew (hT.below (below_drew hBl))))).mono ?_
        rintro e w5 ⟨A5, c5, rfl, hC5, hb5⟩
        refine hK _ _ ?_
        clear hK K
        obtain ⟨A6, c6, w6, hrun6, hbv6, hfin⟩ := FIN.out w5 A5 c5 hC5 hb5
        have hbd5 : Below W.heap.size W w5 := below_then (below_drew (Below.refl W.heap.size W)) (Nat.le_refl _) hb5
        have c5' := (Boxed.below hbv hbd5).cell
        have HF := Lib.hid hfin
        clear hfin hC5 hbd5
        refine wpAnyIn_ready (rs := [0]) (by kernel_rfl) (by simp) (AllReadyIn.cons rfl (fun K hK => ?_) AllReadyIn.nil)
        go_simp
        refine hK _ _ ?_
        clear hK K
        clear c5'
        refine wpAnyIn_ready (rs := [3]) (by kernel_rfl) (by simp) (AllReadyIn.cons rfl (fun K hK => ?_) AllReadyIn.nil)
        refine appB_stepIn (by rfl) (.tmp 10) (.tmp 12) (by rfl) _ _ _ (by rfl) (by rfl) hrun6 ?_
        refine hK _ _ ?_
        clear hK K hrun6
        simp only [Act.put, List.setIfInBounds_toArray, List.set_cons_zero, List.set_cons_succ]
        have c6' := hbv6.cell
        have f6' := hbv6.frozen
        refine wpAnyIn_ready (rs := [4]) (by kernel_rfl) (by simp) (AllReadyIn.cons rfl (fun K hK => ?_) AllReadyIn.nil)
        go_simp
        refine hK _ _ ?_
        clear hK K
        refine wpAnyIn_done (by kernel_rfl) ?_ _
        gi_wp2
        exact HF.out
  case done =>
    rintro D ys W hD ⟨hio, hyl⟩ ⟨⟨v, hbv, hR, hlen, hszW⟩, hBl⟩ hK
    rw [outJ_order chs ys hio (by omega), hyl, List.take_length] at hR
    have c1 := hbv.cell
    gi_wp2_with fail
    have hbD := belowK_b (w := w) (Nat.le_refl _) W D _ (.deferred none) (by omega) hK rfl rfl
    have hRD := R_noncells hR (grownBy_putObj' W D (.deferred none)) (fun r e => by cases e; exact ⟨_, hK, rfl⟩)
    refine ⟨by simp, .inl ⟨_, _, rfl, run_takeDeferred hK, ?_⟩⟩
    refine ⟨v, by simp [results, Tryd.f31, go_sem], v, rfl, ?_, hBl.trans hbD⟩
    unfold textJ
    rw [HCP.out]
    exact Kd.R_lower hRD hsz4
  case stop =>
    rintro D cc pre W _ hSp h _
    exact h.elim
end Go.Proofs.YtdpnnglfaofjeaaDoor.V

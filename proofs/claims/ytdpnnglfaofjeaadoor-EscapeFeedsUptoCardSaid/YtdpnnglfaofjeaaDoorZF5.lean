import Derived.Deep.RegionWith
import Derived.Test.YtdpnnglfaofjeaaDoorZF4
namespace Go.Proofs.YtdpnnglfaofjeaaDoor.PJh
open Go.RowKit Go.Proofs.YtdpnnglfaofjeaaDoorW.PrintWords Go.Proofs.YtdpnnglfaofjeaaDoorW.PrintLast Go.Proofs.YtdpnnglfaofjeaaDoorW.PrintMore
attribute [local go_sem] max2_int min2_int max_two min_two max_three min_three max_four min_four   -- for this text's walks alone
set_option linter.unusedVariables false
set_option linter.unusedSimpArgs false
def strconv_FormatUint.f (a0 : Int) (a1 : Int) : Option (ByteArray) := if 0 ≤ a0 ∧ a0 < 65536 ∧ a1 = 16 then some (strOfNums (U.hexN a0.toNat)) else none
theorem strconv_FormatUint.calls (a0 : Int) (a1 : Int) (r : ByteArray) (w : World) (h : strconv_FormatUint.f a0 a1 = some r) (HY_ : U.TabOK w) :
    Calls Tryd.prog 60 #[.int .u64 a0, .int .i64 a1] w fun e w' => e = .returned (.string r) ∧ Below w.heap.size w w' := by
  unfold strconv_FormatUint.f at h
  split at h
  · rename_i hh; injection h with h; subst h; obtain ⟨h1, h2, rfl⟩ := hh; obtain ⟨n, rfl⟩ := Int.eq_ofNat_of_zero_le h1; exact U.format_calls n (by omega) w HY_
  · cases h
def jsstr_hex.l0 : Nat → Int → ByteArray → Option (ByteArray)
  | 0, _, _ => none
  | k + 1, x1, x5 => if (x5.size : Int) < x1 then (if 1 + x5.size ≤ 9223372036854775807 then (jsstr_hex.l0 k x1 ((⟨#[48]⟩ : ByteArray) ++ x5)) else (none)) else (some x5)
def jsstr_hex.f (k : Nat) (a0 : Int) (a1 : Int) : Option (ByteArray) := (strconv_FormatUint.f a0 16).bind fun t101 => (jsstr_hex.l0 k a1 t101)
set_option maxHeartbeats 8000000 in
set_option maxRecDepth 100000 in
theorem jsstr_hex.calls (k : Nat) (a0 : Int) (a1 : Int) (r : ByteArray) (w : World) (h : jsstr_hex.f k a0 a1 = some r) (HY_ : U.TabOK w) :
    Calls Tryd.prog 63 #[.int .u64 a0, .int .i64 a1] w fun e w' => e = .returned (.string r) ∧ Below w.heap.size w w' := by
  have HB := Aside0.mk (Below.refl w.heap.size w)
  have H : ((strconv_FormatUint.f a0 16).bind fun t101 => (jsstr_hex.l0 k a1 t101)) = some r := h
  clear h
  replace H := Option.bind_eq_some_iff.mp H
  obtain ⟨t101, A30, H⟩ := H
  replace H : (jsstr_hex.l0 k a1 t101) = some r := H
  have A3 := Aside0.mk A30
  clear A30
  have H' := Aside0.mk H
  clear H
  go_enter Tryd.func63, Tryd.ntmps63
  go_wp2_with (first | ((with_reducible refine gate_callee (f := 60) rfl ?_); refine goesL_ (some 7) rfl rfl Tryd.func60 (by kernel_rfl) rfl #[.int .u64 a0, .int .i64 16] rfl (by (try simp only [List.map_toArray, List.map_cons, List.map_nil]); first | done | rfl | (simp only [List.length_drop, List.length_take]; rfl)) ?_; (with_reducible refine (strconv_FormatUint.calls a0 16 t101 _ A3.out (U.TabOK.below HY_ (by repeat (first | (with_reducible first | exact HB.out | apply below_alloc | apply pw_below_drewN | apply below_drew1) | exact HB.out)))).mono ?_); rintro e w4 ⟨rfl, hb⟩; refine ⟨_, rfl, ?_⟩; have n0_ := Aside0.mk (below_step (by repeat (first | (with_reducible first | exact HB.out | apply below_alloc | apply pw_below_drewN | apply below_drew1) | exact HB.out)) hb); clear HB; have HB := n0_; clear n0_; (try clear hb); (try clear hb2); (try clear hk); (try clear hi)))
  go_loopg [5] k (fun kq v5 w' => ∃ (x5_1 : ByteArray), v5 = .string x5_1 ∧ Aside0 (jsstr_hex.l0 kq a1 x5_1 = some r) ∧ Aside0 (kq ≤ k) ∧ Aside0 (Below w.heap.size w w'))
  case atStart => exact ⟨(t101), (by first | rfl | (simp; done) | (simp [*]; done)), H', ⟨Nat.le_refl _⟩, ⟨by repeat (first | (with_reducible first | exact HB.out | apply below_alloc | apply pw_below_drewN | apply below_drew1) | exact HB.out)⟩⟩
  case round =>
    clear H'
    try clear p2
    obtain ⟨x5_1, rfl, HA, HK1, HB⟩ := hrel
    cases gk with
    | zero => exact absurd HA.out (by simp [jsstr_hex.l0])
    | succ k1 =>
      have H := HA.out
      clear HA
      simp only [jsstr_hex.l0] at H
      by_cases c5 : (x5_1.size : Int) < a1
      · rw [if_pos c5] at H
        have c5b0 : decide ((x5_1.size : Int) < a1) = true := decide_eq_true c5
        clear c5
        by_cases c6 : 1 + x5_1.size ≤ 9223372036854775807
        · rw [if_pos c6] at H
          have c6b0 := eq_true c6
          have c6b1 : decide (1 + x5_1.size ≤ 9223372036854775807) = true := decide_eq_true c6
          try have c6b2 : (9223372036854775807 < 1 + x5_1.size) = False := eq_false (Nat.not_lt.2 c6)
          have H' := Aside0.mk H
          clear H
          go_wp2
          go_roundg k1
          case measure => have := HK1.out; omega
          case rel => exact ⟨((⟨#[48]⟩ : ByteArray) ++ x5_1), (by first | rfl | (simp; done) | (simp [*]; done)), H', ⟨by have := HK1.out; omega⟩, ⟨by repeat (first | (with_reducible first | exact HB.out | apply below_alloc | apply pw_below_drewN | apply below_drew1) | exact HB.out)⟩⟩
        · rw [if_neg c6] at H
          exact absurd H (by simp)
      · rw [if_neg c5] at H
        have c5b0 : decide ((x5_1.size : Int) < a1) = false := decide_eq_false c5
        clear c5
        obtain rfl := Option.some.inj H
        go_wp2
        go_ret
        exact ⟨by first | rfl | (simp [errW_none, errW_some] <;> rfl) | (simp [*, errW_none, errW_some] <;> rfl), by repeat (first | (with_reducible first | exact HB.out | apply below_alloc | apply pw_below_drewN | apply below_drew1) | exact HB.out)⟩
def utf8_appendRuneNonASCII.f (l0 : List Int) (a1 : Int) : Option (List Int) := if -2147483648 ≤ a1 ∧ a1 ≤ 2147483647 ∧ (a1 < 0 ∨ 128 ≤ a1) ∧ l0.length + 4 ≤ 140737488355328 then some (l0 ++ Lib.encodeRuneZ a1) else none
theorem utf8_appendRuneNonASCII.calls (P0_ : Nat → Prop) (u9000_ : Value) (l0 : List Int) (a1 : Int) (r : List Int) (w0 w : World) (hB : Below w0.heap.size w0 w) (ho0 : Kd.R (Kd.int .u8) 5 w w0.heap.size P0_ u9000_ l0) (h : utf8_appendRuneNonASCII.f l0 a1 = some r) :
    Calls Tryd.prog 84 #[u9000_, .int .i32 a1] w fun e w' => ∃ v0_ : Value, e = .returned (v0_) ∧ Kd.R (Kd.int .u8) 5 w' w0.heap.size (fun k_ => (P0_ k_ ∨ w.heap.size ≤ k_)) v0_ r ∧ Below w0.heap.size w0 w' ∧ Kept w w' (fun k_ => P0_ k_) := by
  unfold utf8_appendRuneNonASCII.f at h
  split at h
  · rename_i hh; injection h with h; subst h; exact U.na_calls P0_ u9000_ l0 a1 w0 w hB ho0 hh.1 hh.2.1 hh.2.2.1 hh.2.2.2
  · cases h
def utf8_AppendRune.f (l0 : List Int) (a1 : Int) : Option (List Int) := if ((a1) % 4294967296) ≤ 127 then (if l0.length < 140737488355328 then (some (l0 ++ [(a1) % 256])) else (none)) else ((utf8_appendRuneNonASCII.f l0 a1).bind fun t105 => (some t105))
set_option maxHeartbeats 8000000 in
set_option maxRecDepth 100000 in
theorem utf8_AppendRune.calls (P0_ : Nat → Prop) (u9000_ : Value) (l0 : List Int) (a1 : Int) (r : List Int) (w0 w : World) (hB : Below w0.heap.size w0 w) (ho0 : Kd.R (Kd.int .u8) 5 w w0.heap.size P0_ u9000_ l0) (h : utf8_AppendRune.f l0 a1 = some r) :
    Calls Tryd.prog 64 #[u9000_, .int .i32 a1] w fun e w' => ∃ v0_ : Value, e = .returned (v0_) ∧ Kd.R (Kd.int .u8) 5 w' w0.heap.size (fun k_ => (P0_ k_ ∨ w.heap.size ≤ k_)) v0_ r ∧ Below w0.heap.size w0 w' ∧ Kept w w' (fun k_ => P0_ k_) := by
  have HO0 := Aside0.mk (show Kd.R (Kd.int .u8) 5 w w0.heap.size (fun k_ => (P0_ k_ ∨ w.heap.size ≤ k_)) u9000_ l0 from Kd.R_mono ho0 (fun k_ hk => (.inl hk)))
  have HK := Aside0.mk (Kept.refl w (fun k_ => P0_ k_))
  have HW0 := Aside0.mk hB.size
  have HB := Aside0.mk hB
  clear hB
  have H : (if ((a1) % 4294967296) ≤ 127 then (if l0.length < 140737488355328 then (some (l0 ++ [(a1) % 256])) else (none)) else ((utf8_appendRuneNonASCII.f l0 a1).bind fun t105 => (some t105))) = some r := h
  clear h
  by_cases c3 : ((a1) % 4294967296) ≤ 127
  · rw [if_pos c3] at H
    have c3b0 : decide (((a1) % 4294967296) ≤ 127) = true := decide_eq_true c3
    clear c3
    by_cases c4 : l0.length < 140737488355328
    · rw [if_pos c4] at H
      have LMc4 := Aside0.mk c4
      clear c4
      obtain ⟨y102, hy102⟩ : ∃ y_ : List Int, y_ = (l0 ++ [(a1) % 256]) := ⟨_, rfl⟩
      replace H : (some y102) = some r := by first | (rw [hy102]; with_reducible exact H) | (have H2_ := (Option.bind_some _ _).symm.trans H; rw [hy102]; with_reducible exact H2_) | (have H2_ := (Option.bind_some _ _).symm.trans H; with_reducible exact H2_) | with_reducible exact H | (rw [hy102]; exact H) | exact H
      have Ny102 := Aside0.mk hy102
      clear hy102
      obtain rfl := Option.some.inj H
      go_enter Tryd.func64, Tryd.ntmps64
      go_wp2_with (first | ((with_reducible refine gate_builtin (b := .append) (xs := #[.tmp 8, .tmp 11]) rfl ?_); at_builtin; refine Kd.R_append (Kd.int .u8) (w0 := w0) w0.heap.size rfl (.tmp 8) (.tmp 11) 22 5 (.int .u8 0) 1 rfl Tryd.underlying22 info5 rfl (by decide) (by omega) u9000_ l0 ((a1) % 256) [.int .u8 ((a1) % 256)] (fun k_ => (P0_ k_ ∨ w.heap.size ≤ k_)) (fun _ => False) rfl rfl ?aP (fun _ hk => hk.elim) ?aF ?aO ?aB ?aS ?aL ?_; (case aP => exact rfl); (case aB => exact (by repeat (first | (with_reducible first | exact HB.out | apply below_alloc | apply pw_below_drewN | apply below_drew1) | exact HB.out))); (case aF => exact (fun k_ hk => (.inr (Nat.le_trans (by first | exact HK.out.1 | exact (show Kept w _ (fun k_ => P0_ k_) from by repeat (first | (with_reducible first | exact HK.out | apply Kept.alloc | apply Kept.drewN | apply Kept.drew) | exact HK.out)).1) hk)))); (case aO => exact (by (with_reducible repeat (first | apply Kd.R_alloc | apply Kd.R_drewN | apply Kd.R_drew)); exact HO0.out)); (case aS => exact (below_size (by repeat (first | (with_reducible first | exact HB.out | apply below_alloc | apply pw_below_drewN | apply below_drew1) | exact HB.out)))); (case aL => have := LMc4.out; first | omega | (simp only [ByteArray.size_append]; simp only [ByteArray.size, List.size_toArray, List.length_cons, List.length_nil] at this ⊢; omega)); intro v103 w5 ho hb hg hat; rw [← Ny102.out] at ho; have n0_ := Aside0.mk (hb); have n1_ := Aside0.mk (Kept.of_grown (S := (fun k_ => P0_ k_)) hg (by repeat (first | (with_reducible first | exact HK.out | apply Kept.alloc | apply Kept.drewN | apply Kept.drew) | exact HK.out)) (fun k_ e_ => (HO0.out.1 k_ e_))); have n2_ := Aside0.mk (ho); clear HB; clear HK; clear HO0; have HB := n0_; have HK := n1_; have HO104 := n2_; clear n0_ n1_ n2_; clear ho hb hg hat))
      go_ret
      exact ⟨_, by first | rfl | (simp [errW_none, errW_some] <;> rfl) | (simp [*, errW_none, errW_some] <;> rfl), by (with_reducible repeat (first | apply Kd.R_alloc | apply Kd.R_drewN | apply Kd.R_drew)); exact HO104.out, by repeat (first | (with_reducible first | exact HB.out | apply below_alloc | apply pw_below_drewN | apply below_drew1) | exact HB.out), by repeat (first | (with_reducible first | exact HK.out | apply Kept.alloc | apply Kept.drewN | apply Kept.drew) | exact HK.out)⟩
    · rw [if_neg c4] at H
      exact absurd H (by simp)
  · rw [if_neg c3] at H
    have c3b0 : decide (((a1) % 4294967296) ≤ 127) = false := decide_eq_false c3
    clear c3
    replace H := Option.bind_eq_some_iff.mp H
    obtain ⟨t105, A60, H⟩ := H
    replace H : (some t105) = some r := H
    have A6 := Aside0.mk A60
    clear A60
    obtain rfl := Option.some.inj H
    obtain ⟨Ao7, co7, eo7⟩ := Kd.R_slice HO0.out
    subst eo7
    go_enter Tryd.func64, Tryd.ntmps64
    go_wp2_with (first | ((with_reducible refine gate_callee (f := 84) rfl ?_); refine goesL_ (some 15) rfl rfl Tryd.func84 (by kernel_rfl) rfl #[.slice Ao7 l0.length co7, .int .i32 a1] rfl (by (try simp only [List.map_toArray, List.map_cons, List.map_nil]); first | done | rfl | (simp only [List.length_drop, List.length_take]; rfl)) ?_; (with_reducible refine (utf8_appendRuneNonASCII.calls (fun k_ => some k_ = (.slice Ao7 l0.length co7 : Value).ownBlock) (.slice Ao7 l0.length co7) l0 a1 t105 w0 _ ?side1 ?side2 A6.out).mono ?_); (case side1 => repeat (first | (with_reducible first | exact HB.out | apply below_alloc | apply pw_below_drewN | apply below_drew1) | exact HB.out)); (case side2 => exact Kd.R_tight rfl HO0.out); rintro e w8 ⟨v106, rfl, ho0, hb, hkp⟩; refine ⟨_, rfl, ?_⟩; have n0_ := Aside0.mk (Kd.R_mono (ok' := fun k_ => (P0_ k_ ∨ w.heap.size ≤ k_)) ho0 (fun k_ hk_ => Or.elim hk_ (fun hs_ => (HO0.out.1 k_ (hs_).symm)) (fun hn_ => (.inr (Nat.le_trans (by first | exact HK.out.1 | exact (show Kept w _ (fun k_ => P0_ k_) from by repeat (first | (with_reducible first | exact HK.out | apply Kept.alloc | apply Kept.drewN | apply Kept.drew) | exact HK.out)).1) hn_))))); have n1_ := Aside0.mk (Kept.then_ (S := (fun k_ => P0_ k_)) (by repeat (first | (with_reducible first | exact HK.out | apply Kept.alloc | apply Kept.drewN | apply Kept.drew) | exact HK.out)) hkp (fun k_ hs_ => (fun e_ => (HO0.out.1 k_ e_.symm)) hs_)); have n2_ := Aside0.mk (hb); clear HK; clear HB; clear HO0; have HO107 := n0_; have HK := n1_; have HB := n2_; clear n0_ n1_ n2_; (try clear hb); (try clear hkp); (try clear ho0)))
    go_ret
    exact ⟨_, by first | rfl | (simp [errW_none, errW_some] <;> rfl) | (simp [*, errW_none, errW_some] <;> rfl), by (with_reducible repeat (first | apply Kd.R_alloc | apply Kd.R_drewN | apply Kd.R_drew)); exact HO107.out, by repeat (first | (with_reducible first | exact HB.out | apply below_alloc | apply pw_below_drewN | apply below_drew1) | exact HB.out), by repeat (first | (with_reducible first | exact HK.out | apply Kept.alloc | apply Kept.drewN | apply Kept.drew) | exact HK.out)⟩
mutual
def jsstr_Unit.j0 : Nat → Int → Int → Bool → Option (List Int)
  | 0, _, _, _ => none
  | k + 1, x0, x3, x24 => if x24 = true then ((jsstr_hex.f k (IntKind.u64.wrap (x0)) 2).bind fun t138 => (if 2 + t138.size ≤ 9223372036854775807 then (if 2 + t138.size < 140737488355328 then (some (([] : List Int) ++ bytesOf ((⟨#[92, 120]⟩ : ByteArray) ++ t138))) else (none)) else (none))) else (if x3 = 8232 then ((jsstr_hex.f k (IntKind.u64.wrap (x0)) 4).bind fun t142 => (if 2 + t142.size ≤ 9223372036854775807 then (if 2 + t142.size < 140737488355328 then (some (([] : List Int) ++ bytesOf ((⟨#[92, 117]⟩ : ByteArray) ++ t142))) else (none)) else (none))) else (if x3 = 8233 then ((jsstr_hex.f k (IntKind.u64.wrap (x0)) 4).bind fun t146 => (if 2 + t146.size ≤ 9223372036854775807 then (if 2 + t146.size < 140737488355328 then (some (([] : List Int) ++ bytesOf ((⟨#[92, 117]⟩ : ByteArray) ++ t146))) else (none)) else (none))) else (if x0 ≥ 0 then (if x0 < 32 then (jsstr_Unit.j1 k x0 true) else (jsstr_Unit.j1 k x0 (x0 == 127))) else (jsstr_Unit.j1 k x0 (x0 == 127)))))
def jsstr_Unit.j1 : Nat → Int → Bool → Option (List Int)
  | 0, _, _ => none
  | k + 1, x0, x54 => if x54 = true then ((jsstr_hex.f k (IntKind.u64.wrap (x0)) 2).bind fun t150 => (if 2 + t150.size ≤ 9223372036854775807 then (if 2 + t150.size < 140737488355328 then (some (([] : List Int) ++ bytesOf ((⟨#[92, 120]⟩ : ByteArray) ++ t150))) else (none)) else (none))) else ((utf8_AppendRune.f ([] : List Int) x0).bind fun t154 => (some t154))
end
def jsstr_Unit.f (k : Nat) (a0 : Int) : Option (List Int) := if a0 = 92 then (some ((([92, 92] : List Int)))) else (if a0 = 47 then (some ((([92, 47] : List Int)))) else (if a0 = 10 then (some ((([92, 110] : List Int)))) else (if a0 = 13 then (some ((([92, 114] : List Int)))) else (if a0 = 9 then (some ((([92, 116] : List Int)))) else (if a0 = 39 then (jsstr_Unit.j0 k a0 a0 (a0 == 39)) else (if a0 = 34 then (jsstr_Unit.j0 k a0 a0 (a0 == 34)) else (if a0 = 60 then (jsstr_Unit.j0 k a0 a0 (a0 == 60)) else (if a0 = 62 then (jsstr_Unit.j0 k a0 a0 (a0 == 62)) else (if a0 = 38 then (jsstr_Unit.j0 k a0 a0 (a0 == 38)) else (if a0 = 96 then (jsstr_Unit.j0 k a0 a0 (a0 == 96)) else (jsstr_Unit.j0 k a0 a0 (a0 == 61))))))))))))
set_option maxHeartbeats 8000000 in
set_option maxRecDepth 100000 in
theorem jsstr_Unit.calls (k : Nat) (a0 : Int) (r : List Int) (w : World) (h : jsstr_Unit.f k a0 = some r) (HY_ : U.TabOK w) :
    Calls Tryd.prog 33 #[.int .i32 a0] w fun e w' => ∃ v0_ : Value, e = .returned (v0_) ∧ Kd.V (Kd.int .u8) 5 w' w.heap.size (fun k_ => (w.heap.size ≤ k_)) v0_ r ∧ Below w.heap.size w w' := by
  have HB := Aside0.mk (Below.refl w.heap.size w)
  have H : (if a0 = 92 then (some ((([92, 92] : List Int)))) else (if a0 = 47 then (some ((([92, 47] : List Int)))) else (if a0 = 10 then (some ((([92, 110] : List Int)))) else (if a0 = 13 then (some ((([92, 114] : List Int)))) else (if a0 = 9 then (some ((([92, 116] : List Int)))) else (if a0 = 39 then (jsstr_Unit.j0 k a0 a0 (a0 == 39)) else (if a0 = 34 then (jsstr_Unit.j0 k a0 a0 (a0 == 34)) else (if a0 = 60 then (jsstr_Unit.j0 k a0 a0 (a0 == 60)) else (if a0 = 62 then (jsstr_Unit.j0 k a0 a0 (a0 == 62)) else (if a0 = 38 then (jsstr_Unit.j0 k a0 a0 (a0 == 38)) else (if a0 = 96 then (jsstr_Unit.j0 k a0 a0 (a0 == 96)) else (jsstr_Unit.j0 k a0 a0 (a0 == 61))))))))))))) = some r := h
  clear h
  by_cases c2 : a0 = 92
  · rw [if_pos c2] at H
    have c2b0 : (a0 == 92) = true := beq_iff_eq.mpr c2
    have c2b1 : (a0 != 92) = false := bne_eq_false_iff_eq.mpr c2
    clear c2
    obtain ⟨y108, hy108⟩ : ∃ y_ : List Int, y_ = (([92, 92] : List Int)) := ⟨_, rfl⟩
    replace H : (some (y108)) = some r := by first | (rw [hy108]; with_reducible exact H) | (have H2_ := (Option.bind_some _ _).symm.trans H; rw [hy108]; with_reducible exact H2_) | (have H2_ := (Option.bind_some _ _).symm.trans H; with_reducible exact H2_) | with_reducible exact H | (rw [hy108]; exact H) | exact H
    have Ny108 := Aside0.mk hy108
    clear hy108
    obtain ⟨y111, hy111⟩ : ∃ y_ : List Int, y_ = (y108) := ⟨_, rfl⟩
    replace H : (some y111) = some r := by first | (rw [hy111]; with_reducible exact H) | (have H2_ := (Option.bind_some _ _).symm.trans H; rw [hy111]; with_reducible exact H2_) | (have H2_ := (Option.bind_some _ _).symm.trans H; with_reducible exact H2_) | with_reducible exact H | (rw [hy111]; exact H) | exact H
    have Ny111 := Aside0.mk hy111
    clear hy111
    obtain rfl := Option.some.inj H
    go_enter Tryd.func33, Tryd.ntmps33
    go_wp2_with (first | ((with_reducible refine gate_dst (N := 6) rfl ?_); refine Kd.R_lit (Kd.int .u8) _ 5 ?hg (N := 6) ?hd (xs := ([92, 92] : List Int)) (inner := [.int .u8 92, .int .u8 92]) (ok := fun _ => True) (okp := fun _ => True) ?hr ?hp (fun _ hk => hk) trivial (Below.refl _ _) (Nat.le_refl _) (by simp) ?_; (case hd => rfl); (case hg => rfl); (case hr => first | (go_simp; done) | (go_simp; rfl)); (case hp => exact (Reps.one (show Kd.M (Kd.int .u8) _ _ _ 92 [.int .u8 92] from rfl) (Reps.one (show Kd.M (Kd.int .u8) _ _ _ 92 [.int .u8 92] from rfl) (Reps.none _ _)))); intro v109 w3 ho4 hb hg_ hnew_; clear hg_ hnew_; (first | rw [← Ny108.out] at ho4 | (simp only [Int.reduceToNat] at ho4; rw [← Ny108.out] at ho4)); have n0_ := Aside0.mk (Kd.R_lower (Kd.R_newM (M := fun k_ => (w.heap.size ≤ k_)) ho4 (below_size (by repeat (first | (with_reducible first | exact HB.out | apply below_alloc | apply pw_below_drewN | apply below_drew1) | exact HB.out))) (fun k_ h_ => h_)) (below_size (by repeat (first | (with_reducible first | exact HB.out | apply below_alloc | apply pw_below_drewN | apply below_drew1) | exact HB.out)))); have n1_ := Aside0.mk (below_step (by repeat (first | (with_reducible first | exact HB.out | apply below_alloc | apply pw_below_drewN | apply below_drew1) | exact HB.out)) hb); clear HB; have HO110 := n0_; have HB := n1_; clear n0_ n1_; clear hb ho4) | ((with_reducible refine gate_dst (N := 7) rfl ?_); refine print_conv_lit (w0 := w) w.heap.size rfl _ 22 5 rfl Tryd.underlying22 Tryd.underlying5 (fun k_ => (w.heap.size ≤ k_)) v109 y108 rfl ?aN ?aO ?aB ?aS ?_; (case aN => rw [Ny108.out]; exact List.cons_ne_nil _ _); (case aB => exact (by repeat (first | (with_reducible first | exact HB.out | apply below_alloc | apply pw_below_drewN | apply below_drew1) | exact HB.out))); (case aS => exact (below_size (by repeat (first | (with_reducible first | exact HB.out | apply below_alloc | apply pw_below_drewN | apply below_drew1) | exact HB.out)))); (case aO => exact (by (with_reducible repeat (first | apply Kd.R_alloc | apply Kd.R_drewN | apply Kd.R_drew)); exact Kd.R_mono HO110.out (fun _ hk => hk.1))); intro v112 w5 ho hb hg hat; rw [← Ny111.out] at ho; have n0_ := Aside0.mk (hb); have n1_ := Aside0.mk (ho); clear HB; clear HO110; have HB := n0_; have HO113 := n1_; clear n0_ n1_; clear ho hb hg hat))
    go_ret
    exact ⟨_, by first | rfl | (simp [errW_none, errW_some] <;> rfl) | (simp [*, errW_none, errW_some] <;> rfl), by (with_reducible repeat (first | apply Kd.V_alloc | apply Kd.V_drewN | apply Kd.V_drew)); exact HO113.out, by repeat (first | (with_reducible first | exact HB.out | apply below_alloc | apply pw_below_drewN | apply below_drew1) | exact HB.out)⟩
  · rw [if_neg c2] at H
    have c2b0 : (a0 == 92) = false := beq_eq_false_iff_ne.mpr c2
    have c2b1 : (a0 != 92) = true := bne_iff_ne.mpr c2
    by_cases c6 : a0 = 47
    · rw [if_pos c6] at H
      have c6b0 : (a0 == 47) = true := beq_iff_eq.mpr c6
      have c6b1 : (a0 != 47) = false := bne_eq_false_iff_eq.mpr c6
      clear c6
      obtain ⟨y114, hy114⟩ : ∃ y_ : List Int, y_ = (([92, 47] : List Int)) := ⟨_, rfl⟩
      replace H : (some (y114)) = some r := by first | (rw [hy114]; with_reducible exact H) | (have H2_ := (Option.bind_some _ _).symm.trans H; rw [hy114]; with_reducible exact H2_) | (have H2_ := (Option.bind_some _ _).symm.trans H; with_reducible exact H2_) | with_reducible exact H | (rw [hy114]; exact H) | exact H
      have Ny114 := Aside0.mk hy114
      clear hy114
      obtain ⟨y117, hy117⟩ : ∃ y_ : List Int, y_ = (y114) := ⟨_, rfl⟩
      replace H : (some y117) = some r := by first | (rw [hy117]; with_reducible exact H) | (have H2_ := (Option.bind_some _ _).symm.trans H; rw [hy117]; with_reducible exact H2_) | (have H2_ := (Option.bind_some _ _).symm.trans H; with_reducible exact H2_) | with_reducible exact H | (rw [hy117]; exact H) | exact H
      have Ny117 := Aside0.mk hy117
      clear hy117
      obtain rfl := Option.some.inj H
      go_enter Tryd.func33, Tryd.ntmps33
      go_wp2_with (first | ((with_reducible refine gate_dst (N := 10) rfl ?_); refine Kd.R_lit (Kd.int .u8) _ 5 ?hg (N := 10) ?hd (xs := ([92, 47] : List Int)) (inner := [.int .u8 92, .int .u8 47]) (ok := fun _ => True) (okp := fun _ => True) ?hr ?hp (fun _ hk => hk) trivial (Below.refl _ _) (Nat.le_refl _) (by simp) ?_; (case hd => rfl); (case hg => rfl); (case hr => first | (go_simp; done) | (go_simp; rfl)); (case hp => exact (Reps.one (show Kd.M (Kd.int .u8) _ _ _ 92 [.int .u8 92] from rfl) (Reps.one (show Kd.M (Kd.int .u8) _ _ _ 47 [.int .u8 47] from rfl) (Reps.none _ _)))); intro v115 w7 ho8 hb hg_ hnew_; clear hg_ hnew_; (first | rw [← Ny114.out] at ho8 | (simp only [Int.reduceToNat] at ho8; rw [← Ny114.out] at ho8)); have n0_ := Aside0.mk (Kd.R_lower (Kd.R_newM (M := fun k_ => (w.heap.size ≤ k_)) ho8 (below_size (by repeat (first | (with_reducible first | exact HB.out | apply below_alloc | apply pw_below_drewN | apply below_drew1) | exact HB.out))) (fun k_ h_ => h_)) (below_size (by repeat (first | (with_reducible first | exact HB.out | apply below_alloc | apply pw_below_drewN | apply below_drew1) | exact HB.out)))); have n1_ := Aside0.mk (below_step (by repeat (first | (with_reducible first | exact HB.out | apply below_alloc | apply pw_below_drewN | apply below_drew1) | exact HB.out)) hb); clear HB; have HO116 := n0_; have HB := n1_; clear n0_ n1_; clear hb ho8) | ((with_reducible refine gate_dst (N := 11) rfl ?_); refine print_conv_lit (w0 := w) w.heap.size rfl _ 22 5 rfl Tryd.underlying22 Tryd.underlying5 (fun k_ => (w.heap.size ≤ k_)) v115 y114 rfl ?aN ?aO ?aB ?aS ?_; (case aN => rw [Ny114.out]; exact List.cons_ne_nil _ _); (case aB => exact (by repeat (first | (with_reducible first | exact HB.out | apply below_alloc | apply pw_below_drewN | apply below_drew1) | exact HB.out))); (case aS => exact (below_size (by repeat (first | (with_reducible first | exact HB.out | apply below_alloc | apply pw_below_drewN | apply below_drew1) | exact HB.out)))); (case aO => exact (by (with_reducible repeat (first | apply Kd.R_alloc | apply Kd.R_drewN | apply Kd.R_drew)); exact Kd.R_mono HO116.out (fun _ hk => hk.1))); intro v118 w9 ho hb hg hat; rw [← Ny117.out] at ho; have n0_ := Aside0.mk (hb); have n1_ := Aside0.mk (ho); clear HB; clear HO116; have HB := n0_; have HO119 := n1_; clear n0_ n1_; clear ho hb hg hat))
      go_ret
      exact ⟨_, by first | rfl | (simp [errW_none, errW_some] <;> rfl) | (simp [*, errW_none, errW_some] <;> rfl), by (with_reducible repeat (first | apply Kd.V_alloc | apply Kd.V_drewN | apply Kd.V_drew)); exact HO119.out, by repeat (first | (with_reducible first | exact HB.out | apply below_alloc | apply pw_below_drewN | apply below_drew1) | exact HB.out)⟩
    · rw [if_neg c6] at H
      have c6b0 : (a0 == 47) = false := beq_eq_false_iff_ne.mpr c6
      have c6b1 : (a0 != 47) = true := bne_iff_ne.mpr c6
      by_cases c10 : a0 = 10
      · rw [if_pos c10] at H
        have c10b0 : (a0 == 10) = true := beq_iff_eq.mpr c10
        have c10b1 : (a0 != 10) = false := bne_eq_false_iff_eq.mpr c10
        clear c10
        obtain ⟨y120, hy120⟩ : ∃ y_ : List Int, y_ = (([92, 110] : List Int)) := ⟨_, rfl⟩
        replace H : (some (y120)) = some r := by first | (rw [hy120]; with_reducible exact H) | (have H2_ := (Option.bind_some _ _).symm.trans H; rw [hy120]; with_reducible exact H2_) | (have H2_ := (Option.bind_some _ _).symm.trans H; with_reducible exact H2_) | with_reducible exact H | (rw [hy120]; exact H) | exact H
        have Ny120 := Aside0.mk hy120
        clear hy120
        obtain ⟨y123, hy123⟩ : ∃ y_ : List Int, y_ = (y120) := ⟨_, rfl⟩
        replace H : (some y123) = some r := by first | (rw [hy123]; with_reducible exact H) | (have H2_ := (Option.bind_some _ _).symm.trans H; rw [hy123]; with_reducible exact H2_) | (have H2_ := (Option.bind_some _ _).symm.trans H; with_reducible exact H2_) | with_reducible exact H | (rw [hy123]; exact H) | exact H
        have Ny123 := Aside0.mk hy123
        clear hy123
        obtain rfl := Option.some.inj H
        go_enter Tryd.func33, Tryd.ntmps33
        go_wp2_with (first | ((with_reducible refine gate_dst (N := 14) rfl ?_); refine Kd.R_lit (Kd.int .u8) _ 5 ?hg (N := 14) ?hd (xs := ([92, 110] : List Int)) (inner := [.int .u8 92, .int .u8 110]) (ok := fun _ => True) (okp := fun _ => True) ?hr ?hp (fun _ hk => hk) trivial (Below.refl _ _) (Nat.le_refl _) (by simp) ?_; (case hd => rfl); (case hg => rfl); (case hr => first | (go_simp; done) | (go_simp; rfl)); (case hp => exact (Reps.one (show Kd.M (Kd.int .u8) _ _ _ 92 [.int .u8 92] from rfl) (Reps.one (show Kd.M (Kd.int .u8) _ _ _ 110 [.int .u8 110] from rfl) (Reps.none _ _)))); intro v121 w11 ho12 hb hg_ hnew_; clear hg_ hnew_; (first | rw [← Ny120.out] at ho12 | (simp only [Int.reduceToNat] at ho12; rw [← Ny120.out] at ho12)); have n0_ := Aside0.mk (Kd.R_lower (Kd.R_newM (M := fun k_ => (w.heap.size ≤ k_)) ho12 (below_size (by repeat (first | (with_reducible first | exact HB.out | apply below_alloc | apply pw_below_drewN | apply below_drew1) | exact HB.out))) (fun k_ h_ => h_)) (below_size (by repeat (first | (with_reducible first | exact HB.out | apply below_alloc | apply pw_below_drewN | apply below_drew1) | exact HB.out)))); have n1_ := Aside0.mk (below_step (by repeat (first | (with_reducible first | exact HB.out | apply below_alloc | apply pw_below_drewN | apply below_drew1) | exact HB.out)) hb); clear HB; have HO122 := n0_; have HB := n1_; clear n0_ n1_; clear hb ho12) | ((with_reducible refine gate_dst (N := 15) rfl ?_); refine print_conv_lit (w0 := w) w.heap.size rfl _ 22 5 rfl Tryd.underlying22 Tryd.underlying5 (fun k_ => (w.heap.size ≤ k_)) v121 y120 rfl ?aN ?aO ?aB ?aS ?_; (case aN => rw [Ny120.out]; exact List.cons_ne_nil _ _); (case aB => exact (by repeat (first | (with_reducible first | exact HB.out | apply below_alloc | apply pw_below_drewN | apply below_drew1) | exact HB.out))); (case aS => exact (below_size (by repeat (first | (with_reducible first | exact HB.out | apply below_alloc | apply pw_below_drewN | apply below_drew1) | exact HB.out)))); (case aO => exact (by (with_reducible repeat (first | apply Kd.R_alloc | apply Kd.R_drewN | apply Kd.R_drew)); exact Kd.R_mono HO122.out (fun _ hk => hk.1))); intro v124 w13 ho hb hg hat; rw [← Ny123.out] at ho; have n0_ := Aside0.mk (hb); have n1_ := Aside0.mk (ho); clear HB; clear HO122; have HB := n0_; have HO125 := n1_; clear n0_ n1_; clear ho hb hg hat))
        go_ret
        exact ⟨_, by first | rfl | (simp [errW_none, errW_some] <;> rfl) | (simp [*, errW_none, errW_some] <;> rfl), by (with_reducible repeat (first | apply Kd.V_alloc | apply Kd.V_drewN | apply Kd.V_drew)); exact HO125.out, by repeat (first | (with_reducible first | exact HB.out | apply below_alloc | apply pw_below_drewN | apply below_drew1) | exact HB.out)⟩
      · rw [if_neg c10] at H
        have c10b0 : (a0 == 10) = false := beq_eq_false_iff_ne.mpr c10
        have c10b1 : (a0 != 10) = true := bne_iff_ne.mpr c10
        by_cases c14 : a0 = 13
        · rw [if_pos c14] at H
          have c14b0 : (a0 == 13) = true := beq_iff_eq.mpr c14
          have c14b1 : (a0 != 13) = false := bne_eq_false_iff_eq.mpr c14
          clear c14
          obtain ⟨y126, hy126⟩ : ∃ y_ : List Int, y_ = (([92, 114] : List Int)) := ⟨_, rfl⟩
          replace H : (some (y126)) = some r := by first | (rw [hy126]; with_reducible exact H) | (have H2_ := (Option.bind_some _ _).symm.trans H; rw [hy126]; with_reducible exact H2_) | (have H2_ := (Option.bind_some _ _).symm.trans H; with_reducible exact H2_) | with_reducible exact H | (rw [hy126]; exact H) | exact H
          have Ny126 := Aside0.mk hy126
          clear hy126
          obtain ⟨y129, hy129⟩ : ∃ y_ : List Int, y_ = (y126) := ⟨_, rfl⟩
          replace H : (some y129) = some r := by first | (rw [hy129]; with_reducible exact H) | (have H2_ := (Option.bind_some _ _).symm.trans H; rw [hy129]; with_reducible exact H2_) | (have H2_ := (Option.bind_some _ _).symm.trans H; with_reducible exact H2_) | with_reducible exact H | (rw [hy129]; exact H) | exact H
          have Ny129 := Aside0.mk hy129
          clear hy129
          obtain rfl := Option.some.inj H
          go_enter Tryd.func33, Tryd.ntmps33
          go_wp2_with (first | ((with_reducible refine gate_dst (N := 18) rfl ?_); refine Kd.R_lit (Kd.int .u8) _ 5 ?hg (N := 18) ?hd (xs := ([92, 114] : List Int)) (inner := [.int .u8 92, .int .u8 114]) (ok := fun _ => True) (okp := fun _ => True) ?hr ?hp (fun _ hk => hk) trivial (Below.refl _ _) (Nat.le_refl _) (by simp) ?_; (case hd => rfl); (case hg => rfl); (case hr => first | (go_simp; done) | (go_simp; rfl)); (case hp => exact (Reps.one (show Kd.M (Kd.int .u8) _ _ _ 92 [.int .u8 92] from rfl) (Reps.one (show Kd.M (Kd.int .u8) _ _ _ 114 [.int .u8 114] from rfl) (Reps.none _ _)))); intro v127 w15 ho16 hb hg_ hnew_; clear hg_ hnew_; (first | rw [← Ny126.out] at ho16 | (simp only [Int.reduceToNat] at ho16; rw [← Ny126.out] at ho16)); have n0_ := Aside0.mk (Kd.R_lower (Kd.R_newM (M := fun k_ => (w.heap.size ≤ k_)) ho16 (below_size (by repeat (first | (with_reducible first | exact HB.out | apply below_alloc | apply pw_below_drewN | apply below_drew1) | exact HB.out))) (fun k_ h_ => h_)) (below_size (by repeat (first | (with_reducible first | exact HB.out | apply below_alloc | apply pw_below_drewN | apply below_drew1) | exact HB.out)))); have n1_ := Aside0.mk (below_step (by repeat (first | (with_reducible first | exact HB.out | apply below_alloc | apply pw_below_drewN | apply below_drew1) | exact HB.out)) hb); clear HB; have HO128 := n0_; have HB := n1_; clear n0_ n1_; clear hb ho16) | ((with_reducible refine gate_dst (N := 19) rfl ?_); refine print_conv_lit (w0 := w) w.heap.size rfl _ 22 5 rfl Tryd.underlying22 Tryd.underlying5 (fun k_ => (w.heap.size ≤ k_)) v127 y126 rfl ?aN ?aO ?aB ?aS ?_; (case aN => rw [Ny126.out]; exact List.cons_ne_nil _ _); (case aB => exact (by repeat (first | (with_reducible first | exact HB.out | apply below_alloc | apply pw_below_drewN | apply below_drew1) | exact HB.out))); (case aS => exact (below_size (by repeat (first | (with_reducible first | exact HB.out | apply below_alloc | apply pw_below_drewN | apply below_drew1) | exact HB.out)))); (case aO => exact (by (with_reducible repeat (first | apply Kd.R_alloc | apply Kd.R_drewN | apply Kd.R_drew)); exact Kd.R_mono HO128.out (fun _ hk => hk.1))); intro v130 w17 ho hb hg hat; rw [← Ny129.out] at ho; have n0_ := Aside0.mk (hb); have n1_ := Aside0.mk (ho); clear HB; clear HO128; have HB := n0_; have HO131 := n1_; clear n0_ n1_; clear ho hb hg hat))
          go_ret
          exact ⟨_, by first | rfl | (simp [errW_none, errW_some] <;> rfl) | (simp [*, errW_none, errW_some] <;> rfl), by (with_reducible repeat (first | apply Kd.V_alloc | apply Kd.V_drewN | apply Kd.V_drew)); exact HO131.out, by repeat (first | (with_reducible first | exact HB.out | apply below_alloc | apply pw_below_drewN | apply below_drew1) | exact HB.out)⟩
        · rw [if_neg c14] at H
          have c14b0 : (a0 == 13) = false := beq_eq_false_iff_ne.mpr c14
          have c14b1 : (a0 != 13) = true := bne_iff_ne.mpr c14
          by_cases c18 : a0 = 9
          · rw [if_pos c18] at H
            have c18b0 : (a0 == 9) = true := beq_iff_eq.mpr c18
            have c18b1 : (a0 != 9) = false := bne_eq_false_iff_eq.mpr c18
            clear c18
            obtain ⟨y132, hy132⟩ : ∃ y_ : List Int, y_ = (([92, 116] : List Int)) := ⟨_, rfl⟩
            replace H : (some (y132)) = some r := by first | (rw [hy132]; with_reducible exact H) | (have H2_ := (Option.bind_some _ _).symm.trans H; rw [hy132]; with_reducible exact H2_) | (have H2_ := (Option.bind_some _ _).symm.trans H; with_reducible exact H2_) | with_reducible exact H | (rw [hy132]; exact H) | exact H
            have Ny132 := Aside0.mk hy132
            clear hy132
            obtain ⟨y135, hy135⟩ : ∃ y_ : List Int, y_ = (y132) := ⟨_, rfl⟩
            replace H : (some y135) = some r := by first | (rw [hy135]; with_reducible exact H) | (have H2_ := (Option.bind_some _ _).symm.trans H; rw [hy135]; with_reducible exact H2_) | (have H2_ := (Option.bind_some _ _).symm.trans H; with_reducible exact H2_) | with_reducible exact H | (rw [hy135]; exact H) | exact H
            have Ny135 := Aside0.mk hy135
            clear hy135
            obtain rfl := Option.some.inj H
            go_enter Tryd.func33, Tryd.ntmps33
            go_wp2_with (first | ((with_reducible refine gate_dst (N := 22) rfl ?_); refine Kd.R_lit (Kd.int .u8) _ 5 ?hg (N := 22) ?hd (xs := ([92, 116] : List Int)) (inner := [.int .u8 92, .int .u8 116]) (ok := fun _ => True) (okp := fun _ => True) ?hr ?hp (fun _ hk => hk) trivial (Below.refl _ _) (Nat.le_refl _) (by simp) ?_; (case hd => rfl); (case hg => rfl); (case hr => first | (go_simp; done) | (go_simp; rfl)); (case hp => exact (Reps.one (show Kd.M (Kd.int .u8) _ _ _ 92 [.int .u8 92] from rfl) (Reps.one (show Kd.M (Kd.int .u8) _ _ _ 116 [.int .u8 116] from rfl) (Reps.none _ _)))); intro v133 w19 ho20 hb hg_ hnew_; clear hg_ hnew_; (first | rw [← Ny132.out] at ho20 | (simp only [Int.reduceToNat] at ho20; rw [← Ny132.out] at ho20)); have n0_ := Aside0.mk (Kd.R_lower (Kd.R_newM (M := fun k_ => (w.heap.size ≤ k_)) ho20 (below_size (by repeat (first | (with_reducible first | exact HB.out | apply below_alloc | apply pw_below_drewN | apply below_drew1) | exact HB.out))) (fun k_ h_ => h_)) (below_size (by repeat (first | (with_reducible first | exact HB.out | apply below_alloc | apply pw_below_drewN | apply below_drew1) | exact HB.out)))); have n1_ := Aside0.mk (below_step (by repeat (first | (with_reducible first | exact HB.out | apply below_alloc | apply pw_below_drewN | apply below_drew1) | exact HB.out)) hb); clear HB; have HO134 := n0_; have HB := n1_; clear n0_ n1_; clear hb ho20) | ((with_reducible refine gate_dst (N := 23) rfl ?_); refine print_conv_lit (w0 := w) w.heap.size rfl _ 22 5 rfl Tryd.underlying22 Tryd.underlying5 (fun k_ => (w.heap.size ≤ k_)) v133 y132 rfl ?aN ?aO ?aB ?aS ?_; (case aN => rw [Ny132.out]; exact List.cons_ne_nil _ _); (case aB => exact (by repeat (first | (with_reducible first | exact HB.out | apply below_alloc | apply pw_below_drewN | apply below_drew1) | exact HB.out))); (case aS => exact (below_size (by repeat (first | (with_reducible first | exact HB.out | apply below_alloc | apply pw_below_drewN | apply below_drew1) | exact HB.out)))); (case aO => exact (by (with_reducible repeat (first | apply Kd.R_alloc | apply Kd.R_drewN | apply Kd.R_drew)); exact Kd.R_mono HO134.out (fun _ hk => hk.1))); intro v136 w21 ho hb hg hat; rw [← Ny135.out] at ho; have n0_ := Aside0.mk (hb); have n1_ := Aside0.mk (ho); clear HB; clear HO134; have HB := n0_; have HO137 := n1_; clear n0_ n1_; clear ho hb hg hat))
            go_ret
            exact ⟨_, by first | rfl | (simp [errW_none, errW_some] <;> rfl) | (simp [*, errW_none, errW_some] <;> rfl), by (with_reducible repeat (first | apply Kd.V_alloc | apply Kd.V_drewN | apply Kd.V_drew)); exact HO137.out, by repeat (first | (with_reducible first | exact HB.out | apply below_alloc | apply pw_below_drewN | apply below_drew1) | exact HB.out)⟩
          · rw [if_neg c18] at H
            have c18b0 : (a0 == 9) = false := beq_eq_false_iff_ne.mpr c18
            have c18b1 : (a0 != 9) = true := bne_iff_ne.mpr c18
            have HC22 := Aside0.mk H
            clear H
            go_enter Tryd.func33, Tryd.ntmps33
            go_upto_if 24 with (fail)
            go_cut [24] (fun v24 wc => ∃ (kq : Nat) (x24_21 : Bool), v24 = .bool x24_21 ∧ Aside0 (jsstr_Unit.j0 kq a0 a0 x24_21 = some r) ∧ Aside0 (kq ≤ k) ∧ Aside0 (Below w.heap.size w wc))
            case first =>
              have H := HC22.out
              clear HC22
              by_cases c23 : a0 = 39
              · rw [if_pos c23] at H
                have c23b0 : (a0 == 39) = true := beq_iff_eq.mpr c23
                have c23b1 : (a0 != 39) = false := bne_eq_false_iff_eq.mpr c23
                clear c23
                (first | rw [c23b0] | (simp only [i64_w, i32_w]; rw [c23b0]) | skip)
                have H' := Aside0.mk H
                clear H
                go_wp2
                go_meet
                case rel => exact ⟨_, ((a0 == 39)), (by first | rfl | (simp; done) | (simp [*]; done)), H', ⟨by first | omega | exact Nat.le_refl _⟩, ⟨by repeat (first | (with_reducible first | exact HB.out | apply below_alloc | apply pw_below_drewN | apply below_drew1) | exact HB.out)⟩⟩
              · rw [if_neg c23] at H
                have c23b0 : (a0 == 39) = false := beq_eq_false_iff_ne.mpr c23
                have c23b1 : (a0 != 39) = true := bne_iff_ne.mpr c23
                (first | rw [c23b0] | (simp only [i64_w, i32_w]; rw [c23b0]) | skip)
                by_cases c24 : a0 = 34
                · rw [if_pos c24] at H
                  have c24b0 : (a0 == 34) = true := beq_iff_eq.mpr c24
                  have c24b1 : (a0 != 34) = false := bne_eq_false_iff_eq.mpr c24
                  clear c24
                  have H' := Aside0.mk H
                  clear H
                  go_wp2
                  go_meet
                  case rel => exact ⟨_, ((a0 == 34)), (by first | rfl | (simp; done) | (simp [*]; done)), H', ⟨by first | omega | exact Nat.le_refl _⟩, ⟨by repeat (first | (with_reducible first | exact HB.out | apply below_alloc | apply pw_below_drewN | apply below_drew1) | exact HB.out)⟩⟩
                · rw [if_neg c24] at H
                  have c24b0 : (a0 == 34) = false := beq_eq_false_iff_ne.mpr c24
                  have c24b1 : (a0 != 34) = true := bne_iff_ne.mpr c24
                  by_cases c25 : a0 = 60
                  · rw [if_pos c25] at H
                    have c25b0 : (a0 == 60) = true := beq_iff_eq.mpr c25
                    have c25b1 : (a0 != 60) = false := bne_eq_false_iff_eq.mpr c25
                    clear c25
                    have H' := Aside0.mk H
                    clear H
                    go_wp2
                    go_meet
                    case rel => exact ⟨_, ((a0 == 60)), (by first | rfl | (simp; done) | (simp [*]; done)), H', ⟨by first | omega | exact Nat.le_refl _⟩, ⟨by repeat (first | (with_reducible first | exact HB.out | apply below_alloc | apply pw_below_drewN | apply below_drew1) | exact HB.out)⟩⟩
                  · rw [if_neg c25] at H
                    have c25b0 : (a0 == 60) = false := beq_eq_false_iff_ne.mpr c25
                    have c25b1 : (a0 != 60) = true := bne_iff_ne.mpr c25
                    by_cases c26 : a0 = 62
                    · rw [if_pos c26] at H
                      have c26b0 : (a0 == 62) = true := beq_iff_eq.mpr c26
                      have c26b1 : (a0 != 62) = false := bne_eq_false_iff_eq.mpr c26
                      clear c26
                      have H' := Aside0.mk H
                      clear H
                      go_wp2
                      go_meet
                      case rel => exact ⟨_, ((a0 == 62)), (by first | rfl | (simp; done) | (simp [*]; done)), H', ⟨by first | omega | exact Nat.le_refl _⟩, ⟨by repeat (first | (with_reducible first | exact HB.out | apply below_alloc | apply pw_below_drewN | apply below_drew1) | exact HB.out)⟩⟩
                    · rw [if_neg c26] at H
                      have c26b0 : (a0 == 62) = false := beq_eq_false_iff_ne.mpr c26
                      have c26b1 : (a0 != 62) = true := bne_iff_ne.mpr c26
                      by_cases c27 : a0 = 38
                      · rw [if_pos c27] at H
                        have c27b0 : (a0 == 38) = true := beq_iff_eq.mpr c27
                        have c27b1 : (a0 != 38) = false := bne_eq_false_iff_eq.mpr c27
                        clear c27
                        have H' := Aside0.mk H
                        clear H
                        go_wp2
                        go_meet
                        case rel => exact ⟨_, ((a0 == 38)), (by first | rfl | (simp; done) | (simp [*]; done)), H', ⟨by first | omega | exact Nat.le_refl _⟩, ⟨by repeat (first | (with_reducible first | exact HB.out | apply below_alloc | apply pw_below_drewN | apply below_drew1) | exact HB.out)⟩⟩
                      · rw [if_neg c27] at H
                        have c27b0 : (a0 == 38) = false := beq_eq_false_iff_ne.mpr c27
                        have c27b1 : (a0 != 38) = true := bne_iff_ne.mpr c27
                        by_cases c28 : a0 = 96
                        · rw [if_pos c28] at H
                          have c28b0 : (a0 == 96) = true := beq_iff_eq.mpr c28
                          have c28b1 : (a0 != 96) = false := bne_eq_false_iff_eq.mpr c28
                          clear c28
                          have H' := Aside0.mk H
                          clear H
                          go_wp2
                          go_meet
                          case rel => exact ⟨_, ((a0 == 96)), (by first | rfl | (simp; done) | (simp [*]; done)), H', ⟨by first | omega | exact Nat.le_refl _⟩, ⟨by repeat (first | (with_reducible first | exact HB.out | apply below_alloc | apply pw_below_drewN | apply below_drew1) | exact HB.out)⟩⟩
                        · rw [if_neg c28] at H
                          have c28b0 : (a0 == 96) = false := beq_eq_false_iff_ne.mpr c28
                          have c28b1 : (a0 != 96) = true := bne_iff_ne.mpr c28
                          have H' := Aside0.mk H
                          clear H
                          go_wp2
                          go_meet
                          case rel => exact ⟨_, ((a0 == 61)), (by first | rfl | (simp; done) | (simp [*]; done)), H', ⟨by first | omega | exact Nat.le_refl _⟩, ⟨by repeat (first | (with_reducible first | exact HB.out | apply below_alloc | apply pw_below_drewN | apply below_drew1) | exact HB.out)⟩⟩
            case rest =>
              clear HC22
              try clear c1
              try clear c2
              try clear c2b0
              try clear c2b1
              try clear p2
              try clear c3
              try clear c6
              try clear c6b0
              try clear c6b1
              try clear c10
              try clear c10b0
              try clear c10b1
              try clear c14
              try clear c14b0
              try clear c14b1
              try clear c18
              try clear c18b0
              try clear c18b1
              try clear c23
              try clear c23b0
              try clear c23b1
              try clear c24
              try clear c24b0
              try clear c24b1
              try clear c25
              try clear c25b0
              try clear c25b1
              try clear c26
              try clear c26b0
              try clear c26b1
              try clear c27
              try clear c27b0
              try clear c27b1
              try clear c28
              try clear c28b0
              try clear c28b1
              obtain ⟨kq, x24_21, rfl, HA, HJ21, HB⟩ := hcut
              cases kq with
              | zero => exact absurd HA.out (by simp [jsstr_Unit.j0])
              | succ kj21 =>
                have H := HA.out
                clear HA
                simp only [jsstr_Unit.j0] at H
                by_cases c29 : x24_21 = true
                · subst c29
                  have H1 : ((jsstr_hex.f kj21 (IntKind.u64.wrap (a0)) 2).bind fun t138 => (if 2 + t138.size ≤ 9223372036854775807 then (if 2 + t138.size < 140737488355328 then (some (([] : List Int) ++ bytesOf ((⟨#[92, 120]⟩ : ByteArray) ++ t138))) else (none)) else (none))) = some r := by rw [if_pos rfl] at H; exact H
                  clear H
                  have H := H1
                  clear H1
                  replace H := Option.bind_eq_some_iff.mp H
                  obtain ⟨t138, A300, H⟩ := H
                  replace H : (if 2 + t138.size ≤ 9223372036854775807 then (if 2 + t138.size < 140737488355328 then (some (([] : List Int) ++ bytesOf ((⟨#[92, 120]⟩ : ByteArray) ++ t138))) else (none)) else (none)) = some r := H
                  have A30 := Aside0.mk A300
                  clear A300
                  by_cases c31 : 2 + t138.size ≤ 9223372036854775807
                  · rw [if_pos c31] at H
                    have c31b0 := eq_true c31
                    have c31b1 : decide (2 + t138.size ≤ 9223372036854775807) = true := decide_eq_true c31
                    try have c31b2 : (9223372036854775807 < 2 + t138.size) = False := eq_false (Nat.not_lt.2 c31)
                    by_cases c32 : 2 + t138.size < 140737488355328
                    · rw [if_pos c32] at H
                      have LMc32 := Aside0.mk c32
                      clear c32
                      obtain ⟨y139, hy139⟩ : ∃ y_ : List Int, y_ = (([] : List Int) ++ bytesOf ((⟨#[92, 120]⟩ : ByteArray) ++ t138)) := ⟨_, rfl⟩
                      replace H : (some y139) = some r := by first | (rw [hy139]; with_reducible exact H) | (have H2_ := (Option.bind_some _ _).symm.trans H; rw [hy139]; with_reducible exact H2_) | (have H2_ := (Option.bind_some _ _).symm.trans H; with_reducible exact H2_) | with_reducible exact H | (rw [hy139]; exact H) | exact H
                      have Ny139 := Aside0.mk hy139
                      clear hy139
                      obtain rfl := Option.some.inj H
                      go_wp2_with (first | ((with_reducible refine gate_callee (f := 63) rfl ?_); refine goesL_ (some 34) rfl rfl Tryd.func63 (by kernel_rfl) rfl #[.int .u64 (IntKind.u64.wrap (a0)), .int .i64 2] rfl (by (try simp only [List.map_toArray, List.map_cons, List.map_nil]); first | done | rfl | (simp only [List.length_drop, List.length_take]; rfl)) ?_; (with_reducible refine (jsstr_hex.calls kj21 (IntKind.u64.wrap (a0)) 2 t138 _ A30.out (U.TabOK.below HY_ (by repeat (first | (with_reducible first | exact HB.out | apply below_alloc | apply pw_below_drewN | apply below_drew1) | exact HB.out)))).mono ?_); rintro e w33 ⟨rfl, hb⟩; refine ⟨_, rfl, ?_⟩; have n0_ := Aside0.mk (below_step (by repeat (first | (with_reducible first | exact HB.out | apply below_alloc | apply pw_below_drewN | apply below_drew1) | exact HB.out)) hb); clear HB; have HB := n0_; clear n0_; (try clear hb); (try clear hb2); (try clear hk); (try clear hi)) | ((with_reducible refine gate_dst (N := 36) rfl ?_); refine print_conv_str (w0 := w) w.heap.size rfl _ 22 9 5 rfl Tryd.underlying22 Tryd.underlying9 Tryd.underlying5 (fun k_ => (w.heap.size ≤ k_)) ((⟨#[92, 120]⟩ : ByteArray) ++ t138) rfl ?aL ?aF ?aB ?aS ?_; (case aB => exact (by repeat (first | (with_reducible first | exact HB.out | apply below_alloc | apply pw_below_drewN | apply below_drew1) | exact HB.out))); (case aF => exact (fun k_ hk => (Nat.le_trans (below_size (by repeat (first | (with_reducible first | exact HB.out | apply below_alloc | apply pw_below_drewN | apply below_drew1) | exact HB.out))) hk))); (case aS => exact (below_size (by repeat (first | (with_reducible first | exact HB.out | apply below_alloc | apply pw_below_drewN | apply below_drew1) | exact HB.out)))); (case aL => have := LMc32.out; first | omega | (simp only [ByteArray.size_append]; simp only [ByteArray.size, List.size_toArray, List.length_cons, List.length_nil] at this ⊢; omega)); intro v140 w34 ho hb hg hat; rw [← Ny139.out] at ho; have n0_ := Aside0.mk (hb); have n1_ := Aside0.mk (ho); clear HB; have HB := n0_; have HO141 := n1_; clear n0_ n1_; clear ho hb hg hat))
                      go_ret
                      exact ⟨_, by first | rfl | (simp [errW_none, errW_some] <;> rfl) | (simp [*, errW_none, errW_some] <;> rfl), by (with_reducible repeat (first | apply Kd.V_alloc | apply Kd.V_drewN | apply Kd.V_drew)); exact HO141.out, by repeat (first | (with_reducible first | exact HB.out | apply below_alloc | apply pw_below_drewN | apply below_drew1) | exact HB.out)⟩
                    · rw [if_neg c32] at H
                      exact absurd H (by simp)
                  · rw [if_neg c31] at H
                    exact absurd H (by simp)
                · replace c29 := Bool.eq_false_iff.mpr c29
                  subst c29
                  have H1 : (if a0 = 8232 then ((jsstr_hex.f kj21 (IntKind.u64.wrap (a0)) 4).bind fun t142 => (if 2 + t142.size ≤ 9223372036854775807 then (if 2 + t142.size < 140737488355328 then (some (([] : List Int) ++ bytesOf ((⟨#[92, 117]⟩ : ByteArray) ++ t142))) else (none)) else (none))) else (if a0 = 8233 then ((jsstr_hex.f kj21 (IntKind.u64.wrap (a0)) 4).bind fun t146 => (if 2 + t146.size ≤ 9223372036854775807 then (if 2 + t146.size < 140737488355328 then (some (([] : List Int) ++ bytesOf ((⟨#[92, 117]⟩ : ByteArray) ++ t146))) else (none)) else (none))) else (if a0 ≥ 0 then (if a0 < 32 then (jsstr_Unit.j1 kj21 a0 true) else (jsstr_Unit.j1 kj21 a0 (a0 == 127))) else (jsstr_Unit.j1 kj21 a0 (a0 == 127))))) = some r := by rw [if_neg (show ¬ (false = true) by decide)] at H; exact H
                  clear H
                  have H := H1
                  clear H1
                  by_cases c35 : a0 = 8232
                  · rw [if_pos c35] at H
                    have c35b0 : (a0 == 8232) = true := beq_iff_eq.mpr c35
                    have c35b1 : (a0 != 8232) = false := bne_eq_false_iff_eq.mpr c35
                    clear c35
                    replace H := Option.bind_eq_some_iff.mp H
                    obtain ⟨t142, A360, H⟩ := H
                    replace H : (if 2 + t142.size ≤ 9223372036854775807 then (if 2 + t142.size < 140737488355328 then (some (([] : List Int) ++ bytesOf ((⟨#[92, 117]⟩ : ByteArray) ++ t142))) else (none)) else (none)) = some r := H
                    have A36 := Aside0.mk A360
                    clear A360
                    by_cases c37 : 2 + t142.size ≤ 9223372036854775807
                    · rw [if_pos c37] at H
                      have c37b0 := eq_true c37
                      have c37b1 : decide (2 + t142.size ≤ 9223372036854775807) = true := decide_eq_true c37
                      try have c37b2 : (9223372036854775807 < 2 + t142.size) = False := eq_false (Nat.not_lt.2 c37)
                      by_cases c38 : 2 + t142.size < 140737488355328
                      · rw [if_pos c38] at H
                        have LMc38 := Aside0.mk c38
                        clear c38
                        obtain ⟨y143, hy143⟩ : ∃ y_ : List Int, y_ = (([] : List Int) ++ bytesOf ((⟨#[92, 117]⟩ : ByteArray) ++ t142)) := ⟨_, rfl⟩
                        replace H : (some y143) = some r := by first | (rw [hy143]; with_reducible exact H) | (have H2_ := (Option.bind_some _ _).symm.trans H; rw [hy143]; with_reducible exact H2_) | (have H2_ := (Option.bind_some _ _).symm.trans H; with_reducible exact H2_) | with_reducible exact H | (rw [hy143]; exact H) | exact H
                        have Ny143 := Aside0.mk hy143
                        clear hy143
                        obtain rfl := Option.some.inj H
                        go_wp2_with (first | ((with_reducible refine gate_callee (f := 63) rfl ?_); refine goesL_ (some 42) rfl rfl Tryd.func63 (by kernel_rfl) rfl #[.int .u64 (IntKind.u64.wrap (a0)), .int .i64 4] rfl (by (try simp only [List.map_toArray, List.map_cons, List.map_nil]); first | done | rfl | (simp only [List.length_drop, List.length_take]; rfl)) ?_; (with_reducible refine (jsstr_hex.calls kj21 (IntKind.u64.wrap (a0)) 4 t142 _ A36.out (U.TabOK.below HY_ (by repeat (first | (with_reducible first | exact HB.out | apply below_alloc | apply pw_below_drewN | apply below_drew1) | exact HB.out)))).mono ?_); rintro e w39 ⟨rfl, hb⟩; refine ⟨_, rfl, ?_⟩; have n0_ := Aside0.mk (below_step (by repeat (first | (with_reducible first | exact HB.out | apply below_alloc | apply pw_below_drewN | apply below_drew1) | exact HB.out)) hb); clear HB; have HB := n0_; clear n0_; (try clear hb); (try clear hb2); (try clear hk); (try clear hi)) | ((with_reducible refine gate_dst (N := 44) rfl ?_); refine print_conv_str (w0 := w) w.heap.size rfl _ 22 9 5 rfl Tryd.underlying22 Tryd.underlying9 Tryd.underlying5 (fun k_ => (w.heap.size ≤ k_)) ((⟨#[92, 117]⟩ : ByteArray) ++ t142) rfl ?aL ?aF ?aB ?aS ?_; (case aB => exact (by repeat (first | (with_reducible first | exact HB.out | apply below_alloc | apply pw_below_drewN | apply below_drew1) | exact HB.out))); (case aF => exact (fun k_ hk => (Nat.le_trans (below_size (by repeat (first | (with_reducible first | exact HB.out | apply below_alloc | apply pw_below_drewN | apply below_drew1) | exact HB.out))) hk))); (case aS => exact (below_size (by repeat (first | (with_reducible first | exact HB.out | apply below_alloc | apply pw_below_drewN | apply below_drew1) | exact HB.out)))); (case aL => have := LMc38.out; first | omega | (simp only [ByteArray.size_append]; simp only [ByteArray.size, List.size_toArray, List.length_cons, List.length_nil] at this ⊢; omega)); intro v144 w40 ho hb hg hat; rw [← Ny143.out] at ho; have n0_ := Aside0.mk (hb); have n1_ := Aside0.mk (ho); clear HB; have HB := n0_; have HO145 := n1_; clear n0_ n1_; clear ho hb hg hat))
                        go_ret
                        exact ⟨_, by first | rfl | (simp [errW_none, errW_some] <;> rfl) | (simp [*, errW_none, errW_some] <;> rfl), by (with_reducible repeat (first | apply Kd.V_alloc | apply Kd.V_drewN | apply Kd.V_drew)); exact HO145.out, by repeat (first | (with_reducible first | exact HB.out | apply below_alloc | apply pw_below_drewN | apply below_drew1) | exact HB.out)⟩
                      · rw [if_neg c38] at H
                        exact absurd H (by simp)
                    · rw [if_neg c37] at H
                      exact absurd H (by simp)
                  · rw [if_neg c35] at H
                    have c35b0 : (a0 == 8232) = false := beq_eq_false_iff_ne.mpr c35
                    have c35b1 : (a0 != 8232) = true := bne_iff_ne.mpr c35
                    by_cases c41 : a0 = 8233
                    · rw [if_pos c41] at H
                      have c41b0 : (a0 == 8233) = true := beq_iff_eq.mpr c41
                      have c41b1 : (a0 != 8233) = false := bne_eq_false_iff_eq.mpr c41
                      clear c41
                      replace H := Option.bind_eq_some_iff.mp H
                      obtain ⟨t146, A420, H⟩ := H
                      replace H : (if 2 + t146.size ≤ 9223372036854775807 then (if 2 + t146.size < 140737488355328 then (some (([] : List Int) ++ bytesOf ((⟨#[92, 117]⟩ : ByteArray) ++ t146))) else (none)) else (none)) = some r := H
                      have A42 := Aside0.mk A420
                      clear A420
                      by_cases c43 : 2 + t146.size ≤ 9223372036854775807
                      · rw [if_pos c43] at H
                        have c43b0 := eq_true c43
                        have c43b1 : decide (2 + t146.size ≤ 9223372036854775807) = true := decide_eq_true c43
                        try have c43b2 : (9223372036854775807 < 2 + t146.size) = False := eq_false (Nat.not_lt.2 c43)
                        by_cases c44 : 2 + t146.size < 140737488355328
                        · rw [if_pos c44] at H
                          have LMc44 := Aside0.mk c44
                          clear c44
                          obtain ⟨y147, hy147⟩ : ∃ y_ : List Int, y_ = (([] : List Int) ++ bytesOf ((⟨#[92, 117]⟩ : ByteArray) ++ t146)) := ⟨_, rfl⟩
                          replace H : (some y147) = some r := by first | (rw [hy147]; with_reducible exact H) | (have H2_ := (Option.bind_some _ _).symm.trans H; rw [hy147]; with_reducible exact H2_) | (have H2_ := (Option.bind_some _ _).symm.trans H; with_reducible exact H2_) | with_reducible exact H | (rw [hy147]; exact H) | exact H
                          have Ny147 := Aside0.mk hy147
                          clear hy147
                          obtain rfl := Option.some.inj H
                          go_wp2_with (first | ((with_reducible refine gate_callee (f := 63) rfl ?_); refine goesL_ (some 42) rfl rfl Tryd.func63 (by kernel_rfl) rfl #[.int .u64 (IntKind.u64.wrap (a0)), .int .i64 4] rfl (by (try simp only [List.map_toArray, List.map_cons, List.map_nil]); first | done | rfl | (simp only [List.length_drop, List.length_take]; rfl)) ?_; (with_reducible refine (jsstr_hex.calls kj21 (IntKind.u64.wrap (a0)) 4 t146 _ A42.out (U.TabOK.below HY_ (by repeat (first | (with_reducible first | exact HB.out | apply below_alloc | apply pw_below_drewN | apply below_drew1) | exact HB.out)))).mono ?_); rintro e w45 ⟨rfl, hb⟩; refine ⟨_, rfl, ?_⟩; have n0_ := Aside0.mk (below_step (by repeat (first | (with_reducible first | exact HB.out | apply below_alloc | apply pw_below_drewN | apply below_drew1) | exact HB.out)) hb); clear HB; have HB := n0_; clear n0_; (try clear hb); (try clear hb2); (try clear hk); (try clear hi)) | ((with_reducible refine gate_dst (N := 44) rfl ?_); refine print_conv_str (w0 := w) w.heap.size rfl _ 22 9 5 rfl Tryd.underlying22 Tryd.underlying9 Tryd.underlying5 (fun k_ => (w.heap.size ≤ k_)) ((⟨#[92, 117]⟩ : ByteArray) ++ t146) rfl ?aL ?aF ?aB ?aS ?_; (case aB => exact (by repeat (first | (with_reducible first | exact HB.out | apply below_alloc | apply pw_below_drewN | apply below_drew1) | exact HB.out))); (case aF => exact (fun k_ hk => (Nat.le_trans (below_size (by repeat (first | (with_reducible first | exact HB.out | apply below_alloc | apply pw_below_drewN | apply below_drew1) | exact HB.out))) hk))); (case aS => exact (below_size (by repeat (first | (with_reducible first | exact HB.out | apply below_alloc | apply pw_below_drewN | apply below_drew1) | exact HB.out)))); (case aL => have := LMc44.out; first | omega | (simp only [ByteArray.size_append]; simp only [ByteArray.size, List.size_toArray, List.length_cons, List.length_nil] at this ⊢; omega)); intro v148 w46 ho hb hg hat; rw [← Ny147.out] at ho; have n0_ := Aside0.mk (hb); have n1_ := Aside0.mk (ho); clear HB; have HB := n0_; have HO149 := n1_; clear n0_ n1_; clear ho hb hg hat))
                          go_ret
                          exact ⟨_, by first | rfl | (simp [errW_none, errW_some] <;> rfl) | (simp [*, errW_none, errW_some] <;> rfl), by (with_reducible repeat (first | apply Kd.V_alloc | apply Kd.V_drewN | apply Kd.V_drew)); exact HO149.out, by repeat (first | (with_reducible first | exact HB.out | apply below_alloc | apply pw_below_drewN | apply below_drew1) | exact HB.out)⟩
                        · rw [if_neg c44] at H
                          exact absurd H (by simp)
                      · rw [if_neg c43] at H
                        exact absurd H (by simp)
                    · rw [if_neg c41] at H
                      have c41b0 : (a0 == 8233) = false := beq_eq_false_iff_ne.mpr c41
                      have c41b1 : (a0 != 8233) = true := bne_iff_ne.mpr c41
                      have HC47 := Aside0.mk H
                      clear H
                      go_upto_region 23 with (fail)
                      go_cut [54] (fun v54 wc => ∃ (kq : Nat) (x54_46 : Bool), v54 = .bool x54_46 ∧ Aside0 (jsstr_Unit.j1 kq a0 x54_46 = some r) ∧ Aside0 (kq ≤ kj21) ∧ Aside0 (Below w.heap.size w wc))
                      case first =>
                        have H := HC47.out
                        clear HC47
                        by_cases c48 : a0 ≥ 0
                        · rw [if_pos c48] at H
                          have c48b0 : decide (0 ≤ a0) = true := decide_eq_true c48
                          clear c48
                          (first | rw [c48b0] | (simp only [i64_w, i32_w]; rw [c48b0]) | skip)
                          by_cases c49 : a0 < 32
                          · rw [if_pos c49] at H
                            have c49b0 : decide (a0 < 32) = true := decide_eq_true c49
                            clear c49
                            have H' := Aside0.mk H
                            clear H
                            go_wp2
                            go_meet
                            case rel => exact ⟨_, (true), (by first | rfl | (simp; done) | (simp [*]; done)), H', ⟨by have := HJ21.out; first | omega | exact Nat.le_refl _⟩, ⟨by repeat (first | (with_reducible first | exact HB.out | apply below_alloc | apply pw_below_drewN | apply below_drew1) | exact HB.out)⟩⟩
                          · rw [if_neg c49] at H
                            have c49b0 : decide (a0 < 32) = false := decide_eq_false c49
                            clear c49
                            have H' := Aside0.mk H
                            clear H
                            go_wp2
                            go_meet
                            case rel => exact ⟨_, ((a0 == 127)), (by first | rfl | (simp; done) | (simp [*]; done)), H', ⟨by have := HJ21.out; first | omega | exact Nat.le_refl _⟩, ⟨by repeat (first | (with_reducible first | exact HB.out | apply below_alloc | apply pw_below_drewN | apply below_drew1) | exact HB.out)⟩⟩
                        · rw [if_neg c48] at H
                          have c48b0 : decide (0 ≤ a0) = false := decide_eq_false c48
                          clear c48
                          (first | rw [c48b0] | (simp only [i64_w, i32_w]; rw [c48b0]) | skip)
                          have H' := Aside0.mk H
                          clear H
                          go_wp2
                          go_meet
                          case rel => exact ⟨_, ((a0 == 127)), (by first | rfl | (simp; done) | (simp [*]; done)), H', ⟨by have := HJ21.out; first | omega | exact Nat.le_refl _⟩, ⟨by repeat (first | (with_reducible first | exact HB.out | apply below_alloc | apply pw_below_drewN | apply below_drew1) | exact HB.out)⟩⟩
                      case rest =>
                        clear HC47
                        try clear c1
                        try clear c2
                        try clear c2b0
                        try clear c2b1
                        try clear p2
                        try clear c3
                        try clear c4
                        try clear c6
                        try clear c6b0
                        try clear c6b1
                        try clear c10
                        try clear c10b0
                        try clear c10b1
                        try clear c14
                        try clear c14b0
                        try clear c14b1
                        try clear c18
                        try clear c18b0
                        try clear c18b1
                        try clear c23
                        try clear c23b0
                        try clear c23b1
                        try clear c24
                        try clear c24b0
                        try clear c24b1
                        try clear c25
                        try clear c25b0
                        try clear c25b1
                        try clear c26
                        try clear c26b0
                        try clear c26b1
                        try clear c27
                        try clear c27b0
                        try clear c27b1
                        try clear c28
                        try clear c28b0
                        try clear c28b1
                        try clear c29
                        try clear c31
                        try clear c31b0
                        try clear c31b1
                        try clear c31b2
                        try clear c32
                        try clear c33
                        try clear c35
                        try clear c35b0
                        try clear c35b1
                        try clear c37
                        try clear c37b0
                        try clear c37b1
                        try clear c37b2
                        try clear c38
                        try clear c41
                        try clear c41b0
                        try clear c41b1
                        try clear c43
                        try clear c43b0
                        try clear c43b1
                        try clear c43b2
                        try clear c44
                        try clear c48
                        try clear c48b0
                        try clear c49
                        try clear c49b0
                        try clear p2
                        obtain ⟨kq, x54_46, rfl, HA, HJ46, HB⟩ := hcut
                        cases kq with
                        | zero => exact absurd HA.out (by simp [jsstr_Unit.j1])
                        | succ kj46 =>
                          have H := HA.out
                          clear HA
                          simp only [jsstr_Unit.j1] at H
                          by_cases c50 : x54_46 = true
                          · subst c50
                            have H1 : ((jsstr_hex.f kj46 (IntKind.u64.wrap (a0)) 2).bind fun t150 => (if 2 + t150.size ≤ 9223372036854775807 then (if 2 + t150.size < 140737488355328 then (some (([] : List Int) ++ bytesOf ((⟨#[92, 120]⟩ : ByteArray) ++ t150))) else (none)) else (none))) = some r := by rw [if_pos rfl] at H; exact H
                            clear H
                            have H := H1
                            clear H1
                            replace H := Option.bind_eq_some_iff.mp H
                            obtain ⟨t150, A510, H⟩ := H
                            replace H : (if 2 + t150.size ≤ 9223372036854775807 then (if 2 + t150.size < 140737488355328 then (some (([] : List Int) ++ bytesOf ((⟨#[92, 120]⟩ : ByteArray) ++ t150))) else (none)) else (none)) = some r := H
                            have A51 := Aside0.mk A510
                            clear A510
                            by_cases c52 : 2 + t150.size ≤ 9223372036854775807
                            · rw [if_pos c52] at H
                              have c52b0 := eq_true c52
                              have c52b1 : decide (2 + t150.size ≤ 9223372036854775807) = true := decide_eq_true c52
                              try have c52b2 : (9223372036854775807 < 2 + t150.size) = False := eq_false (Nat.not_lt.2 c52)
                              by_cases c53 : 2 + t150.size < 140737488355328
                              · rw [if_pos c53] at H
                                have LMc53 := Aside0.mk c53
                                clear c53
                                obtain ⟨y151, hy151⟩ : ∃ y_ : List Int, y_ = (([] : List Int) ++ bytesOf ((⟨#[92, 120]⟩ : ByteArray) ++ t150)) := ⟨_, rfl⟩
                                replace H : (some y151) = some r := by first | (rw [hy151]; with_reducible exact H) | (have H2_ := (Option.bind_some _ _).symm.trans H; rw [hy151]; with_reducible exact H2_) | (have H2_ := (Option.bind_some _ _).symm.trans H; with_reducible exact H2_) | with_reducible exact H | (rw [hy151]; exact H) | exact H
                                have Ny151 := Aside0.mk hy151
                                clear hy151
                                obtain rfl := Option.some.inj H
                                go_wp2_with (first | ((with_reducible refine gate_callee (f := 63) rfl ?_); refine goesL_ (some 57) rfl rfl Tryd.func63 (by kernel_rfl) rfl #[.int .u64 (IntKind.u64.wrap (a0)), .int .i64 2] rfl (by (try simp only [List.map_toArray, List.map_cons, List.map_nil]); first | done | rfl | (simp only [List.length_drop, List.length_take]; rfl)) ?_; (with_reducible refine (jsstr_hex.calls kj46 (IntKind.u64.wrap (a0)) 2 t150 _ A51.out (U.TabOK.below HY_ (by repeat (first | (with_reducible first | exact HB.out | apply below_alloc | apply pw_below_drewN | apply below_drew1) | exact HB.out)))).mono ?_); rintro e w54 ⟨rfl, hb⟩; refine ⟨_, rfl, ?_⟩; have n0_ := Aside0.mk (below_step (by repeat (first | (with_reducible first | exact HB.out | apply below_alloc | apply pw_below_drewN | apply below_drew1) | exact HB.out)) hb); clear HB; have HB := n0_; clear n0_; (try clear hb); (try clear hb2); (try clear hk); (try clear hi)) | ((with_reducible refine gate_dst (N := 59) rfl ?_); refine print_conv_str (w0 := w) w.heap.size rfl _ 22 9 5 rfl Tryd.underlying22 Tryd.underlying9 Tryd.underlying5 (fun k_ => (w.heap.size ≤ k_)) ((⟨#[92, 120]⟩ : ByteArray) ++ t150) rfl ?aL ?aF ?aB ?aS ?_; (case aB => exact (by repeat (first | (with_reducible first | exact HB.out | apply below_alloc | apply pw_below_drewN | apply below_drew1) | exact HB.out))); (case aF => exact (fun k_ hk => (Nat.le_trans (below_size (by repeat (first | (with_reducible first | exact HB.out | apply below_alloc | apply pw_below_drewN | apply below_drew1) | exact HB.out))) hk))); (case aS => exact (below_size (by repeat (first | (with_reducible first | exact HB.out | apply below_alloc | apply pw_below_drewN | apply below_drew1) | exact HB.out)))); (case aL => have := LMc53.out; first | omega | (simp only [ByteArray.size_append]; simp only [ByteArray.size, List.size_toArray, List.length_cons, List.length_nil] at this ⊢; omega)); intro v152 w55 ho hb hg hat; rw [← Ny151.out] at ho; have n0_ := Aside0.mk (hb); have n1_ := Aside0.mk (ho); clear HB; have HB := n0_; have HO153 := n1_; clear n0_ n1_; clear ho hb hg hat))
                                go_ret
                                exact ⟨_, by first | rfl | (simp [errW_none, errW_some] <;> rfl) | (simp [*, errW_none, errW_some] <;> rfl), by (with_reducible repeat (first | apply Kd.V_alloc | apply Kd.V_drewN | apply Kd.V_drew)); exact HO153.out, by repeat (first | (with_reducible first | exact HB.out | apply below_alloc | apply pw_below_drewN | apply below_drew1) | exact HB.out)⟩
                              · rw [if_neg c53] at H
                                exact absurd H (by simp)
                            · rw [if_neg c52] at H
                              exact absurd H (by simp)
                          · replace c50 := Bool.eq_false_iff.mpr c50
                            subst c50
                            have H1 : ((utf8_AppendRune.f ([] : List Int) a0).bind fun t154 => (some t154)) = some r := by rw [if_neg (show ¬ (false = true) by decide)] at H; exact H
                            clear H
                            have H := H1
                            clear H1
                            replace H := Option.bind_eq_some_iff.mp H
                            obtain ⟨t154, A560, H⟩ := H
                            replace H : (some t154) = some r := H
                            have A56 := Aside0.mk A560
                            clear A560
                            obtain rfl := Option.some.inj H
                            go_wp2_with (first | ((with_reducible refine gate_callee (f := 64) rfl ?_); refine goesL_ (some 61) rfl rfl Tryd.func64 (by kernel_rfl) rfl #[.slice none 0 0, .int .i32 a0] rfl (by (try simp only [List.map_toArray, List.map_cons, List.map_nil]); first | done | rfl | (simp only [List.length_drop, List.length_take]; rfl)) ?_; (refine (utf8_AppendRune.calls (fun k_ => some k_ = (.slice none 0 0 : Value).ownBlock) (.slice none 0 0) ([] : List Int) a0 t154 w _ ?side1 ?side2 A56.out).mono ?_); (case side1 => repeat (first | (with_reducible first | exact HB.out | apply below_alloc | apply pw_below_drewN | apply below_drew1) | exact HB.out)); (case side2 => exact Kd.R_nil _ _ _ _ _); rintro e w57 ⟨v155, rfl, ho0, hb, hkp⟩; refine ⟨_, rfl, ?_⟩; have n0_ := Aside0.mk (Kd.R_mono (ok' := fun k_ => (w.heap.size ≤ k_)) ho0 (fun k_ hk_ => Or.elim hk_ (fun hs_ => absurd hs_ (by simp [Value.ownBlock])) (fun hn_ => (Nat.le_trans (below_size (by repeat (first | (with_reducible first | exact HB.out | apply below_alloc | apply pw_below_drewN | apply below_drew1) | exact HB.out))) hn_)))); have n1_ := Aside0.mk (hb); clear HB; have HO156 := n0_; have HB := n1_; clear n0_ n1_; (try clear hb); (try clear hkp); (try clear ho0)))
                            go_ret
                            exact ⟨_, by first | rfl | (simp [errW_none, errW_some] <;> rfl) | (simp [*, errW_none, errW_some] <;> rfl), Kd.R_V (by (with_reducible repeat (first | apply Kd.R_alloc | apply Kd.R_drewN | apply Kd.R_drew)); exact HO156.out), by repeat (first | (with_reducible first | exact HB.out | apply below_alloc | apply pw_below_drewN | apply below_drew1) | exact HB.out)⟩
def IsS98 (w0 W : World) (g : Nat) (f0 : List Int) : Prop := ∃ A0 c0, W.heap[g]? = some (.cells #[.slice A0 f0.length c0] 98 (0, 0)) ∧ w0.heap.size ≤ g ∧ Kd.C (Kd.int .u8) w0 A0 f0.length f0
theorem IsS98.grown {w0 W : World} {g : Nat} {f0 : List Int} {W1 : World} {row : Option Nat} (h : IsS98 w0 W g f0) (hw : W.grownBy W1 row) (hne : some g ≠ row) : IsS98 w0 W1 g f0 := by
  obtain ⟨A0, c0, hb, hg, hr0⟩ := h
  exact ⟨A0, c0, blk_grown hb hw hne, hg, hr0⟩
theorem IsS98.fresh {w0 W : World} {g : Nat} {f0 : List Int} (h : IsS98 w0 W g f0) : ∀ k, W.heap.size ≤ k → k ≠ g := by
  obtain ⟨A0, c0, hb, hg, hr0⟩ := h
  exact Kd.freshB hb
theorem IsS98.kept {w0 W : World} {g : Nat} {f0 : List Int} {W1 : World} {S : Nat → Prop} (h : IsS98 w0 W g f0) (hk : Kept W W1 S) (hne : ¬ S g) : IsS98 w0 W1 g f0 := by
  obtain ⟨A0, c0, hb, hg, hr0⟩ := h
  exact ⟨A0, c0, blk_kept hb hk hne, hg, hr0⟩
theorem IsS98.below {w0 W : World} {g : Nat} {f0 : List Int} {W1 : World} (h : IsS98 w0 W g f0) (hw : Below W.heap.size W W1) : IsS98 w0 W1 g f0 := h.grown (grown_of_below hw none) (by simp)
theorem IsS98.alloc {w0 W : World} {g : Nat} {f0 : List Int} (h : IsS98 w0 W g f0) (o : Obj) : IsS98 w0 (W.alloc o) g f0 := h.below (below_alloc (Below.refl _ _) o)
theorem IsS98.drewN {w0 W : World} {g : Nat} {f0 : List Int} (h : IsS98 w0 W g f0) (m : Nat) : IsS98 w0 (W.drewN m) g f0 := h
theorem IsS98.drew {w0 W : World} {g : Nat} {f0 : List Int} (h : IsS98 w0 W g f0) : IsS98 w0 W.drew g f0 := h
theorem IsS98.at_ {w0 W : World} {g : Nat} {f0 : List Int} {w' : World} {m : Nat} (hq : W.drewN m = w') (h : IsS98 w0 W g f0) : IsS98 w0 w' g f0 := by subst hq; exact IsS98.drewN h m
theorem IsS98.apart {w0 W : World} {g : Nat} {f0 : List Int} {α : Type} {d : Kd α} {e : Nat} {base : Nat} {ok : Nat → Prop} {v : Value} {xs : List α} (h : IsS98 w0 W g f0) (ho : d.R e W base ok v xs) (ht : ∀ q, q ∈ e :: d.E → q ≠ 98) : d.R e W base (fun k => ok k ∧ k ≠ g) v xs := by
  obtain ⟨A0, c0, hb, hg, hr0⟩ := h
  exact Kd.R_types ho hb ht
theorem IsS98.own_ne {w0 W : World} {g : Nat} {f0 : List Int} {α : Type} {d : Kd α} {e : Nat} {base : Nat} {ok : Nat → Prop} {v : Value} {xs : List α} (h : IsS98 w0 W g f0) (ho : d.R e W base ok v xs) (ht : e ≠ 98) : some g ≠ v.ownBlock := by
  obtain ⟨A0, c0, hb, hg, hr0⟩ := h
  exact Kd.R_ne ho hb ht
theorem IsS98.lt {w0 W : World} {g : Nat} {f0 : List Int} (h : IsS98 w0 W g f0) : g < W.heap.size := by
  obtain ⟨A0, c0, hb, hg, hr0⟩ := h
  exact blk_lt hb
theorem IsS98.new (w0 W : World) (A0 : Option Addr) (c0 : Nat) (f0 : List Int) (hB : Below w0.heap.size w0 W) (hr0 : Kd.C (Kd.int .u8) w0 A0 f0.length f0) : IsS98 w0 (W.alloc (.cells #[.slice A0 f0.length c0] 98)) W.heap.size f0 := ⟨A0, c0, by simpa using heap_alloc_new W _, hB.size, hr0⟩
end Go.Proofs.YtdpnnglfaofjeaaDoor.PJh
namespace Go.Proofs.YtdpnnglfaofjeaaDoor.PJh
open Go.RowKit Go.Proofs.YtdpnnglfaofjeaaDoorW.PrintWords Go.Proofs.YtdpnnglfaofjeaaDoorW.PrintLast Go.Proofs.YtdpnnglfaofjeaaDoorW.PrintMore
open U (dig hexN hexN_small hexN_big)
set_option linter.unusedVariables false
set_option linter.unusedSimpArgs false
def IsB (l : List Int) : Prop := ∀ x ∈ l, 0 ≤ x ∧ x ≤ 255
theorem ev_some {α β : Type} {g : Nat → β → Option α} {v : β} {r : α} (h : Ev (fun k => g k v) r) : Ev (fun k => (some v).bind (g k)) r := h
theorem ev_neg {α : Type} {c : Prop} {_ : Decidable c} {a b : Nat → Option α} {r : α} (hc : ¬ c) (h : Ev b r) : Ev (fun k => if c then a k else b k) r := Ev.congr (fun k => if_neg hc) h
theorem ev_pos {α : Type} {c : Prop} {_ : Decidable c} {a b : Nat → Option α} {r : α} (hc : c) (h : Ev a r) : Ev (fun k => if c then a k else b k) r := Ev.congr (fun k => if_pos hc) h
theorem bytesOf_str (l : List Int) (h : IsB l) : bytesOf (strOfNums l) = l := by
  unfold bytesOf
  rw [strOfNums_data, List.map_map]
  conv => rhs; rw [← List.map_id l]
  apply List.map_congr_left
  intro x hx
  have := h x hx
  simp
  omega
theorem str_app (a b : List Int) : strOfNums a ++ strOfNums b = strOfNums (a ++ b) := by
  apply ByteArray.ext
  apply Array.toList_inj.1
  simp [strOfNums]
theorem str_size (l : List Int) : (strOfNums l).size = l.length := by
  show (strOfNums l).data.size = _
  rw [← Array.length_toList, strOfNums_data, List.length_map]
theorem dig_range (d : Nat) (h : d < 16) : 0 ≤ dig d ∧ dig d ≤ 255 := by unfold dig; split <;> omega
def Hexed (r : Int) : Prop := r = 39 ∨ r = 34 ∨ r = 60 ∨ r = 62 ∨ r = 38 ∨ r = 96 ∨ r = 61 ∨ (0 ≤ r ∧ r < 32) ∨ r = 127
instance (r : Int) : Decidable (Hexed r) := by unfold Hexed; infer_instance
def unitJ (r : Int) : List Int :=
  if r = 92 then [92, 92] else if r = 47 then [92, 47] else if r = 10 then [92, 110] else if r = 13 then [92, 114] else if r = 9 then [92, 116]
  else if r = 8232 then [92, 117, 50, 48, 50, 56] else if r = 8233 then [92, 117, 50, 48, 50, 57]
  else if Hexed r then [92, 120, dig (r.toNat / 16), dig (r.toNat % 16)] else Lib.encodeRuneZ r
theorem hex2_ev (n : Nat) (h : n < 256) : Ev (fun k => jsstr_hex.f k (n : Int) 2) (strOfNums [dig (n / 16), dig (n % 16)]) := by
  have hf : strconv_FormatUint.f (n : Int) 16 = some (strOfNums (hexN n)) := by
    unfold strconv_FormatUint.f
    rw [if_pos ⟨by omega, by omega, rfl⟩, Int.toNat_natCast]
  refine ⟨3, fun k hk => ?_⟩
  obtain ⟨k, rfl⟩ : ∃ m, k = m + 2 := ⟨k - 2, by omega⟩
  show jsstr_hex.f (k + 2) (n : Int) 2 = _
  unfold jsstr_hex.f
  rw [hf, Option.bind_some]
  by_cases h16 : n < 16
  · rw [hexN_small n h16]
    simp only [jsstr_hex.l0]
    have e1 : (⟨#[48]⟩ : ByteArray) ++ strOfNums [dig n] = strOfNums [dig (n / 16), dig (n % 16)] := by
      rw [show n / 16 = 0 from by omega, show n % 16 = n from by omega, show ([dig 0, dig n] : List Int) = [dig 0] ++ [dig n] from rfl, ← str_app]
      rfl
    rw [if_pos (by rw [str_size]; simp), if_pos (by rw [str_size]; simp), e1, if_neg (by rw [str_size]; simp)]
  · rw [hexN_big n h16, hexN_small (n / 16) (by omega)]
    simp only [jsstr_hex.l0]
    rw [if_neg (by rw [str_size]; simp)]
    rfl
theorem hex4_ev (n : Nat) (l : List Int) (h : n < 65536) (hl : hexN n = l) (h4 : l.length = 4) : Ev (fun k => jsstr_hex.f k (n : Int) 4) (strOfNums l) := by
  have hf : strconv_FormatUint.f (n : Int) 16 = some (strOfNums l) := by
    unfold strconv_FormatUint.f
    rw [if_pos ⟨by omega, by omega, rfl⟩, Int.toNat_natCast, hl]
  refine ⟨1, fun k hk => ?_⟩
  obtain ⟨k, rfl⟩ : ∃ m, k = m + 1 := ⟨k - 1, by omega⟩
  show jsstr_hex.f (k + 1) (n : Int) 4 = _
  unfold jsstr_hex.f
  rw [hf, Option.bind_some]
  simp only [jsstr_hex.l0]
  rw [if_neg (by rw [str_size, h4]; simp)]
theorem hexN4 (a b c d : Nat) (ha : 0 < a) (ha' : a < 16) (hb : b < 16) (hc : c < 16) (hd : d < 16) : hexN (a * 4096 + b * 256 + c * 16 + d) = [dig a, dig b, dig c, dig d] := by
  rw [hexN_big _ (by omega), hexN_big _ (by omega), hexN_big _ (by omega), hexN_small _ (by omega)]
  simp only [List.cons_append, List.nil_append]
  rw [show (a * 4096 + b * 256 + c * 16 + d) / 16 / 16 / 16 = a from by omega, show (a * 4096 + b * 256 + c * 16 + d) / 16 / 16 % 16 = b from by omega,
    show (a * 4096 + b * 256 + c * 16 + d) / 16 % 16 = c from by omega, show (a * 4096 + b * 256 + c * 16 + d) % 16 = d from by omega]
theorem append_f (r : Int) (h0 : -2147483648 ≤ r) (h1 : r ≤ 2147483647) : utf8_AppendRune.f [] r = some (Lib.encodeRuneZ r) := by
  unfold utf8_AppendRune.f
  by_cases h : 0 ≤ r ∧ r ≤ 127
  · rw [if_pos (by omega), if_pos (by simp), Lib.encodeRuneZ_one h.1 h.2, show r % 256 = r from by omega]
    rfl
  · rw [if_neg (by omega)]
    unfold utf8_appendRuneNonASCII.f
    rw [if_pos ⟨h0, h1, by omega, by simp⟩]
    rfl
theorem hexed_tail (r : Int) (h : 0 ≤ r ∧ r < 256) : ∀ (g : Nat → ByteArray → Option (List Int)), (g = fun k t138 => (if 2 + t138.size ≤ 9223372036854775807 then (if 2 + t138.size < 140737488355328 then (some (([] : List Int) ++ bytesOf ((⟨#[92, 120]⟩ : ByteArray) ++ t138))) else (none)) else (none))) →
    Ev (fun k => (jsstr_hex.f k (IntKind.u64.wrap r) 2).bind (g k)) [92, 120, dig (r.toNat / 16), dig (r.toNat % 16)] := by
  intro g hg
  subst hg
  obtain ⟨n, rfl⟩ := Int.eq_ofNat_of_zero_le h.1
  rw [U.wraps_u64 _ (by omega) (by omega), Int.toNat_natCast]
  refine Ev.bind (hex2_ev n (by omega)) ?_
  have h1 := dig_range (n / 16) (by omega)
  have h2 := dig_range (n % 16) (by omega)
  have e1 : (⟨#[92, 120]⟩ : ByteArray) ++ strOfNums [dig (n / 16), dig (n % 16)] = strOfNums [92, 120, dig (n / 16), dig (n % 16)] := by
    rw [show ([92, 120, dig (n / 16), dig (n % 16)] : List Int) = [92, 120] ++ [dig (n / 16), dig (n % 16)] from rfl, ← str_app]
    rfl
  rw [if_pos (by rw [str_size]; simp), if_pos (by rw [str_size]; simp), e1, bytesOf_str _ (by intro x hx; simp at hx; rcases hx with rfl | rfl | rfl | rfl <;> omega)]
  exact Ev.now _
theorem wide_tail (n : Nat) (l : List Int) (h : n < 65536) (hl : hexN n = l) (h4 : l.length = 4) (hB : IsB l) : ∀ (g : Nat → ByteArray → Option (List Int)), (g = fun k t142 => (if 2 + t142.size ≤ 9223372036854775807 then (if 2 + t142.size < 140737488355328 then (some (([] : List Int) ++ bytesOf ((⟨#[92, 117]⟩ : ByteArray) ++ t142))) else (none)) else (none))) →
    Ev (fun k => (jsstr_hex.f k (IntKind.u64.wrap (n : Int)) 4).bind (g k)) (92 :: 117 :: l) := by
  intro g hg
  subst hg
  rw [U.wraps_u64 _ (by omega) (by omega)]
  refine Ev.bind (hex4_ev n l h hl h4) ?_
  have e1 : (⟨#[92, 117]⟩ : ByteArray) ++ strOfNums l = strOfNums (92 :: 117 :: l) := by
    rw [show (92 :: 117 :: l : List Int) = [92, 117] ++ l from rfl, ← str_app]
    rfl
  rw [if_pos (by rw [str_size, h4]; decide), if_pos (by rw [str_size, h4]; decide), e1, bytesOf_str _ (by intro x hx; simp at hx; rcases hx with rfl | rfl | hx; omega; omega; exact hB x hx)]
  exact Ev.now _
theorem j1_ev (r : Int) (b : Bool) (h0 : -2147483648 ≤ r) (h1 : r ≤ 2147483647) (hb : b = true → 0 ≤ r ∧ r < 256) : Ev (fun k => jsstr_Unit.j1 k r b) (if b = true then [92, 120, dig (r.toNat / 16), dig (r.toNat % 16)] else Lib.encodeRuneZ r) := by
  cases b with
  | true =>
    rw [if_pos rfl]
    refine Ev.step (fun k => ?_) (hexed_tail r (hb rfl) _ rfl)
    simp only [jsstr_Unit.j1]
    rw [if_pos (by first | rfl | trivial)]
  | false =>
    rw [if_neg (by simp)]
    refine Ev.step (f := fun _ => some (Lib.encodeRuneZ r)) (fun k => ?_) (Ev.now _)
    simp only [jsstr_Unit.j1]
    rw [if_neg (by simp), append_f r h0 h1]
    rfl
theorem j0_true (r x3 : Int) (h : 0 ≤ r ∧ r < 256) : Ev (fun k => jsstr_Unit.j0 k r x3 true) [92, 120, dig (r.toNat / 16), dig (r.toNat % 16)] := by
  refine Ev.step (fun k => ?_) (hexed_tail r h _ rfl)
  simp only [jsstr_Unit.j0]
  rw [if_pos (by first | rfl | trivial)]
theorem j0_false (r : Int) (h0 : -2147483648 ≤ r) (h1 : r ≤ 2147483647) : Ev (fun k => jsstr_Unit.j0 k r r false) (if r = 8232 then [92, 117, 50, 48, 50, 56] else if r = 8233 then [92, 117, 50, 48, 50, 57] else if (0 ≤ r ∧ r < 32) ∨ r = 127 then [92, 120, dig (r.toNat / 16), dig (r.toNat % 16)] else Lib.encodeRuneZ r) := by
  by_cases c1 : r = 8232
  · subst c1
    rw [if_pos rfl]
    have hl : hexN 8232 = [50, 48, 50, 56] := hexN4 2 0 2 8 (by omega) (by omega) (by omega) (by omega) (by omega)
    refine Ev.step (fun k => ?_) (wide_tail 8232 _ (by omega) hl rfl (by intro x hx; simp at hx; omega) _ rfl)
    simp only [jsstr_Unit.j0]
    rw [if_neg (by simp), if_pos (by first | rfl | trivial)]
    rfl
  · rw [if_neg c1]
    by_cases c2 : r = 8233
    · subst c2
      rw [if_pos rfl]
      have hl : hexN 8233 = [50, 48, 50, 57] := hexN4 2 0 2 9 (by omega) (by omega) (by omega) (by omega) (by omega)
      refine Ev.step (fun k => ?_) (wide_tail 8233 _ (by omega) hl rfl (by intro x hx; simp at hx; omega) _ rfl)
      simp only [jsstr_Unit.j0]
      rw [if_neg (by simp), if_neg (by omega), if_pos (by first | rfl | trivial)]
      rfl
    · rw [if_neg c2]
      by_cases c3 : 0 ≤ r ∧ r < 32
      · have := j1_ev r true h0 h1 (fun _ => by omega)
        rw [if_pos rfl] at this
        rw [if_pos (.inl c3)]
        refine Ev.step (fun k => ?_) this
        simp only [jsstr_Unit.j0]
        rw [if_neg (by simp), if_neg c1, if_neg c2, if_pos c3.1, if_pos c3.2]
      · have hj := j1_ev r (r == 127) h0 h1 (fun h => by have := beq_iff_eq.1 h; omega)
        have e1 : (if (r == 127) = true then [92, 120, dig (r.toNat / 16), dig (r.toNat % 16)] else Lib.encodeRuneZ r) = (if (0 ≤ r ∧ r < 32) ∨ r = 127 then [92, 120, dig (r.toNat / 16), dig (r.toNat % 16)] else Lib.encodeRuneZ r) := by
          by_cases c4 : r = 127
          · rw [if_pos (beq_iff_eq.2 c4), if_pos (.inr c4)]
          · rw [if_neg (fun h => c4 (beq_iff_eq.1 h)), if_neg (by omega)]
        rw [e1] at hj
        refine Ev.step (fun k => ?_) hj
        simp only [jsstr_Unit.j0]
        rw [if_neg (by simp), if_neg c1, if_neg c2]
        by_cases c5 : r ≥ 0
        · rw [if_pos c5, if_neg (by omega)]
        · rw [if_neg c5]
theorem unit_ev (r : Int) (h0 : -2147483648 ≤ r) (h1 : r ≤ 2147483647) : Ev (fun k => jsstr_Unit.f k r) (unitJ r) := by
  have hf := j0_false r h0 h1
  unfold jsstr_Unit.f unitJ
  by_cases e1 : r = 92
  · simp only [if_pos e1]; exact Ev.now _
  by_cases e2 : r = 47
  · simp only [if_neg e1, if_pos e2]; exact Ev.now _
  by_cases e3 : r = 10
  · simp only [if_neg e1, if_neg e2, if_pos e3]; exact Ev.now _
  by_cases e4 : r = 13
  · simp only [if_neg e1, if_neg e2, if_neg e3, if_pos e4]; exact Ev.now _
  by_cases e5 : r = 9
  · simp only [if_neg e1, if_neg e2, if_neg e3, if_neg e4, if_pos e5]; exact Ev.now _
  simp only [if_neg e1, if_neg e2, if_neg e3, if_neg e4, if_neg e5]
  by_cases q1 : r = 39
  · subst q1; exact j0_true 39 39 (by omega)
  by_cases q2 : r = 34
  · subst q2; exact j0_true 34 34 (by omega)
  by_cases q3 : r = 60
  · subst q3; exact j0_true 60 60 (by omega)
  by_cases q4 : r = 62
  · subst q4; exact j0_true 62 62 (by omega)
  by_cases q5 : r = 38
  · subst q5; exact j0_true 38 38 (by omega)
  by_cases q6 : r = 96
  · subst q6; exact j0_true 96 96 (by omega)
  simp only [if_neg q1, if_neg q2, if_neg q3, if_neg q4, if_neg q5, if_neg q6]
  by_cases q7 : r = 61
  · subst q7; exact j0_true 61 61 (by omega)
  rw [show (r == 61) = false from beq_eq_false_iff_ne.2 q7]
  have e9 : (if Hexed r then [92, 120, dig (r.toNat / 16), dig (r.toNat % 16)] else Lib.encodeRuneZ r) = (if (0 ≤ r ∧ r < 32) ∨ r = 127 then [92, 120, dig (r.toNat / 16), dig (r.toNat % 16)] else Lib.encodeRuneZ r) := by
    by_cases c : (0 ≤ r ∧ r < 32) ∨ r = 127
    · rw [if_pos c, if_pos (by unfold Hexed; omega)]
    · rw [if_neg c, if_neg (by unfold Hexed; omega)]
  rw [e9]
  exact hf
end Go.Proofs.YtdpnnglfaofjeaaDoor.PJh
namespace Go.Proofs.YtdpnnglfaofjeaaDoor.PJh
open Go.RowKit Go.Proofs.YtdpnnglfaofjeaaDoorW.PrintWords Go.Proofs.YtdpnnglfaofjeaaDoorW.PrintLast Go.Proofs.YtdpnnglfaofjeaaDoorW.PrintMore
open U (dig hexN hexN_small hexN_big digs16j)
set_option linter.unusedVariables false
set_option linter.unusedSimpArgs false
set_option maxRecDepth 100000
theorem wraps_i64 (n : Int) (h₀ : 0 ≤ n) (h₁ : n < 2 ^ 63) : IntKind.i64.wrap n = n := by rw [IntKind.wrap_i64]; omega
theorem or_128 (y : Int) (h₀ : 0 ≤ y) (h₁ : y < 64) : Go.bits .or .i64 128 y = 128 + y := bits_join .i64 63 (by decide) wraps_i64 6 128 y (by omega) (by decide) (by omega) h₀ h₁ (by omega)
theorem or_192 (y : Int) (h₀ : 0 ≤ y) (h₁ : y < 32) : Go.bits .or .i64 192 y = 192 + y := bits_join .i64 63 (by decide) wraps_i64 5 192 y (by omega) (by decide) (by omega) h₀ h₁ (by omega)
theorem or_224 (y : Int) (h₀ : 0 ≤ y) (h₁ : y < 16) : Go.bits .or .i64 224 y = 224 + y := bits_join .i64 63 (by decide) wraps_i64 5 224 y (by omega) (by decide) (by omega) h₀ (by omega) (by omega)
theorem or_240 (y : Int) (h₀ : 0 ≤ y) (h₁ : y < 16) : Go.bits .or .i64 240 y = 240 + y := bits_join .i64 63 (by decide) wraps_i64 4 240 y (by omega) (by decide) (by omega) h₀ h₁ (by omega)
theorem and_63 (x : Int) (h₀ : 0 ≤ x) (h₁ : x < 2147483648) : Go.bits .and .i64 x 63 = x % 64 := bits_mask .i64 63 (by decide) wraps_i64 6 (by decide) x h₀ (by omega)
theorem utf8_ev (r : Int) : Ev (fun k => bobbinref06_UTF8.f k r) (strOfNums (Lib.encodeRuneZ r)) := by
  refine ⟨1, fun k hk => ?_⟩
  obtain ⟨k, rfl⟩ : ∃ m, k = m + 1 := ⟨k - 1, by omega⟩
  show bobbinref06_UTF8.f (k + 1) r = _
  unfold bobbinref06_UTF8.f Lib.encodeRuneZ
  by_cases c1 : r < 0
  · rw [if_pos c1, if_neg (by omega), if_neg (by omega), if_neg (by omega), if_neg (by omega)]
    simp only [bobbinref06_UTF8.j0]
    rw [if_pos (by first | rfl | trivial)]
    rfl
  rw [if_neg c1]
  by_cases c2 : r > 1114111
  · rw [if_pos c2, if_neg (by omega), if_neg (by omega), if_neg (by omega), if_neg (by omega)]
    simp only [bobbinref06_UTF8.j0]
    rw [if_pos (by first | rfl | trivial)]
    rfl
  rw [if_neg c2]
  by_cases c3 : 55296 ≤ r ∧ r ≤ 57343
  · rw [if_pos c3.1, decide_eq_true c3.2, if_neg (by omega), if_neg (by omega), if_neg (by omega), if_neg (by omega)]
    simp only [bobbinref06_UTF8.j0]
    rw [if_pos (by first | rfl | trivial)]
    rfl
  have e0 : (if r ≥ 55296 then bobbinref06_UTF8.j0 (k + 1) r (decide (r ≤ 57343)) else bobbinref06_UTF8.j0 (k + 1) r false) = bobbinref06_UTF8.j0 (k + 1) r false := by
    by_cases c : r ≥ 55296
    · rw [if_pos c, decide_eq_false (by omega)]
    · rw [if_neg c]
  rw [e0]
  simp only [bobbinref06_UTF8.j0]
  rw [if_neg (by simp)]
  by_cases d1 : r ≤ 127
  · rw [if_pos (show r < 128 by omega), if_pos (show 0 ≤ r ∧ r ≤ 127 by omega), show r % 256 = r from by omega]
  rw [if_neg (show ¬ r < 128 by omega), if_neg (show ¬ (0 ≤ r ∧ r ≤ 127) by omega)]
  by_cases d2 : r ≤ 2047
  · rw [if_pos (show r < 2048 by omega), if_pos (show 128 ≤ r ∧ r ≤ 2047 by omega), or_192 _ (by omega) (by omega), and_63 _ (by omega) (by omega), or_128 _ (by omega) (by omega), show (192 + r / 64) % 256 = 192 + r / 64 from by omega, show (128 + r % 64) % 256 = 128 + r % 64 from by omega]
  rw [if_neg (show ¬ r < 2048 by omega), if_neg (show ¬ (128 ≤ r ∧ r ≤ 2047) by omega)]
  by_cases d3 : r ≤ 65535
  · rw [if_pos (show r < 65536 by omega), if_pos (show (2048 ≤ r ∧ r < 55296) ∨ (57343 < r ∧ r ≤ 65535) by omega), or_224 _ (by omega) (by omega), and_63 (r / 64) (by omega) (by omega), and_63 r (by omega) (by omega), or_128 (r / 64 % 64) (by omega) (by omega), or_128 (r % 64) (by omega) (by omega),
      show (224 + r / 4096) % 256 = 224 + r / 4096 from by omega, show (128 + r / 64 % 64) % 256 = 128 + r / 64 % 64 from by omega, show (128 + r % 64) % 256 = 128 + r % 64 from by omega]
  · rw [if_neg (show ¬ r < 65536 by omega), if_neg (show ¬ ((2048 ≤ r ∧ r < 55296) ∨ (57343 < r ∧ r ≤ 65535)) by omega), if_pos (show 65536 ≤ r ∧ r ≤ 1114111 by omega), or_240 _ (by omega) (by omega), and_63 (r / 4096) (by omega) (by omega), and_63 (r / 64) (by omega) (by omega), and_63 r (by omega) (by omega), or_128 (r / 4096 % 64) (by omega) (by omega), or_128 (r / 64 % 64) (by omega) (by omega), or_128 (r % 64) (by omega) (by omega),
      show (240 + r / 262144) % 256 = 240 + r / 262144 from by omega, show (128 + r / 4096 % 64) % 256 = 128 + r / 4096 % 64 from by omega, show (128 + r / 64 % 64) % 256 = 128 + r / 64 % 64 from by omega, show (128 + r % 64) % 256 = 128 + r % 64 from by omega]
set_option maxHeartbeats 4000000 in
theorem hexed_call (n : Nat) (hn : n < 128) (w : World) (h1 : n ≠ 10) (h2 : n ≠ 13) (h3 : n ≠ 9) (hx : n < 32 ∨ n = 127 ∨ n = 39 ∨ n = 34 ∨ n = 60 ∨ n = 62 ∨ n = 38 ∨ n = 61 ∨ n = 96) :
    Calls Tryd.prog 34 #[.int .i64 (n : Int)] w fun e w' => e = .returned (.string (strOfNums [92, 120, dig (n / 16), dig (n % 16)])) ∧ Below w.heap.size w w' := by
  obtain ⟨m1, hm1, hl1, hl1'⟩ : ∃ m1 : Nat, n / 16 = m1 ∧ m1 < 16 ∧ (m1 : Int) < 16 := ⟨_, rfl, by omega, by omega⟩
  obtain ⟨m2, hm2, hl2, hl2'⟩ : ∃ m2 : Nat, n % 16 = m2 ∧ m2 < 16 ∧ (m2 : Int) < 16 := ⟨_, rfl, by omega, by omega⟩
  rw [hm1, hm2]
  have hq1 : (n : Int) / 16 = (m1 : Int) := by omega
  have hq2 : (n : Int) % 16 = (m2 : Int) := by omega
  have hq3 : (n : Int).tdiv 16 = (m1 : Int) := by rw [Int.tdiv_eq_ediv_of_nonneg (by omega)]; exact hq1
  have hq4 : IntKind.i64.wrap ((n : Int).tdiv 16) = (m1 : Int) := by rw [hq3]; exact wraps_i64 _ (by omega) (by omega)
  have hq5 : IntKind.i64.wrap (m1 : Int) = (m1 : Int) := wraps_i64 _ (by omega) (by omega)
  have hq6 : (n : Int).tmod 16 = (m2 : Int) := by rw [Int.tmod_eq_emod_of_nonneg (by omega)]; exact hq2
  have hq7 : IntKind.i64.wrap ((n : Int).tmod 16) = (m2 : Int) := by rw [hq6]; exact wraps_i64 _ (by omega) (by omega)
  have hd1 := digs16j m1 (show m1 < 16 by omega)
  have hd2 := digs16j m2 (show m2 < 16 by omega)
  generalize dig m1 = d1 at hd1 ⊢
  generalize dig m2 = d2 at hd2 ⊢
  have e1 : (({ data := #[92, 120] } : ByteArray) ++ strOfNums [d1, d2]) = strOfNums [92, 120, d1, d2] := by
    rw [show ([92, 120, d1, d2] : List Int) = [92, 120] ++ [d1, d2] from rfl, ← str_app]
    rfl
  have hszz : (strOfNums [d1, d2]).size = 2 := by rw [str_size]; rfl
  have hb1 : ((n : Int) == 92) = false := beq_eq_false_iff_ne.2 (by omega)
  have hb2 : ((n : Int) == 47) = false := beq_eq_false_iff_ne.2 (by omega)
  have hb3 : ((n : Int) == 10) = false := beq_eq_false_iff_ne.2 (by omega)
  have hb4 : ((n : Int) == 13) = false := beq_eq_false_iff_ne.2 (by omega)
  have hb5 : ((n : Int) == 9) = false := beq_eq_false_iff_ne.2 (by omega)
  have hb6 : ((n : Int) == 8232) = false := beq_eq_false_iff_ne.2 (by omega)
  have hb7 : ((n : Int) == 8233) = false := beq_eq_false_iff_ne.2 (by omega)
  have hge : (0 : Int) ≤ (n : Int) := by omega
  have fin : ∀ w1 : World, Below w.heap.size w w1 → (fun e w' => e = Ending.returned (.string (strOfNums [92, 120, d1, d2])) ∧ Below w.heap.size w w') (.returned (.string (({ data := #[92, 120] } : ByteArray) ++ strOfNums [d1, d2]))) w1 := fun w1 h => ⟨by rw [e1], h⟩
  have hstr := U.lit_strj w.drew [d1, d2] #[.int .u8 d1, .int .u8 d2] rfl 2 rfl (by simp)
  have hstr2 : (convert 22 9 (.slice (some ⟨w.heap.size, 0, none⟩) 2 2)).run Tryd.prog (w.alloc (.cells #[.int .u8 d1, .int .u8 d2] 5)).drew = .ok (.string (strOfNums [d1, d2])) (w.alloc (.cells #[.int .u8 d1, .int .u8 d2] 5)).drew := hstr
  have FIN := Lib.hid fin
  clear fin e1 hm1 hm2
  rcases hx with hx | hx | hx | hx | hx | hx | hx | hx | hx
  · have hlt : (n : Int) < 32 := by omega
    clear hx
    go_enter Tryd.func34, Tryd.ntmps34
    go_wp2
    go_region_with (fail)
    all_goals go_wp2
    all_goals go_ret
    all_goals exact FIN.out _ (((Below.refl _ _).alloc (Nat.le_refl _) _).drew)
  · have hlt : ¬ (n : Int) < 32 := by omega
    have t127 : ((n : Int) == 127) = true := beq_iff_eq.2 (by omega)
    clear hx
    go_enter Tryd.func34, Tryd.ntmps34
    go_wp2
    go_region_with (fail)
    all_goals go_wp2
    all_goals go_ret
    all_goals exact FIN.out _ (((Below.refl _ _).alloc (Nat.le_refl _) _).drew)
  · have hlt : ¬ (n : Int) < 32 := by omega
    have t127 : ((n : Int) == 127) = false := beq_eq_false_iff_ne.2 (by omega)
    have t39 : ((n : Int) == 39) = true := beq_iff_eq.2 (by omega)
    clear hx
    go_enter Tryd.func34, Tryd.ntmps34
    go_wp2
    go_region_with (fail)
    all_goals go_wp2
    all_goals go_ret
    all_goals exact FIN.out _ (((Below.refl _ _).alloc (Nat.le_refl _) _).drew)
  · have hlt : ¬ (n : Int) < 32 := by omega
    have t127 : ((n : Int) == 127) = false := beq_eq_false_iff_ne.2 (by omega)
    have t39 : ((n : Int) == 39) = false := beq_eq_false_iff_ne.2 (by omega)
    have t34 : ((n : Int) == 34) = true := beq_iff_eq.2 (by omega)
    clear hx
    go_enter Tryd.func34, Tryd.ntmps34
    go_wp2
    go_region_with (fail)
    all_goals go_wp2
    all_goals go_ret
    all_goals exact FIN.out _ (((Below.refl _ _).alloc (Nat.le_refl _) _).drew)
  · have hlt : ¬ (n : Int) < 32 := by omega
    have t127 : ((n : Int) == 127) = false := beq_eq_false_iff_ne.2 (by omega)
    have t39 : ((n : Int) == 39) = false := beq_eq_false_iff_ne.2 (by omega)
    have t34 : ((n : Int) == 34) = false := beq_eq_false_iff_ne.2 (by omega)
    have t60 : ((n : Int) == 60) = true := beq_iff_eq.2 (by omega)
    clear hx
    go_enter Tryd.func34, Tryd.ntmps34
    go_wp2
    go_region_with (fail)
    all_goals go_wp2
    all_goals go_ret
    all_goals exact FIN.out _ (((Below.refl _ _).alloc (Nat.le_refl _) _).drew)
  · have hlt : ¬ (n : Int) < 32 := by omega
    have t127 : ((n : Int) == 127) = false := beq_eq_false_iff_ne.2 (by omega)
    have t39 : ((n : Int) == 39) = false := beq_eq_false_iff_ne.2 (by omega)
    have t34 : ((n : Int) == 34) = false := beq_eq_false_iff_ne.2 (by omega)
    have t60 : ((n : Int) == 60) = false := beq_eq_false_iff_ne.2 (by omega)
    have t62 : ((n : Int) == 62) = true := beq_iff_eq.2 (by omega)
    clear hx
    go_enter Tryd.func34, Tryd.ntmps34
    go_wp2
    go_region_with (fail)
    all_goals go_wp2
    all_goals go_ret
    all_goals exact FIN.out _ (((Below.refl _ _).alloc (Nat.le_refl _) _).drew)
  · have hlt : ¬ (n : Int) < 32 := by omega
    have t127 : ((n : Int) == 127) = false := beq_eq_false_iff_ne.2 (by omega)
    have t39 : ((n : Int) == 39) = false := beq_eq_false_iff_ne.2 (by omega)
    have t34 : ((n : Int) == 34) = false := beq_eq_false_iff_ne.2 (by omega)
    have t60 : ((n : Int) == 60) = false := beq_eq_false_iff_ne.2 (by omega)
    have t62 : ((n : Int) == 62) = false := beq_eq_false_iff_ne.2 (by omega)
    have t38 : ((n : Int) == 38) = true := beq_iff_eq.2 (by omega)
    clear hx
    go_enter Tryd.func34, Tryd.ntmps34
    go_wp2
    go_region_with (fail)
    all_goals go_wp2
    all_goals go_ret
    all_goals exact FIN.out _ (((Below.refl _ _).alloc (Nat.le_refl _) _).drew)
  · have hlt : ¬ (n : Int) < 32 := by omega
    have t127 : ((n : Int) == 127) = false := beq_eq_false_iff_ne.2 (by omega)
    have t39 : ((n : Int) == 39) = false := beq_eq_false_iff_ne.2 (by omega)
    have t34 : ((n : Int) == 34) = false := beq_eq_false_iff_ne.2 (by omega)
    have t60 : ((n : Int) == 60) = false := beq_eq_false_iff_ne.2 (by omega)
    have t62 : ((n : Int) == 62) = false := beq_eq_false_iff_ne.2 (by omega)
    have t38 : ((n : Int) == 38) = false := beq_eq_false_iff_ne.2 (by omega)
    have t61 : ((n : Int) == 61) = true := beq_iff_eq.2 (by omega)
    clear hx
    go_enter Tryd.func34, Tryd.ntmps34
    go_wp2
    go_region_with (fail)
    all_goals go_wp2
    all_goals go_ret
    all_goals exact FIN.out _ (((Below.refl _ _).alloc (Nat.le_refl _) _).drew)
  · have hlt : ¬ (n : Int) < 32 := by omega
    have t127 : ((n : Int) == 127) = false := beq_eq_false_iff_ne.2 (by omega)
    have t39 : ((n : Int) == 39) = false := beq_eq_false_iff_ne.2 (by omega)
    have t34 : ((n : Int) == 34) = false := beq_eq_false_iff_ne.2 (by omega)
    have t60 : ((n : Int) == 60) = false := beq_eq_false_iff_ne.2 (by omega)
    have t62 : ((n : Int) == 62) = false := beq_eq_false_iff_ne.2 (by omega)
    have t38 : ((n : Int) == 38) = false := beq_eq_false_iff_ne.2 (by omega)
    have t61 : ((n : Int) == 61) = false := beq_eq_false_iff_ne.2 (by omega)
    have t96 : ((n : Int) == 96) = true := beq_iff_eq.2 (by omega)
    clear hx
    go_enter Tryd.func34, Tryd.ntmps34
    go_wp2
    go_region_with (fail)
    all_goals go_wp2
    all_goals go_ret
    all_goals exact FIN.out _ (((Below.refl _ _).alloc (Nat.le_refl _) _).drew)
set_option maxHeartbeats 4000000 in
theorem ref_unitj_calls (r : Int) (w : World) (h0 : -9223372036854775808 ≤ r) (h1 : r ≤ 9223372036854775807) : Calls Tryd.prog 34 #[.int .i64 r] w fun e w' => e = .returned (.string (strOfNums (unitJ r))) ∧ Below w.heap.size w w' := by
  unfold unitJ
  by_cases e1 : r = 92
  · subst e1
    rw [if_pos rfl]
    go_enter Tryd.func34, Tryd.ntmps34
    go_wp2
    go_ret
    exact ⟨rfl, Below.refl _ _⟩
  rw [if_neg e1]
  by_cases e2 : r = 47
  · subst e2
    rw [if_pos rfl]
    go_enter Tryd.func34, Tryd.ntmps34
    go_wp2
    go_ret
    exact ⟨rfl, Below.refl _ _⟩
  rw [if_neg e2]
  by_cases e3 : r = 10
  · subst e3
    rw [if_pos rfl]
    go_enter Tryd.func34, Tryd.ntmps34
    go_wp2
    go_ret
    exact ⟨rfl, Below.refl _ _⟩
  rw [if_neg e3]
  by_cases e4 : r = 13
  · subst e4
    rw [if_pos rfl]
    go_enter Tryd.func34, Tryd.ntmps34
    go_wp2
    go_ret
    exact ⟨rfl, Below.refl _ _⟩
  rw [if_neg e4]
  by_cases e5 : r = 9
  · subst e5
    rw [if_pos rfl]
    go_enter Tryd.func34, Tryd.ntmps34
    go_wp2
    go_ret
    exact ⟨rfl, Below.refl _ _⟩
  rw [if_neg e5]
  by_cases e6 : r = 8232
  · subst e6
    rw [if_pos rfl]
    go_enter Tryd.func34, Tryd.ntmps34
    go_wp2
    go_ret
    exact ⟨rfl, Below.refl _ _⟩
  rw [if_neg e6]
  by_cases e7 : r = 8233
  · subst e7
    rw [if_pos rfl]
    go_enter Tryd.func34, Tryd.ntmps34
    go_wp2
    go_ret
    exact ⟨rfl, Below.refl _ _⟩
  rw [if_neg e7]
  by_cases hh : Hexed r
  · rw [if_pos hh]
    unfold Hexed at hh
    obtain ⟨n, rfl⟩ := Int.eq_ofNat_of_zero_le (show 0 ≤ r by omega)
    rw [Int.toNat_natCast]
    exact hexed_call n (by omega) w (by omega) (by omega) (by omega) (by omega)
  · rw [if_neg hh]
    unfold Hexed at hh
    obtain ⟨k, hk⟩ := (utf8_ev r).rounds
    have b1 : (r == 92) = false := beq_eq_false_iff_ne.2 e1
    have b2 : (r == 47) = false := beq_eq_false_iff_ne.2 e2
    have b3 : (r == 10) = false := beq_eq_false_iff_ne.2 e3
    have b4 : (r == 13) = false := beq_eq_false_iff_ne.2 e4
    have b5 : (r == 9) = false := beq_eq_false_iff_ne.2 e5
    have b6 : (r == 8232) = false := beq_eq_false_iff_ne.2 e6
    have b7 : (r == 8233) = false := beq_eq_false_iff_ne.2 e7
    have t127 : (r == 127) = false := beq_eq_false_iff_ne.2 (by omega)
    have t39 : (r == 39) = false := beq_eq_false_iff_ne.2 (by omega)
    have t34 : (r == 34) = false := beq_eq_false_iff_ne.2 (by omega)
    have t60 : (r == 60) = false := beq_eq_false_iff_ne.2 (by omega)
    have t62 : (r == 62) = false := beq_eq_false_iff_ne.2 (by omega)
    have t38 : (r == 38) = false := beq_eq_false_iff_ne.2 (by omega)
    have t61 : (r == 61) = false := beq_eq_false_iff_ne.2 (by omega)
    have t96 : (r == 96) = false := beq_eq_false_iff_ne.2 (by omega)
    clear e1 e2 e3 e4 e5 e6 e7
    by_cases hneg : 0 ≤ r
    · have hlt : ¬ r < 32 := by omega
      clear hh
      go_enter Tryd.func34, Tryd.ntmps34
      go_wp2_with (go_at_call 65; refine (bobbinref06_UTF8.calls k r _ _ hk).mono ?_; rintro e w1 ⟨rfl, hb⟩)
      go_ret
      exact ⟨rfl, hb⟩
    · have hneg' : ¬ r ≥ 0 := by omega
      clear hh
      go_enter Tryd.func34, Tryd.ntmps34
      go_wp2_with (go_at_call 65; refine (bobbinref06_UTF8.calls k r _ _ hk).mono ?_; rintro e w1 ⟨rfl, hb⟩)
      go_ret
      exact ⟨rfl, hb⟩
end Go.Proofs.YtdpnnglfaofjeaaDoor.PJh
namespace Go.Proofs.YtdpnnglfaofjeaaDoor.PCs0
open Go.RowKit Go.Proofs.YtdpnnglfaofjeaaDoorW.PrintWords Go.Proofs.YtdpnnglfaofjeaaDoorW.PrintLast Go.Proofs.YtdpnnglfaofjeaaDoorW.PrintMore
attribute [local go_sem] max2_int min2_int max_two min_two max_three min_three max_four min_four   -- for this text's walks alone
set_option linter.unusedVariables false
set_option linter.unusedSimpArgs false
def errW : Option Int → Value
  | none => .nilIface
  | some c => .iface 0 (.int .i64 c)
theorem errW_none : errW none = .nilIface := rfl
theorem errW_some (c : Int) : errW (some c) = .iface 0 (.int .i64 c) := rfl
theorem info5 : (Tryd.prog.info? 5).map (fun i => (i.zero, i.size, i.bytes)) = some (some (.int .u8 0), 1, 1) := by kernel_rfl
end Go.Proofs.YtdpnnglfaofjeaaDoor.PCs0
namespace Go.Proofs.YtdpnnglfaofjeaaDoor.PCs0
open Go.RowKit Go.Proofs.YtdpnnglfaofjeaaDoorW.PrintWords Go.Proofs.YtdpnnglfaofjeaaDoorW.PrintLast Go.Proofs.YtdpnnglfaofjeaaDoorW.PrintMore
attribute [local go_sem] max2_int min2_int max_two min_two max_three min_three max_four min_four   -- for this text's walks alone
set_option linter.unusedVariables false
set_option linter.unusedSimpArgs false
def cssstr_simple.f (a0 : Int) : Option (Bool) := if a0 = 32 then (some true) else (if a0 = 45 then (some true) else (if a0 = 95 then (some true) else (if a0 = 46 then (some true) else (if a0 = 44 then (some true) else (if a0 ≥ 128 then (some true) else (if a0 ≥ 97 then (if a0 ≤ 122 then (some true) else (if a0 ≥ 65 then (if a0 ≤ 90 then (some true) else (if a0 ≥ 48 then (some (decide (a0 ≤ 57))) else (some false))) else (if a0 ≥ 48 then (some (decide (a0 ≤ 57))) else (some false)))) else (if a0 ≥ 65 then (if a0 ≤ 90 then (some true) else (if a0 ≥ 48 then (some (decide (a0 ≤ 57))) else (some false))) else (if a0 ≥ 48 then (some (decide (a0 ≤ 57))) else (some false)))))))))
set_option maxHeartbeats 8000000 in
set_option maxRecDepth 100000 in
theorem cssstr_simple.calls (a0 : Int) (r : Bool) (w : World) (h : cssstr_simple.f a0 = some r) :
    Calls Tryd.prog 59 #[.int .u8 a0] w fun e w' => e = .returned (.bool r) ∧ Drawn0 w w' := by
  have H : (if a0 = 32 then (some true) else (if a0 = 45 then (some true) else (if a0 = 95 then (some true) else (if a0 = 46 then (some true) else (if a0 = 44 then (some true) else (if a0 ≥ 128 then (some true) else (if a0 ≥ 97 then (if a0 ≤ 122 then (some true) else (if a0 ≥ 65 then (if a0 ≤ 90 then (some true) else (if a0 ≥ 48 then (some (decide (a0 ≤ 57))) else (some false))) else (if a0 ≥ 48 then (some (decide (a0 ≤ 57))) else (some false)))) else (if a0 ≥ 65 then (if a0 ≤ 90 then (some true) else (if a0 ≥ 48 then (some (decide (a0 ≤ 57))) else (some false))) else (if a0 ≥ 48 then (some (decide (a0 ≤ 57))) else (some false)))))))))) = some r := h
  clear h
  by_cases c2 : a0 = 32
  · rw [if_pos c2] at H
    have c2b0 : (a0 == 32) = true := beq_iff_eq.mpr c2
    have c2b1 : (a0 != 32) = false := bne_eq_false_iff_eq.mpr c2
    clear c2
    obtain rfl := Option.some.inj H
    go_enter Tryd.func59, Tryd.ntmps59
    go_wp2
    go_ret
    exact ⟨by first | rfl | (simp; done) | (simp [*]; done), by repeat (first | exact Drawn0.refl _ | apply Drawn0.step)⟩
  · rw [if_neg c2] at H
    have c2b0 : (a0 == 32) = false := beq_eq_false_iff_ne.mpr c2
    have c2b1 : (a0 != 32) = true := bne_iff_ne.mpr c2
    by_cases c3 : a0 = 45
    · rw [if_pos c3] at H
      have c3b0 : (a0 == 45) = true := beq_iff_eq.mpr c3
      have c3b1 : (a0 != 45) = false := bne_eq_false_iff_eq.mpr c3
      clear c3
      obtain rfl := Option.some.inj H
      go_enter Tryd.func59, Tryd.ntmps59
      go_wp2
      go_ret
      exact ⟨by first | rfl | (simp; done) | (simp [*]; done), by repeat (first | exact Drawn0.refl _ | apply Drawn0.step)⟩
    · rw [if_neg c3] at H
      have c3b0 : (a0 == 45) = false := beq_eq_false_iff_ne.mpr c3
      have c3b1 : (a0 != 45) = true := bne_iff_ne.mpr c3
      by_cases c4 : a0 = 95
      · rw [if_pos c4] at H
        have c4b0 : (a0 == 95) = true := beq_iff_eq.mpr c4
        have c4b1 : (a0 != 95) = false := bne_eq_false_iff_eq.mpr c4
        clear c4
        obtain rfl := Option.some.inj H
        go_enter Tryd.func59, Tryd.ntmps59
        go_wp2
        go_ret
        exact ⟨by first | rfl | (simp; done) | (simp [*]; done), by repeat (first | exact Drawn0.refl _ | apply Drawn0.step)⟩
      · rw [if_neg c4] at H
        have c4b0 : (a0 == 95) = false := beq_eq_false_iff_ne.mpr c4
        have c4b1 : (a0 != 95) = true := bne_iff_ne.mpr c4
        by_cases c5 : a0 = 46
        · rw [if_pos c5] at H
          have c5b0 : (a0 == 46) = true := beq_iff_eq.mpr c5
          have c5b1 : (a0 != 46) = false := bne_eq_false_iff_eq.mpr c5
          clear c5
          obtain rfl := Option.some.inj H
          go_enter Tryd.func59, Tryd.ntmps59
          go_wp2
          go_ret
          exact ⟨by first | rfl | (simp; done) | (simp [*]; done), by repeat (first | exact Drawn0.refl _ | apply Drawn0.step)⟩
        · rw [if_neg c5] at H
          have c5b0 : (a0 == 46) = false := beq_eq_false_iff_ne.mpr c5
          have c5b1 : (a0 != 46) = true := bne_iff_ne.mpr c5
          by_cases c6 : a0 = 44
          · rw [if_pos c6] at H
            have c6b0 : (a0 == 44) = true := beq_iff_eq.mpr c6
            have c6b1 : (a0 != 44) = false := bne_eq_false_iff_eq.mpr c6
            clear c6
            obtain rfl := Option.some.inj H
            go_enter Tryd.func59, Tryd.ntmps59
            go_wp2
            go_ret
            exact ⟨by first | rfl | (simp; done) | (simp [*]; done), by repeat (first | exact Drawn0.refl _ | apply Drawn0.step)⟩
          · rw [if_neg c6] at H
            have c6b0 : (a0 == 44) = false := beq_eq_false_iff_ne.mpr c6
            have c6b1 : (a0 != 44) = true := bne_iff_ne.mpr c6
            by_cases c7 : a0 ≥ 128
            · rw [if_pos c7] at H
              have c7b0 : decide (128 ≤ a0) = true := decide_eq_true c7
              clear c7
              obtain rfl := Option.some.inj H
              go_enter Tryd.func59, Tryd.ntmps59
              go_wp2
              go_ret
              exact ⟨by first | rfl | (simp; done) | (simp [*]; done), by repeat (first | exact Drawn0.refl _ | apply Drawn0.step)⟩
            · rw [if_neg c7] at H
              have c7b0 : decide (128 ≤ a0) = false := decide_eq_false c7
              clear c7
              by_cases c8 : a0 ≥ 97
              · rw [if_pos c8] at H
                have c8b0 : decide (97 ≤ a0) = true := decide_eq_true c8
                clear c8
                by_cases c9 : a0 ≤ 122
                · rw [if_pos c9] at H
                  have c9b0 : decide (a0 ≤ 122) = true := decide_eq_true c9
                  clear c9
                  obtain rfl := Option.some.inj H
                  go_enter Tryd.func59, Tryd.ntmps59
                  go_wp2
                  go_ret
                  exact ⟨by first | rfl | (simp; done) | (simp [*]; done), by repeat (first | exact Drawn0.refl _ | apply Drawn0.step)⟩
                · rw [if_neg c9] at H
                  have c9b0 : decide (a0 ≤ 122) = false := decide_eq_false c9
                  clear c9
                  by_cases c10 : a0 ≥ 65
                  · rw [if_pos c10] at H
                    have c10b0 : decide (65 ≤ a0) = true := decide_eq_true c10
                    clear c10
                    by_cases c11 : a0 ≤ 90
                    · rw [if_pos c11] at H
                      have c11b0 : decide (a0 ≤ 90) = true := decide_eq_true c11
                      clear c11
                      obtain rfl := Option.some.inj H
                      go_enter Tryd.func59, Tryd.ntmps59
                      go_wp2
                      go_ret
                      exact ⟨by first | rfl | (simp; done) | (simp [*]; done), by repeat (first | exact Drawn0.refl _ | apply Drawn0.step)⟩
                    · rw [if_neg c11] at H
                      have c11b0 : decide (a0 ≤ 90) = false := decide_eq_false c11
                      clear c11
                      by_cases c12 : a0 ≥ 48
                      · rw [if_pos c12] at H
                        have c12b0 : decide (48 ≤ a0) = true := decide_eq_true c12
                        clear c12
                        obtain rfl := Option.some.inj H
                        go_enter Tryd.func59, Tryd.ntmps59
                        go_wp2
                        go_ret
                        exact ⟨by first | rfl | (simp; done) | (simp [*]; done), by repeat (first | exact Drawn0.refl _ | apply Drawn0.step)⟩
                      · rw [if_neg c12] at H
                        have c12b0 : decide (48 ≤ a0) = false := decide_eq_false c12
                        clear c12
                        obtain rfl := Option.some.inj H
                        go_enter Tryd.func59, Tryd.ntmps59
                        go_wp2
                        go_ret
                        exact ⟨by first | rfl | (simp; done) | (simp [*]; done), by repeat (first | exact Drawn0.refl _ | apply Drawn0.step)⟩
                  · rw [if_neg c10] at H
                    have c10b0 : decide (65 ≤ a0) = false := decide_eq_false c10
                    clear c10
                    by_cases c13 : a0 ≥ 48
                    · rw [if_pos c13] at H
                      have c13b0 : decide (48 ≤ a0) = true := decide_eq_true c13
                      clear c13
                      obtain rfl := Option.some.inj H
                      go_enter Tryd.func59, Tryd.ntmps59
                      go_wp2
                      go_ret
                      exact ⟨by first | rfl | (simp; done) | (simp [*]; done), by repeat (first | exact Drawn0.refl _ | apply Drawn0.step)⟩
                    · rw [if_neg c13] at H
                      have c13b0 : decide (48 ≤ a0) = false := decide_eq_false c13
                      clear c13
                      obtain rfl := Option.some.inj H
                      go_enter Tryd.func59, Tryd.ntmps59
                      go_wp2
                      go_ret
                      exact ⟨by first | rfl | (simp; done) | (simp [*]; done), by repeat (first | exact Drawn0.refl _ | apply Drawn0.step)⟩
              · rw [if_neg c8] at H
                have c8b0 : decide (97 ≤ a0) = false := decide_eq_false c8
                clear c8
                by_cases c14 : a0 ≥ 65
                · rw [if_pos c14] at H
                  have c14b0 : decide (65 ≤ a0) = true := decide_eq_true c14
                  clear c14
                  by_cases c15 : a0 ≤ 90
                  · rw [if_pos c15] at H
                    have c15b0 : decide (a0 ≤ 90) = true := decide_eq_true c15
                    clear c15
                    obtain rfl := Option.some.inj H
                    go_enter Tryd.func59, Tryd.ntmps59
                    go_wp2
                    go_ret
                    exact ⟨by first | rfl | (simp; done) | (simp [*]; done), by repeat (first | exact Drawn0.refl _ | apply Drawn0.step)⟩
                  · rw [if_neg c15] at H
                    have c15b0 : decide (a0 ≤ 90) = false := decide_eq_false c15
                    clear c15
                    by_cases c16 : a0 ≥ 48
                    · rw [if_pos c16] at H
                      have c16b0 : decide (48 ≤ a0) = true := decide_eq_true c16
                      clear c16
                      obtain rfl := Option.some.inj H
                      go_enter Tryd.func59, Tryd.ntmps59
                      go_wp2
                      go_ret
                      exact ⟨by first | rfl | (simp; done) | (simp [*]; done), by repeat (first | exact Drawn0.refl _ | apply Drawn0.step)⟩
                    · rw [if_neg c16] at H
                      have c16b0 : decide (48 ≤ a0) = false := decide_eq_false c16
                      clear c16
                      obtain rfl := Option.some.inj H
                      go_enter Tryd.func59, Tryd.ntmps59
                      go_wp2
                      go_ret
                      exact ⟨by first | rfl | (simp; done) | (simp [*]; done), by repeat (first | exact Drawn0.refl _ | apply Drawn0.step)⟩
                · rw [if_neg c14] at H
                  have c14b0 : decide (65 ≤ a0) = false := decide_eq_false c14
                  clear c14
                  by_cases c17 : a0 ≥ 48
                  · rw [if_pos c17] at H
                    have c17b0 : decide (48 ≤ a0) = true := decide_eq_true c17
                    clear c17
                    obtain rfl := Option.some.inj H
                    go_enter Tryd.func59, Tryd.ntmps59
                    go_wp2
                    go_ret
                    exact ⟨by first | rfl | (simp; done) | (simp [*]; done), by repeat (first | exact Drawn0.refl _ | apply Drawn0.step)⟩
                  · rw [if_neg c17] at H
                    have c17b0 : decide (48 ≤ a0) = false := decide_eq_false c17
                    clear c17
                    obtain rfl := Option.some.inj H
                    go_enter Tryd.func59, Tryd.ntmps59
                    go_wp2
                    go_ret
                    exact ⟨by first | rfl | (simp; done) | (simp [*]; done), by repeat (first | exact Drawn0.refl _ | apply Drawn0.step)⟩
end Go.Proofs.YtdpnnglfaofjeaaDoor.PCs0
namespace Go.Proofs.YtdpnnglfaofjeaaDoor.U
open Go.RowKit Go.Proofs.YtdpnnglfaofjeaaDoorW.PrintWords Go.Proofs.YtdpnnglfaofjeaaDoorW.PrintLast Go.Proofs.YtdpnnglfaofjeaaDoorW.PrintMore
set_option linter.unusedVariables false
set_option linter.unusedSimpArgs false
set_option maxRecDepth 100000
def simpleB (b : Int) : Bool := decide (b = 32 ∨ b = 45 ∨ b = 95 ∨ b = 46 ∨ b = 44 ∨ b ≥ 128 ∨ 97 ≤ b ∧ b ≤ 122 ∨ 65 ≤ b ∧ b ≤ 90 ∨ 48 ≤ b ∧ b ≤ 57)
theorem simple_f (b : Int) : PCs0.cssstr_simple.f b = some (simpleB b) := by
  unfold PCs0.cssstr_simple.f simpleB
  repeat' split
  all_goals (congr 1; rw [Bool.eq_iff_iff]; simp; try omega)
def unitL (b : Int) : List Int := if b = 0 then [239, 191, 189] else if simpleB b = true then [b] else [92] ++ hexN b.toNat ++ [32]
theorem hexN_le : ∀ n : Nat, n < 65536 → (hexN n).length ≤ 4 := by
  intro n h
  rw [hexN]
  split
  · simp
  · rw [hexN]
    split
    · simp
    · rw [hexN]
      split
      · simp
      · rw [hexN_small _ (by omega)]
        simp
theorem unitL_le (b : Int) (h : 0 ≤ b ∧ b ≤ 255) : (unitL b).length ≤ 6 := by
  have := hexN_le b.toNat (by omega)
  unfold unitL
  split
  · simp
  · split <;> simp <;> omega
theorem RB.row {B g c : Nat} {W : World} {l : List Int} {C : Array Value} {fr : Nat × Nat} (hg : W.heap[g]? = some (.cells C 5 fr)) (hC : ∀ (i : Nat) (x : Int), l[i]? = some x → C[i]? = some (Value.int .u8 x)) (hB : B ≤ g) (hl : l.length ≤ 9223372036854775807) (hc : l.length ≤ c) : RB B W (.slice (some ⟨g, 0, none⟩) l.length c) l := by
  refine ⟨_, _, rfl, hc, fun W' hW => ?_⟩
  have hg' := (hW g hB (blk_lt' hg)).trans hg
  refine Kd.C_of_reads (d := 0) (h1 := fun _ => rfl) ⟨rfl, hl, fun hn => ⟨_, rfl, fun j hj => ?_⟩⟩
  rw [add_plain, cell_of_row W' g j _ _ _ hg', hC j (l[j]) (by simp [hj])]
  simp [List.getD_eq_getElem?_getD, hj]
theorem bytesRow_get (l : List Int) (hB : ∀ x ∈ l, 0 ≤ x ∧ x ≤ 255) (s : ByteArray) (hs : s.data.toList = l.map fun x => UInt8.ofNat x.toNat) (cap : Nat) (i : Nat) (x : Int) (h : l[i]? = some x) : (bytesRow s cap)[i]? = some (Value.int .u8 x) := by
  have hi : i < l.length := (List.getElem?_eq_some_iff.1 h).1
  have hx := hB x (List.mem_of_getElem? h)
  have hsz : s.data.size = l.length := by rw [← Array.length_toList, hs, List.length_map]
  have h1 : s.data[i]? = some (UInt8.ofNat x.toNat) := by rw [← Array.getElem?_toList, hs, List.getElem?_map, h]; rfl
  unfold bytesRow
  rw [Array.getElem?_append_left (by rw [Array.size_map]; omega), Array.getElem?_map, h1]
  simp
  omega
theorem dig_range (d : Nat) (h : d < 16) : 0 ≤ dig d ∧ dig d ≤ 255 := by unfold dig; split <;> omega
theorem hexN_range : ∀ n : Nat, ∀ x ∈ hexN n, 0 ≤ x ∧ x ≤ 255 := by
  intro n
  induction n using Nat.strongRecOn with
  | ind n ih =>
    intro x hx
    by_cases h : n < 16
    · rw [hexN_small n h] at hx
      simp at hx
      subst hx
      exact dig_range n h
    · rw [hexN_big n h] at hx
      rcases List.mem_append.1 hx with hx | hx
      · exact ih (n / 16) (by omega) x hx
      · simp at hx
        subst hx
        exact dig_range _ (by omega)
def UnitIs (w : World) (b : Int) (e : Ending) (w' : World) : Prop := ∃ v, e = .returned v ∧ RB w.heap.size w' v (unitL b) ∧ Below w.heap.size w w'
set_option maxHeartbeats 4000000 in
theorem unit_calls (b : Int) (hb : 0 ≤ b ∧ b ≤ 255) (w : World) (h : TabOK w) : Calls Tryd.prog 24 #[.int .u8 b] w (UnitIs w b) := by
  by_cases h0 : b = 0
  · subst h0
    have kc := Lib.run_convert_bytes_const (P := Tryd.prog) w 22 5 #[.int .u8 239, .int .u8 191, .int .u8 189] 3 3 Tryd.underlying22 Tryd.underlying5
    go_enter Tryd.func24, Tryd.ntmps24
    go_wp2
    go_ret
    have hn := heap_alloc_new w (.cells #[.int .u8 239, .int .u8 191, .int .u8 189] 5 (3, 4))
    exact ⟨_, rfl, RB.lit (l := [239, 191, 189]) (by exact hn) (Nat.le_refl _) (by decide) (Nat.le_refl _), (Below.refl _ _).alloc (Nat.le_refl _) _⟩
  · have hs := simple_f b
    cases hsb : simpleB b with
    | true =>
      rw [hsb] at hs
      go_enter Tryd.func24, Tryd.ntmps24
      go_wp2_with (go_at_call 59; refine (PCs0.cssstr_simple.calls b true _ hs).mono ?_; rintro e w1 ⟨rfl, hd⟩)
      go_ret
      have hb1 := hd.below
      have hn := heap_alloc_new w1 (.cells #[.int .u8 b] 5)
      exact ⟨_, rfl, by rw [show unitL b = [b] from by unfold unitL; rw [if_neg h0, if_pos hsb]]; exact RB.lit (l := [b]) (by exact hn) hb1.size (by simp) (Nat.le_refl _), hb1.alloc hb1.size _⟩
    | false =>
      rw [hsb] at hs
      obtain ⟨n, rfl⟩ := Int.eq_ofNat_of_zero_le hb.1
      go_enter Tryd.func24, Tryd.ntmps24
      go_wp2_with fail
      refine (PCs0.cssstr_simple.calls _ false _ hs).mono ?_
      rintro e w1 ⟨rfl, hd⟩
      have hb1 := hd.below
      go_wp2_with fail
      refine (format_calls n (by omega) _ (h.below hb1)).mono ?_
      rintro e w2 ⟨rfl, hb2⟩
      have hb12 := below_then hb1 hb1.size hb2
      have hsz : (strOfNums (hexN n)).size ≤ 4 := by rw [strOfNums_size]; exact hexN_le n (by omega)
      have kcv := fun s : ByteArray => run_bytes_of_string (P := Tryd.prog) w2 9 22 5 s Tryd.underlying9 Tryd.underlying22 Tryd.underlying5
      go_wp2_with fail
      go_ret
      have e1 : unitL (n : Int) = [92] ++ hexN n ++ [32] := by unfold unitL; rw [if_neg h0, if_neg (by simp [hsb])]; rfl
      have e2 : ([92] ++ hexN n ++ [32] : List Int).length = 1 + (strOfNums (hexN n)).size + 1 := by rw [strOfNums_size]; simp; omega
      have hsd : (({ data := #[92] } : ByteArray) ++ strOfNums (hexN n) ++ { data := #[32] }).data.toList = ([92] ++ hexN n ++ [32] : List Int).map fun x => UInt8.ofNat x.toNat := by
        simp [strOfNums]
      have hrg : ∀ x ∈ ([92] ++ hexN n ++ [32] : List Int), 0 ≤ x ∧ x ≤ 255 := by
        intro x hx
        simp only [List.mem_append, List.mem_singleton] at hx
        rcases hx with (rfl | hx) | rfl
        · omega
        · exact hexN_range n x hx
        · omega
      generalize ({ data := #[92] } : ByteArray) ++ strOfNums (hexN n) ++ { data := #[32] } = S at hsd
      have hcap : 1 + (strOfNums (hexN n)).size + 1 ≤ grownCap w2 (1 + (strOfNums (hexN n)).size + 1) 0 5 := grownCap_ge _ _ _ _
      generalize grownCap w2 (1 + (strOfNums (hexN n)).size + 1) 0 5 = cap at hcap
      have hn := heap_alloc_new w2 (.cells (bytesRow S cap) 5 ((bytesRow S cap).size, (bytesRow S cap).size + 1))
      refine ⟨_, rfl, ?_, (hb12.alloc hb12.size _).drew⟩
      rw [e1]
      have hR := RB.row (W := (w2.alloc (.cells (bytesRow S cap) 5 ((bytesRow S cap).size, (bytesRow S cap).size + 1))).drew) (l := [92] ++ hexN n ++ [32]) (c := cap) (B := w.heap.size) (g := w2.heap.size) hn (bytesRow_get _ hrg S hsd cap) hb12.size (by rw [e2]; omega) (by rw [e2]; exact hcap)
      rw [e2] at hR
      exact hR
def textL (l : List Int) : List Int := l.flatMap unitL
theorem textL_take (l : List Int) (i : Nat) (h : i < l.length) : textL (l.take (i + 1)) = textL (l.take i) ++ unitL (rd l (i : Int)) := by
  unfold textL
  rw [List.take_succ_eq_append_getElem h, List.flatMap_append]
  simp [rd, List.getD_eq_getElem?_getD, h]
end Go.Proofs.YtdpnnglfaofjeaaDoor.U
namespace Go.Proofs.YtdpnnglfaofjeaaDoor.U
open Go.RowKit Go.Proofs.YtdpnnglfaofjeaaDoorW.PrintWords Go.Proofs.YtdpnnglfaofjeaaDoorW.PrintLast Go.Proofs.YtdpnnglfaofjeaaDoorW.PrintMore
set_option linter.unusedVariables false
set_option linter.unusedSimpArgs false
set_option maxRecDepth 100000
def plainL : List Int := [97, 98, 99, 100, 101, 102, 103, 104, 105, 106, 107, 108, 109, 110, 111, 112, 113, 114, 115, 116, 117, 118, 119, 120, 121, 122, 65, 66, 67, 68, 69, 70, 71, 72, 73, 74, 75, 76, 77, 78, 79, 80, 81, 82, 83, 84, 85, 86, 87, 88, 89, 90, 48, 49, 50, 51, 52, 53, 54, 55, 56, 57, 32, 45, 95, 46, 44]
theorem plain_simple : ∀ x ∈ plainL, simpleB x = true := by decide +kernel
theorem plain_all : ∀ n : Nat, n < 128 → simpleB (n : Int) = true → (n : Int) ∈ plainL := by decide +kernel
theorem plain_at (i : Nat) (h : i < (⟨#[97, 98, 99, 100, 101, 102, 103, 104, 105, 106, 107, 108, 109, 110, 111, 112, 113, 114, 115, 116, 117, 118, 119, 120, 121, 122, 65, 66, 67, 68, 69, 70, 71, 72, 73, 74, 75, 76, 77, 78, 79, 80, 81, 82, 83, 84, 85, 86, 87, 88, 89, 90, 48, 49, 50, 51, 52, 53, 54, 55, 56, 57, 32, 45, 95, 46, 44]⟩ : ByteArray).size) : ((((⟨#[97, 98, 99, 100, 101, 102, 103, 104, 105, 106, 107, 108, 109, 110, 111, 112, 113, 114, 115, 116, 117, 118, 119, 120, 121, 122, 65, 66, 67, 68, 69, 70, 71, 72, 73, 74, 75, 76, 77, 78, 79, 80, 81, 82, 83, 84, 85, 86, 87, 88, 89, 90, 48, 49, 50, 51, 52, 53, 54, 55, 56, 57, 32, 45, 95, 46, 44]⟩ : ByteArray)[i]'h).toNat : Nat) : Int) = plainL.getD i 0 := by
  have h1 : ∀ i : Fin 67, ((((⟨#[97, 98, 99, 100, 101, 102, 103, 104, 105, 106, 107, 108, 109, 110, 111, 112, 113, 114, 115, 116, 117, 118, 119, 120, 121, 122, 65, 66, 67, 68, 69, 70, 71, 72, 73, 74, 75, 76, 77, 78, 79, 80, 81, 82, 83, 84, 85, 86, 87, 88, 89, 90, 48, 49, 50, 51, 52, 53, 54, 55, 56, 57, 32, 45, 95, 46, 44]⟩ : ByteArray)[i.1]'i.2).toNat : Nat) : Int) = plainL.getD i.1 0 := by decide +kernel
  exact h1 ⟨i, h⟩
theorem digs16 (d : Nat) (h : d < (⟨#[48, 49, 50, 51, 52, 53, 54, 55, 56, 57, 97, 98, 99, 100, 101, 102]⟩ : ByteArray).size) : ((((⟨#[48, 49, 50, 51, 52, 53, 54, 55, 56, 57, 97, 98, 99, 100, 101, 102]⟩ : ByteArray)[d]'h).toNat : Nat) : Int) = dig d := by
  have h1 : ∀ i : Fin 16, ((((⟨#[48, 49, 50, 51, 52, 53, 54, 55, 56, 57, 97, 98, 99, 100, 101, 102]⟩ : ByteArray)[i.1]'i.2).toNat : Nat) : Int) = dig i.1 := by decide +kernel
  exact h1 ⟨d, h⟩
theorem str_back (l : List Int) : ({ data := #[92] } : ByteArray) ++ strOfNums l = strOfNums ([92] ++ l) := by
  apply ByteArray.ext
  apply Array.toList_inj.1
  simp [strOfNums]
theorem lit_str (W : World) (l : List Int) (C : Array Value) (hC : C = (nums .u8 l).toArray) (n : Nat) (hn : n = l.length) (hl : l.length ≤ 9223372036854775807) :
    (convert 22 9 (.slice (some ⟨W.heap.size, 0, none⟩) n n)).run Tryd.prog (W.alloc (.cells C 5)) = .ok (.string (strOfNums l)) (W.alloc (.cells C 5)) := by
  subst hC
  subst hn
  obtain ⟨A, c, he, hc, hF⟩ := RB.lit (B := 0) (c := l.length) (heap_alloc_new W (.cells (nums .u8 l).toArray 5)) (Nat.zero_le _) hl (Nat.le_refl _)
  injection he with h1 h2 h3
  subst h1
  subst h3
  exact Kd.C_string (P := Tryd.prog) Tryd.underlying22 Tryd.underlying5 Tryd.underlying9 (Kd.F_now hF)
set_option maxHeartbeats 4000000 in
theorem ref_unit_calls (b : Int) (hb : 0 ≤ b ∧ b ≤ 255) (w : World) : Calls Tryd.prog 25 #[.int .u8 b] w fun e w' => e = .returned (.string (strOfNums (unitL b))) ∧ Below w.heap.size w w' := by
  by_cases h0 : b = 0
  · subst h0
    go_enter Tryd.func25, Tryd.ntmps25
    go_wp2
    go_ret
    exact ⟨rfl, Below.refl _ _⟩
  · by_cases h1 : 128 ≤ b
    · have hstr := lit_str w [b] #[.int .u8 b] rfl 1 rfl (by simp)
      go_enter Tryd.func25, Tryd.ntmps25
      go_wp2
      go_ret
      have e1 : unitL b = [b] := by unfold unitL; rw [if_neg h0, if_pos (by unfold simpleB; simp; omega)]
      rw [e1]
      exact ⟨rfl, (Below.refl _ _).alloc (Nat.le_refl _) _⟩
    · go_enter Tryd.func25, Tryd.ntmps25
      go_wp2
      go_loopw [3] (fun v3 wr => ∃ i : Nat, v3 = .int .i64 (i : Int) ∧ i ≤ 67 ∧ wr = w ∧ ∀ j : Nat, j < i → plainL.getD j 0 ≠ b) (fun v3 _ => match v3 with | .int _ i => 67 - i.toNat | _ => 0)
      case atStart => exact ⟨0, rfl, by omega, rfl, fun j hj => by omega⟩
      case round =>
        obtain ⟨i, rfl, hi, rfl, hne⟩ := hrel
        by_cases hlt : i < 67
        · have hli : (i : Int) < 67 := by omega
          have hpi := plain_at i (show i < 67 from hlt)
          have hmem : plainL.getD i 0 ∈ plainL := by
            have : i < plainL.length := hlt
            rw [List.getD_eq_getElem?_getD, List.getElem?_eq_getElem this]
            exact List.getElem_mem this
          have hne2 : plainL.getD i 0 ≠ b → ∀ j : Nat, j < i + 1 → plainL.getD j 0 ≠ b := fun h j hj => by
            rcases Nat.lt_or_ge j i with h1 | h1
            · exact hne j h1
            · obtain rfl : j = i := by omega
              exact h
          generalize plainL.getD i 0 = cc at hpi hmem hne2
          by_cases hcb : cc = b
          · subst hcb
            have e1 : unitL cc = [cc] := by unfold unitL; rw [if_neg h0, if_pos (plain_simple _ hmem)]
            have hstr := lit_str wr [cc] #[.int .u8 cc] rfl 1 rfl (by simp)
            go_wp2
            go_ret
            exact ⟨rfl, (Below.refl _ _).alloc (Nat.le_refl _) _⟩
          · have hcq : (cc == b) = false := beq_eq_false_iff_ne.2 hcb
            go_wp2
            go_roundw
            case rel => exact ⟨i + 1, rfl, by omega, trivial, hne2 hcb⟩
            case measure => simp; omega
        · obtain rfl : i = 67 := by omega
          obtain ⟨n, rfl⟩ := Int.eq_ofNat_of_zero_le hb.1
          have hns : simpleB (n : Int) = false := by
            cases h : simpleB (n : Int) with
            | false => rfl
            | true =>
              exfalso
              obtain ⟨j, hj, hje⟩ := List.getElem_of_mem (plain_all n (by omega) h)
              exact hne j hj (by rw [List.getD_eq_getElem?_getD, List.getElem?_eq_getElem hj]; exact hje)
          have e1 : unitL (n : Int) = [92] ++ (hexN n ++ [32]) := by unfold unitL; rw [if_neg h0, if_neg (by simp [hns])]; simp
          clear hne
          by_cases h16 : n < 16
          · have hd := digs16 n (show n < 16 from h16)
            have h16' : (n : Int) < 16 := by omega
            rw [hexN_small n h16] at e1
            generalize dig n = dn at hd e1
            have hstr := lit_str wr [dn, 32] #[.int .u8 dn, .int .u8 32] rfl 2 rfl (by simp)
            go_wp2
            go_ret
            rw [e1]
            exact ⟨by rw [← str_back]; rfl, (Below.refl _ _).alloc (Nat.le_refl _) _⟩
          · have hx1 : ¬ (n : Int) < 16 := by omega
            rw [hexN_big n h16, hexN_small (n / 16) (by omega)] at e1
            obtain ⟨m1, hm1, hl1, hl1'⟩ : ∃ m1 : Nat, n / 16 = m1 ∧ m1 < 16 ∧ (m1 : Int) < 16 := ⟨_, rfl, by omega, by omega⟩
            obtain ⟨m2, hm2, hl2, hl2'⟩ : ∃ m2 : Nat, n % 16 = m2 ∧ m2 < 16 ∧ (m2 : Int) < 16 := ⟨_, rfl, by omega, by omega⟩
            rw [hm1, hm2] at e1
            have hq0 : (n : Int).tdiv 16 = (m1 : Int) := by rw [Int.tdiv_eq_ediv_of_nonneg (by omega)]; omega
            have hq1 : IntKind.u8.wrap ((n : Int).tdiv 16) = (m1 : Int) := by rw [hq0, IntKind.wrap_u8]; omega
            have hq1' : IntKind.u8.wrap (m1 : Int) = (m1 : Int) := by rw [IntKind.wrap_u8]; omega
            have hq1'' : (n : Int) / 16 = (m1 : Int) := by omega
            have hq2 : (n : Int).tmod 16 = (m2 : Int) := by rw [Int.tmod_eq_emod_of_nonneg (by omega)]; omega
            have hq2' : IntKind.u8.wrap ((n : Int).tmod 16) = (m2 : Int) := by rw [hq2, IntKind.wrap_u8]; omega
            have hq2'' : (n : Int) % 16 = (m2 : Int) := by omega
            have hd1 := digs16 m1 (show m1 < 16 by omega)
            have hd2 := digs16 m2 (show m2 < 16 by omega)
            generalize dig m1 = d1 at hd1 e1
            generalize dig m2 = d2 at hd2 e1
            have hstr := lit_str wr.drew [d1, d2, 32] #[.int .u8 d1, .int .u8 d2, .int .u8 32] rfl 3 rfl (by simp)
            have hstr2 : (convert 22 9 (.slice (some ⟨wr.heap.size, 0, none⟩) 3 3)).run Tryd.prog (wr.alloc (.cells #[.int .u8 d1, .int .u8 d2, .int .u8 32] 5)).drew = .ok (.string (strOfNums [d1, d2, 32])) (wr.alloc (.cells #[.int .u8 d1, .int .u8 d2, .int .u8 32] 5)).drew := hstr
            have e2 := str_back [d1, d2, 32]
            have hszz : (strOfNums [d1, d2, 32]).size = 3 := by rw [strOfNums_size]; rfl
            clear hm1 hm2
            go_wp2
            go_region_with (fail)
            all_goals go_wp2
            all_goals go_ret
            all_goals exact ⟨by first | rfl | (rw [e1]; rfl), (((Below.refl _ _).alloc (Nat.le_refl _) _).drew)⟩
end Go.Proofs.YtdpnnglfaofjeaaDoor.U
namespace Go.Proofs.YtdpnnglfaofjeaaDoor.U
open Go.RowKit Go.Proofs.YtdpnnglfaofjeaaDoorW.PrintWords Go.Proofs.YtdpnnglfaofjeaaDoorW.PrintLast Go.Proofs.YtdpnnglfaofjeaaDoorW.PrintMore
set_option linter.unusedVariables false
set_option linter.unusedSimpArgs false
set_option maxRecDepth 100000
theorem rb_string {B : Nat} {W : World} {A : Option Addr} {n c : Nat} {l : List Int} (h : Kd.C (Kd.int .u8) W A n l) : (convert 22 9 (.slice A n c)).run Tryd.prog W = .ok (.string (strOfNums l)) W := Kd.C_string (P := Tryd.prog) Tryd.underlying22 Tryd.underlying5 Tryd.underlying9 h
set_option maxHeartbeats 4000000 in
theorem units_calls (w : World) (h : TabOK w) : Calls Tryd.prog 3 #[] w fun e w' => e = .returned (.bool true) ∧ Below w.heap.size w w' := by
  go_enter Tryd.func3, Tryd.ntmps3
  go_wp2_with fail
  go_loopw [1] (fun v1 wr => ∃ i : Nat, v1 = .int .i64 (i : Int) ∧ i ≤ 256 ∧ Below w.heap.size w wr) (fun v1 _ => match v1 with | .int _ i => 256 - i.toNat | _ => 0)
  case atStart => exact ⟨0, rfl, by omega, Below.refl _ _⟩
  case round =>
    obtain ⟨i, rfl, hi, hb⟩ := hrel
    by_cases hlt : i < 256
    · have hw : IntKind.u8.wrap (i : Int) = (i : Int) := by rw [IntKind.wrap_u8]; omega
      have hir : 0 ≤ (i : Int) ∧ (i : Int) ≤ 255 := by omega
      have hil : (i : Int) < 256 := by omega
      have hbd := below_drew hb
      have hun := fun W hW => unit_calls (i : Int) hir W hW
      have hru := fun W => ref_unit_calls (i : Int) hir W
      have hub : Hid (∀ W : World, TabOK W → Calls Tryd.prog 24 #[.int .u8 (i : Int)] W (UnitIs W (i : Int))) := Lib.hid hun
      clear hun
      go_wp2_with fail
      go_region_with (first
        | (go_at_call 24; go_loud (
            refine (unit_calls (i : Int) hir _ (h.below hbd)).mono ?_
            rintro e w1 ⟨v1, rfl, hr1, hb1⟩
            obtain ⟨A1, c1, rfl, hc1, hC1⟩ := hr1.reads
            have hs1 := rb_string (B := 0) (c := c1) hC1
            have hb1' := below_then hbd hbd.size hb1))
        | (go_at_call 25; go_loud (
            refine (ref_unit_calls (i : Int) hir w1).mono ?_
            rintro e w2 ⟨rfl, hb2⟩
            have hs2 := rb_string (B := 0) (c := c1) (Kd.C_below hC1 hb2)
            have hb2' := below_then hb1' hb1'.size hb2)))
      all_goals go_wp2
      all_goals go_roundw
      all_goals first
        | exact ⟨i + 1, rfl, by omega, hb2'⟩
        | (simp; omega)
    · have hil : ¬ (i : Int) < 256 := by omega
      go_wp2
      go_ret
      exact ⟨rfl, hb⟩
end Go.Proofs.YtdpnnglfaofjeaaDoor.U
namespace Go.Proofs.YtdpnnglfaofjeaaDoor.U
open Go.RowKit Go.Proofs.YtdpnnglfaofjeaaDoorW.PrintWords Go.Proofs.YtdpnnglfaofjeaaDoorW.PrintLast Go.Proofs.YtdpnnglfaofjeaaDoorW.PrintMore
set_option linter.unusedVariables false
set_option linter.unusedSimpArgs false
set_option maxRecDepth 100000
theorem bytesOf_str (l : List Int) (h : ∀ x ∈ l, 0 ≤ x ∧ x ≤ 255) : bytesOf (strOfNums l) = l := by
  unfold bytesOf
  rw [strOfNums_data, List.map_map]
  conv => rhs; rw [← List.map_id l]
  apply List.map_congr_left
  intro x hx
  have := h x hx
  simp
  omega
theorem unitL_range (b : Int) (hb : 0 ≤ b ∧ b ≤ 255) : ∀ x ∈ unitL b, 0 ≤ x ∧ x ≤ 255 := by
  intro x hx
  unfold unitL at hx
  split at hx
  · simp at hx; omega
  · split at hx
    · simp at hx; omega
    · simp only [List.mem_append, List.mem_singleton] at hx
      rcases hx with (rfl | hx) | rfl
      · omega
      · exact hexN_range _ x hx
      · omega
set_option maxHeartbeats 4000000 in
theorem ref_text_calls (l : List Int) (A : Option Addr) (c : Nat) (w : World) (hp : Kd.C (Kd.int .u8) w A l.length l) (hc : l.length ≤ c) (hB : ∀ x ∈ l, 0 ≤ x ∧ x ≤ 255) (hN : l.length ≤ 1099511627776) :
    Calls Tryd.prog 28 #[.slice A l.length c] w fun e w' => e = .returned (.string (strOfNums (textL l))) ∧ Below w.heap.size w w' := by
  go_enter Tryd.func28, Tryd.ntmps28
  go_wp2_with fail
  go_loopw [3, 4] (fun v3 v4 wr => ∃ (i : Nat), v4 = .int .i64 (i : Int) ∧ i ≤ l.length ∧ OB w wr v3 (textL (l.take i)) ∧ (textL (l.take i)).length ≤ 6 * i ∧ Below w.heap.size w wr) (fun _ v4 _ => match v4 with | .int _ i => l.length - i.toNat | _ => 0)
  case atStart => exact ⟨0, rfl, Nat.zero_le _, Kd.R_nil _ _ _ _ _, by simp [textL], Below.refl _ _⟩
  case round =>
    obtain ⟨i, rfl, hi, ho, hlen, hb⟩ := hrel
    by_cases hlt : i < l.length
    · obtain ⟨ad, rfl, hcell⟩ := Kd.at_int (Kd.C_below hp hb) (i : Int) (by omega) (by omega)
      rw [Int.toNat_natCast] at hcell
      have hx : 0 ≤ rd l (i : Int) ∧ rd l (i : Int) ≤ 255 := by
        have : rd l (i : Int) = l[i] := by simp [rd, List.getD_eq_getElem?_getD, hlt]
        rw [this]
        exact hB _ (List.getElem_mem hlt)
      have hts := textL_take l i hlt
      have hul := unitL_le _ hx
      have hbo := bytesOf_str _ (unitL_range _ hx)
      generalize rd l (i : Int) = b at hcell hx hts hul hbo
      have HT := Lib.hid hts
      have hlen2 : (textL (l.take (i + 1))).length ≤ 6 * (i + 1) := by rw [hts, List.length_append]; omega
      clear hts
      have hss : (strOfNums (unitL b)).size ≤ 6 := by rw [strOfNums_size]; exact hul
      go_wp2_with fail
      refine (ref_unit_calls b hx wr).mono ?_
      rintro e w1 ⟨rfl, hb1⟩
      have ho1 := Kd.R_below ho hb1
      have hb1' := below_then hb hb.size hb1
      generalize textL (l.take i) = tx at ho1 ho hlen HT
      generalize strOfNums (unitL b) = su at hss hbo
      go_wp2_with (at_builtin; refine appS (w0 := w) rfl _ _ rfl u3 _ su rfl rfl ho1 hb1' (by omega) ?_; intro v2 w2 ho2 hb2 _ _)
      go_roundw
      case rel => exact ⟨i + 1, rfl, by omega, by rw [HT.out]; rw [hbo] at ho2; exact ho2, hlen2, hb2⟩
      case measure => simp; omega
    · have hie : i = l.length := by omega
      subst hie
      rw [List.take_length] at ho
      obtain ⟨A3, c3, rfl, hc3, hC3⟩ := Kd.R_reads ho
      have hs3 := rb_string (B := 0) (c := c3) hC3
      go_wp2
      go_ret
      exact ⟨rfl, hb⟩
end Go.Proofs.YtdpnnglfaofjeaaDoor.U
namespace Go.Proofs.YtdpnnglfaofjeaaDoor.PSc
open Go.RowKit Go.Proofs.YtdpnnglfaofjeaaDoorW.PrintWords Go.Proofs.YtdpnnglfaofjeaaDoorW.PrintLast Go.Proofs.YtdpnnglfaofjeaaDoorW.PrintMore
attribute [local go_sem] max2_int min2_int max_two min_two max_three min_three max_four min_four   -- for this text's walks alone
set_option linter.unusedVariables false
set_option linter.unusedSimpArgs false
def errW : Option Int → Value
  | none => .nilIface
  | some c => .iface 0 (.int .i64 c)
theorem errW_none : errW none = .nilIface := rfl
theorem errW_some (c : Int) : errW (some c) = .iface 0 (.int .i64 c) := rfl
theorem info5 : (Tryd.prog.info? 5).map (fun i => (i.zero, i.size, i.bytes)) = some (some (.int .u8 0), 1, 1) := by kernel_rfl
end Go.Proofs.YtdpnnglfaofjeaaDoor.PSc
namespace Go.Proofs.YtdpnnglfaofjeaaDoor.PSc
open Go.RowKit Go.Proofs.YtdpnnglfaofjeaaDoorW.PrintWords Go.Proofs.YtdpnnglfaofjeaaDoorW.PrintLast Go.Proofs.YtdpnnglfaofjeaaDoorW.PrintMore
attribute [local go_sem] max2_int min2_int max_two min_two max_three min_three max_four min_four   -- for this text's walks alone
set_option linter.unusedVariables false
set_option linter.unusedSimpArgs false
def scheme_small.l0 : Nat → List Int → List Int → Int → Int → Option (List Int)
  | 0, _, _, _, _ => none
  | k + 1, x3, x9, x10, x11 => if x11 < x10 then (if 0 ≤ x11 then (if x11 < (x9.length : Int) then (if (rd x9 x11) ≥ 65 then (if (rd x9 x11) ≤ 90 then (if x11 < (x3.length : Int) then (scheme_small.l0 k (x3.set (x11 : Int).toNat (((rd x9 x11) + 32) % 256)) x9 x10 (wrap64 (x11 + 1))) else (none)) else (if x11 < (x3.length : Int) then (scheme_small.l0 k (x3.set (x11 : Int).toNat (rd x9 x11)) x9 x10 (wrap64 (x11 + 1))) else (none))) else (if x11 < (x3.length : Int) then (scheme_small.l0 k (x3.set (x11 : Int).toNat (rd x9 x11)) x9 x10 (wrap64 (x11 + 1))) else (none))) else (none)) else (none)) else (some x3)
def scheme_small.f (k : Nat) (l0 : List Int) : Option (List Int) := if 0 ≤ (l0.length : Int) then (if ((l0.length : Int) : Int).toNat ≤ 281474976710656 then (scheme_small.l0 k (List.replicate ((l0.length : Int) : Int).toNat 0) l0 (l0.length : Int) 0) else (none)) else (none)
set_option maxHeartbeats 8000000 in
set_option maxRecDepth 100000 in
theorem scheme_small.calls (k : Nat) (A0 : Option Addr) (c0 : Nat) (l0 : List Int) (r : List Int) (w : World) (hr0 : Kd.C (Kd.int .u8) w A0 l0.length l0) (hc0 : l0.length ≤ c0) (h : scheme_small.f k l0 = some r) :
    Calls Tryd.prog 69 #[.slice A0 l0.length c0] w fun e w' => ∃ v0_ : Value, e = .returned (v0_) ∧ Kd.R (Kd.int .u8) 5 w' w.heap.size (fun _ => True) v0_ r ∧ Below w.heap.size w w' := by
  have HR0 := Aside0.mk hr0
  have HC0 := Aside0.mk hc0
  clear hr0 hc0
  have HB := Aside0.mk (Below.refl w.heap.size w)
  have H : (if 0 ≤ (l0.length : Int) then (if ((l0.length : Int) : Int).toNat ≤ 281474976710656 then (scheme_small.l0 k (List.replicate ((l0.length : Int) : Int).toNat 0) l0 (l0.length : Int) 0) else (none)) else (none)) = some r := h
  clear h
  by_cases c2 : 0 ≤ (l0.length : Int)
  · rw [if_pos c2] at H
    have c2b0 := eq_true c2
    have c2b1 : decide (0 ≤ (l0.length : Int)) = true := decide_eq_true c2
    clear c2
    by_cases c3 : ((l0.length : Int) : Int).toNat ≤ 281474976710656
    · rw [if_pos c3] at H
      have c3b0 := eq_true c3
      have c3b1 : decide (((l0.length : Int) : Int).toNat ≤ 281474976710656) = true := decide_eq_true c3
      clear c3
      obtain ⟨y101, hy101⟩ : ∃ y_ : List Int, y_ = (List.replicate ((l0.length : Int) : Int).toNat 0) := ⟨_, rfl⟩
      replace H : (scheme_small.l0 k y101 l0 (l0.length : Int) 0) = some r := by first | (rw [hy101]; with_reducible exact H) | (have H2_ := (Option.bind_some _ _).symm.trans H; rw [hy101]; with_reducible exact H2_) | (have H2_ := (Option.bind_some _ _).symm.trans H; with_reducible exact H2_) | with_reducible exact H | (rw [hy101]; exact H) | exact H
      have Ny101 := Aside0.mk hy101
      clear hy101
      have H' := Aside0.mk H
      clear H
      go_enter Tryd.func69, Tryd.ntmps69
      go_wp2_with (first | ((with_reducible refine gate_dst (N := 8) rfl ?_); refine Kd.R_make (Kd.int .u8) _ 5 rfl (N := 8) rfl 22 _ _ rfl (l0.length : Int) rfl rfl Tryd.underlying22 (.int .u8 0) 1 info5 rfl (by decide) (by omega) 0 (ok := fun _ => True) (okp := fun _ => True) rfl (fun _ hk => hk) trivial (of_decide_eq_true (by first | (with_reducible assumption) | assumption)) (Nat.le_trans (Nat.mul_le_mul_right _ (of_decide_eq_true (by first | (with_reducible assumption) | assumption) : (l0.length : Int).toNat ≤ 281474976710656)) (by omega)) (Below.refl _ _) (Nat.le_refl _) ?_; intro v102 w4 ho5 hb hg_ hnew_; clear hg_ hnew_; (first | rw [← Ny101.out] at ho5 | (simp only [Int.reduceToNat] at ho5; rw [← Ny101.out] at ho5)); have n0_ := Aside0.mk (Kd.R_lower ho5 (below_size (by repeat (first | (with_reducible first | exact HB.out | apply below_alloc | apply pw_below_drewN | apply below_drew1) | exact HB.out)))); have n1_ := Aside0.mk (below_step (by repeat (first | (with_reducible first | exact HB.out | apply below_alloc | apply pw_below_drewN | apply below_drew1) | exact HB.out)) hb); clear HB; have HO103 := n0_; have HB := n1_; clear n0_ n1_; clear hb ho5))
      go_loopg [11] k (fun kq v11 w' => ∃ (x3_1 : List Int) (x11_1 : Int), v11 = .int .i64 x11_1 ∧ Aside0 (scheme_small.l0 kq x3_1 l0 (l0.length : Int) x11_1 = some r) ∧ Aside0 (kq ≤ k) ∧ Aside0 (Kd.R (Kd.int .u8) 5 w' w.heap.size (fun _ => True) v102 x3_1) ∧ Aside0 (Below w.heap.size w w'))
      case atStart => exact ⟨(y101), (0), (by first | rfl | (simp; done) | (simp [*]; done)), H', ⟨Nat.le_refl _⟩, ⟨by (with_reducible repeat (first | apply Kd.R_alloc | apply Kd.R_drewN | apply Kd.R_drew)); exact HO103.out⟩, ⟨by repeat (first | (with_reducible first | exact HB.out | apply below_alloc | apply pw_below_drewN | apply below_drew1) | exact HB.out)⟩⟩
      case round =>
        clear H'
        try clear c2
        try clear c2b0
        try clear c2b1
        try clear p2
        try clear c3
        try clear c3b0
        try clear c3b1
        obtain ⟨x3_1, x11_1, rfl, HA, HK1, HO_3, HB⟩ := hrel
        cases gk with
        | zero => exact absurd HA.out (by simp [scheme_small.l0])
        | succ k1 =>
          have H := HA.out
          clear HA
          simp only [scheme_small.l0] at H
          by_cases c6 : x11_1 < (l0.length : Int)
          · rw [if_pos c6] at H
            have c6b0 : decide (x11_1 < (l0.length : Int)) = true := decide_eq_true c6
            clear c6
            by_cases c7 : 0 ≤ x11_1
            · rw [if_pos c7] at H
              have c7b0 : decide (0 ≤ x11_1) = true := decide_eq_true c7
              clear c7
              by_cases c8 : x11_1 < (l0.length : Int)
              · rw [if_pos c8] at H
                have c8b0 : decide (x11_1 < (l0.length : Int)) = true := decide_eq_true c8
                clear c8
                by_cases c9 : (rd l0 x11_1) ≥ 65
                · rw [if_pos c9] at H
                  have c9b0 : decide (65 ≤ (rd l0 x11_1)) = true := decide_eq_true c9
                  clear c9
                  by_cases c10 : (rd l0 x11_1) ≤ 90
                  · rw [if_pos c10] at H
                    have c10b0 : decide ((rd l0 x11_1) ≤ 90) = true := decide_eq_true c10
                    clear c10
                    by_cases c11 : x11_1 < (x3_1.length : Int)
                    · rw [if_pos c11] at H
                      have c11b0 : decide (x11_1 < (x3_1.length : Int)) = true := decide_eq_true c11
                      clear c11
                      obtain ⟨y105, hy105⟩ : ∃ y_ : List Int, y_ = (x3_1.set (x11_1 : Int).toNat (((rd l0 x11_1) + 32) % 256)) := ⟨_, rfl⟩
                      replace H : (scheme_small.l0 k1 y105 l0 (l0.length : Int) (wrap64 (x11_1 + 1))) = some r := by first | (rw [hy105]; with_reducible exact H) | (have H2_ := (Option.bind_some _ _).symm.trans H; rw [hy105]; with_reducible exact H2_) | (have H2_ := (Option.bind_some _ _).symm.trans H; with_reducible exact H2_) | with_reducible exact H | (rw [hy105]; exact H) | exact H
                      have Ny105 := Aside0.mk hy105
                      clear hy105
                      have H' := Aside0.mk H
                      clear H
                      have p104 : 0 ≤ (x11_1 : Int) := of_decide_eq_true (by first | (with_reducible assumption) | assumption)
                      have q104 : x11_1 < (l0.length : Int) := of_decide_eq_true (by first | (with_reducible assumption) | assumption)
                      obtain ⟨ad104, e104, hx104_0⟩ := Kd.at_int HR0.out x11_1 p104 q104
                      cases e104
                      replace hx104_0 := (HB.out.cell (World.block_lt_of_cell? w _ hx104_0)).trans hx104_0
                      replace p104 := eq_true p104
                      replace q104 := eq_true q104
                      have p12 : 0 ≤ (x11_1 : Int) := of_decide_eq_true (by first | (with_reducible assumption) | assumption)
                      have q12 : (x11_1 : Int) < ((x3_1.length : Int) : Int) := of_decide_eq_true (by first | (with_reducible assumption) | assumption)
                      obtain ⟨go12, co12, eo12, gb12, gl12, cl12, HG12⟩ := Kd.R_form HO_3.out (by omega)
                      (first | cases eo12 | (injection eo12 with ea_ en_ ec_; (first | subst ea_ | (injection ea_ with ea_; subst ea_)); subst ec_; clear en_))
                      have GB12 := Aside0.mk gb12
                      have GG12 := Aside0.mk HG12
                      clear gb12 gl12 HG12
                      obtain ⟨hx12_0, hf12_0⟩ := Kd.R_celln 0 HO_3.out (x11_1 : Int) p12 q12
                      replace p12 := eq_true p12
                      replace q12 := eq_true q12
                      have HP13 := Kd.R_putg HO_3.out (x11_1 : Int) (((rd l0 x11_1) + 32) % 256)
                      go_wp2_with (first | ((with_reducible refine gate_store (t := 5) (p := 27) rfl ?_); refine store_event (t := 5) (p := 27) (v := ?vo_w14) (w1 := (wr.setCell ⟨go12, (x11_1 : Int).toNat, none⟩ (.int .u8 (((rd l0 x11_1) + 32) % 256)))) ?hg ?ho ?hn ?hr ?_; (case ho => rfl); (case hg => rfl); (case hn => rfl); (case hr => first | (go_simp; done) | (go_simp; rfl)); intro w14 hw; have hg : wr.grownBy w14 (some go12) := (by rw [hw]; exact HP13.2); have hp_ : Kd.R (Kd.int .u8) 5 w14 w.heap.size (fun _ => True) (.slice (some ⟨go12, 0, none⟩) x3_1.length co12) y105 := (by rw [hw, Ny105.out]; exact HP13.1); clear HP13; have n0_ := Aside0.mk (hp_); have n1_ := Aside0.mk ((by rw [hw]; exact below_set (HB.out) GB12.out : Below w.heap.size w w14)); clear HO_3; clear HB; have HO_3 := n0_; have HB := n1_; clear n0_ n1_; clear hg hw hp_))
                      go_roundg k1
                      case measure => have := HK1.out; omega
                      case rel => exact ⟨(y105), (wrap64 (x11_1 + 1)), (by first | rfl | (simp; done) | (simp [*]; done)), H', ⟨by have := HK1.out; omega⟩, ⟨by (with_reducible repeat (first | apply Kd.R_alloc | apply Kd.R_drewN | apply Kd.R_drew)); exact HO_3.out⟩, ⟨by repeat (first | (with_reducible first | exact HB.out | apply below_alloc | apply pw_below_drewN | apply below_drew1) | exact HB.out)⟩⟩
                    · rw [if_neg c11] at H
                      exact absurd H (by simp)
                  · rw [if_neg c10] at H
                    have c10b0 : decide ((rd l0 x11_1) ≤ 90) = false := decide_eq_false c10
                    clear c10
                    by_cases c15 : x11_1 < (x3_1.length : Int)
                    · rw [if_pos c15] at H
                      have c15b0 : decide (x11_1 < (x3_1.length : Int)) = true := decide_eq_true c15
                      clear c15
                      obtain ⟨y106, hy106⟩ : ∃ y_ : List Int, y_ = (x3_1.set (x11_1 : Int).toNat (rd l0 x11_1)) := ⟨_, rfl⟩
                      replace H : (scheme_small.l0 k1 y106 l0 (l0.length : Int) (wrap64 (x11_1 + 1))) = some r := by first | (rw [hy106]; with_reducible exact H) | (have H2_ := (Option.bind_some _ _).symm.trans H; rw [hy106]; with_reducible exact H2_) | (have H2_ := (Option.bind_some _ _).symm.trans H; with_reducible exact H2_) | with_reducible exact H | (rw [hy106]; exact H) | exact H
                      have Ny106 := Aside0.mk hy106
                      clear hy106
                      have H' := Aside0.mk H
                      clear H
                      have p104 : 0 ≤ (x11_1 : Int) := of_decide_eq_true (by first | (with_reducible assumption) | assumption)
                      have q104 : x11_1 < (l0.length : Int) := of_decide_eq_true (by first | (with_reducible assumption) | assumption)
                      obtain ⟨ad104, e104, hx104_0⟩ := Kd.at_int HR0.out x11_1 p104 q104
                      cases e104
                      replace hx104_0 := (HB.out.cell (World.block_lt_of_cell? w _ hx104_0)).trans hx104_0
                      replace p104 := eq_true p104
                      replace q104 := eq_true q104
                      have p16 : 0 ≤ (x11_1 : Int) := of_decide_eq_true (by first | (with_reducible assumption) | assumption)
                      have q16 : (x11_1 : Int) < ((x3_1.length : Int) : Int) := of_decide_eq_true (by first | (with_reducible assumption) | assumption)
                      obtain ⟨go16, co16, eo16, gb16, gl16, cl16, HG16⟩ := Kd.R_form HO_3.out (by omega)
                      (first | cases eo16 | (injection eo16 with ea_ en_ ec_; (first | subst ea_ | (injection ea_ with ea_; subst ea_)); subst ec_; clear en_))
                      have GB16 := Aside0.mk gb16
                      have GG16 := Aside0.mk HG16
                      clear gb16 gl16 HG16
                      obtain ⟨hx16_0, hf16_0⟩ := Kd.R_celln 0 HO_3.out (x11_1 : Int) p16 q16
                      replace p16 := eq_true p16
                      replace q16 := eq_true q16
                      have HP17 := Kd.R_putg HO_3.out (x11_1 : Int) (rd l0 x11_1)
                      go_wp2_with (first | ((with_reducible refine gate_store (t := 5) (p := 27) rfl ?_); refine store_event (t := 5) (p := 27) (v := ?vo_w18) (w1 := (wr.setCell ⟨go16, (x11_1 : Int).toNat, none⟩ (.int .u8 (rd l0 x11_1)))) ?hg ?ho ?hn ?hr ?_; (case ho => rfl); (case hg => rfl); (case hn => rfl); (case hr => first | (go_simp; done) | (go_simp; rfl)); intro w18 hw; have hg : wr.grownBy w18 (some go16) := (by rw [hw]; exact HP17.2); have hp_ : Kd.R (Kd.int .u8) 5 w18 w.heap.size (fun _ => True) (.slice (some ⟨go16, 0, none⟩) x3_1.length co16) y106 := (by rw [hw, Ny106.out]; exact HP17.1); clear HP17; have n0_ := Aside0.mk (hp_); have n1_ := Aside0.mk ((by rw [hw]; exact below_set (HB.out) GB16.out : Below w.heap.size w w18)); clear HO_3; clear HB; have HO_3 := n0_; have HB := n1_; clear n0_ n1_; clear hg hw hp_))
                      go_roundg k1
                      case measure => have := HK1.out; omega
                      case rel => exact ⟨(y106), (wrap64 (x11_1 + 1)), (by first | rfl | (simp; done) | (simp [*]; done)), H', ⟨by have := HK1.out; omega⟩, ⟨by (with_reducible repeat (first | apply Kd.R_alloc | apply Kd.R_drewN | apply Kd.R_drew)); exact HO_3.out⟩, ⟨by repeat (first | (with_reducible first | exact HB.out | apply below_alloc | apply pw_below_drewN | apply below_drew1) | exact HB.out)⟩⟩
                    · rw [if_neg c15] at H
                      exact absurd H (by simp)
                · rw [if_neg c9] at H
                  have c9b0 : decide (65 ≤ (rd l0 x11_1)) = false := decide_eq_false c9
                  clear c9
                  by_cases c19 : x11_1 < (x3_1.length : Int)
                  · rw [if_pos c19] at H
                    have c19b0 : decide (x11_1 < (x3_1.length : Int)) = true := decide_eq_true c19
                    clear c19
                    obtain ⟨y107, hy107⟩ : ∃ y_ : List Int, y_ = (x3_1.set (x11_1 : Int).toNat (rd l0 x11_1)) := ⟨_, rfl⟩
                    replace H : (scheme_small.l0 k1 y107 l0 (l0.length : Int) (wrap64 (x11_1 + 1))) = some r := by first | (rw [hy107]; with_reducible exact H) | (have H2_ := (Option.bind_some _ _).symm.trans H; rw [hy107]; with_reducible exact H2_) | (have H2_ := (Option.bind_some _ _).symm.trans H; with_reducible exact H2_) | with_reducible exact H | (rw [hy107]; exact H) | exact H
                    have Ny107 := Aside0.mk hy107
                    clear hy107
                    have H' := Aside0.mk H
                    clear H
                    have p104 : 0 ≤ (x11_1 : Int) := of_decide_eq_true (by first | (with_reducible assumption) | assumption)
                    have q104 : x11_1 < (l0.length : Int) := of_decide_eq_true (by first | (with_reducible assumption) | assumption)
                    obtain ⟨ad104, e104, hx104_0⟩ := Kd.at_int HR0.out x11_1 p104 q104
                    cases e104
                    replace hx104_0 := (HB.out.cell (World.block_lt_of_cell? w _ hx104_0)).trans hx104_0
                    replace p104 := eq_true p104
                    replace q104 := eq_true q104
                    have p20 : 0 ≤ (x11_1 : Int) := of_decide_eq_true (by first | (with_reducible assumption) | assumption)
                    have q20 : (x11_1 : Int) < ((x3_1.length : Int) : Int) := of_decide_eq_true (by first | (with_reducible assumption) | assumption)
                    obtain ⟨go20, co20, eo20, gb20, gl20, cl20, HG20⟩ := Kd.R_form HO_3.out (by omega)
                    (first | cases eo20 | (injection eo20 with ea_ en_ ec_; (first | subst ea_ | (injection ea_ with ea_; subst ea_)); subst ec_; clear en_))
                    have GB20 := Aside0.mk gb20
                    have GG20 := Aside0.mk HG20
                    clear gb20 gl20 HG20
                    obtain ⟨hx20_0, hf20_0⟩ := Kd.R_celln 0 HO_3.out (x11_1 : Int) p20 q20
                    replace p20 := eq_true p20
                    replace q20 := eq_true q20
                    have HP21 := Kd.R_putg HO_3.out (x11_1 : Int) (rd l0 x11_1)
                    go_wp2_with (first | ((with_reducible refine gate_store (t := 5) (p := 27) rfl ?_); refine store_event (t := 5) (p := 27) (v := ?vo_w22) (w1 := (wr.setCell ⟨go20, (x11_1 : Int).toNat, none⟩ (.int .u8 (rd l0 x11_1)))) ?hg ?ho ?hn ?hr ?_; (case ho => rfl); (case hg => rfl); (case hn => rfl); (case hr => first | (go_simp; done) | (go_simp; rfl)); intro w22 hw; have hg : wr.grownBy w22 (some go20) := (by rw [hw]; exact HP21.2); have hp_ : Kd.R (Kd.int .u8) 5 w22 w.heap.size (fun _ => True) (.slice (some ⟨go20, 0, none⟩) x3_1.length co20) y107 := (by rw [hw, Ny107.out]; exact HP21.1); clear HP21; have n0_ := Aside0.mk (hp_); have n1_ := Aside0.mk ((by rw [hw]; exact below_set (HB.out) GB20.out : Below w.heap.size w w22)); clear HO_3; clear HB; have HO_3 := n0_; have HB := n1_; clear n0_ n1_; clear hg hw hp_))
                    go_roundg k1
                    case measure => have := HK1.out; omega
                    case rel => exact ⟨(y107), (wrap64 (x11_1 + 1)), (by first | rfl | (simp; done) | (simp [*]; done)), H', ⟨by have := HK1.out; omega⟩, ⟨by (with_reducible repeat (first | apply Kd.R_alloc | apply Kd.R_drewN | apply Kd.R_drew)); exact HO_3.out⟩, ⟨by repeat (first | (with_reducible first | exact HB.out | apply below_alloc | apply pw_below_drewN | apply below_drew1) | exact HB.out)⟩⟩
                  · rw [if_neg c19] at H
                    exact absurd H (by simp)
              · rw [if_neg c8] at H
                exact absurd H (by simp)
            · rw [if_neg c7] at H
              exact absurd H (by simp)
          · rw [if_neg c6] at H
            have c6b0 : decide (x11_1 < (l0.length : Int)) = false := decide_eq_false c6
            clear c6
            obtain rfl := Option.some.inj H
            go_wp2
            go_ret
            exact ⟨_, by first | rfl | (simp [errW_none, errW_some] <;> rfl) | (simp [*, errW_none, errW_some] <;> rfl), by (with_reducible repeat (first | apply Kd.R_alloc | apply Kd.R_drewN | apply Kd.R_drew)); exact HO_3.out, by repeat (first | (with_reducible first | exact HB.out | apply below_alloc | apply pw_below_drewN | apply below_drew1) | exact HB.out)⟩
    · rw [if_neg c3] at H
      exact absurd H (by simp)
  · rw [if_neg c2] at H
    exact absurd H (by simp)
def scheme_Allowed.f (k : Nat) (l0 : List Int) : Option (Bool) := (scheme_small.f k l0).bind fun t108 => (if (strOfNums t108).toList = ([104, 116, 116, 112] : List UInt8) then (some true) else (if (strOfNums t108).toList = ([104, 116, 116, 112, 115] : List UInt8) then (some true) else (if (strOfNums t108).toList = ([109, 97, 105, 108, 116, 111] : List UInt8) then (some true) else (some false))))
set_option maxHeartbeats 8000000 in
set_option maxRecDepth 100000 in
theorem scheme_Allowed.calls (k : Nat) (A0 : Option Addr) (c0 : Nat) (l0 : List Int) (r : Bool) (w : World) (hr0 : Kd.C (Kd.int .u8) w A0 l0.length l0) (hc0 : l0.length ≤ c0) (h : scheme_Allowed.f k l0 = some r) :
    Calls Tryd.prog 40 #[.slice A0 l0.length c0] w fun e w' => e = .returned (.bool r) ∧ Below w.heap.size w w' := by
  have HR0 := Aside0.mk hr0
  have HC0 := Aside0.mk hc0
  clear hr0 hc0
  have HB := Aside0.mk (Below.refl w.heap.size w)
  have H : ((scheme_small.f k l0).bind fun t108 => (if (strOfNums t108).toList = ([104, 116, 116, 112] : List UInt8) then (some true) else (if (strOfNums t108).toList = ([104, 116, 116, 112, 115] : List UInt8) then (some true) else (if (strOfNums t108).toList = ([109, 97, 105, 108, 116, 111] : List UInt8) then (some true) else (some false))))) = some r := h
  clear h
  replace H := Option.bind_eq_some_iff.mp H
  obtain ⟨t108, A20, H⟩ := H
  replace H : (if (strOfNums t108).toList = ([104, 116, 116, 112] : List UInt8) then (some true) else (if (strOfNums t108).toList = ([104, 116, 116, 112, 115] : List UInt8) then (some true) else (if (strOfNums t108).toList = ([109, 97, 105, 108, 116, 111] : List UInt8) then (some true) else (some false)))) = some r := H
  have A2 := Aside0.mk A20
  clear A20
  by_cases c3 : (strOfNums t108).toList = ([104, 116, 116, 112] : List UInt8)
  · rw [if_pos c3] at H
    have c3b0 : ((strOfNums t108).toList == ([104, 116, 116, 112] : List UInt8)) = true := beq_iff_eq.mpr c3
    have c3b1 : ((strOfNums t108).toList != ([104, 116, 116, 112] : List UInt8)) = false := bne_eq_false_iff_eq.mpr c3
    clear c3
    obtain rfl := Option.some.inj H
    go_enter Tryd.func40, Tryd.ntmps40
    go_wp2_with (first | ((with_reducible refine gate_callee (f := 69) rfl ?_); refine goesL_ (some 4) rfl rfl Tryd.func69 (by kernel_rfl) rfl #[.slice A0 l0.length c0] rfl (by (try simp only [List.map_toArray, List.map_cons, List.map_nil]); first | done | rfl | (simp only [List.length_drop, List.length_take]; rfl)) ?_; (with_reducible refine (scheme_small.calls k _ _ l0 t108 _ ?side1 ?side2 A2.out).mono ?_); (case side1 => repeat (first | exact HR0.out | (with_reducible refine Kd.C_alloc ?_ _) | (with_reducible refine Kd.C_drewN ?_ _) | (with_reducible refine Kd.C_drew ?_))); (case side2 => exact HC0.out); rintro e w4 ⟨v109, rfl, ho0, hb⟩; refine ⟨_, rfl, ?_⟩; have n0_ := Aside0.mk (Kd.R_lower ho0 (below_size (by repeat (first | (with_reducible first | exact HB.out | apply below_alloc | apply pw_below_drewN | apply below_drew1) | exact HB.out)))); have n1_ := Aside0.mk (below_step (by repeat (first | (with_reducible first | exact HB.out | apply below_alloc | apply pw_below_drewN | apply below_drew1) | exact HB.out)) hb); clear HB; have HO110 := n0_; have HB := n1_; clear n0_ n1_; (try clear hb); (try clear hb2); (try clear hk); (try clear hi); (try clear ho0); have hcv5 := own_string (P := Tryd.prog) Tryd.underlying22 Tryd.underlying5 Tryd.underlying9 (Kd.own_of_R HO110.out)))
    go_ret
    exact ⟨by first | rfl | (simp [errW_none, errW_some] <;> rfl) | (simp [*, errW_none, errW_some] <;> rfl), by repeat (first | (with_reducible first | exact HB.out | apply below_alloc | apply pw_below_drewN | apply below_drew1) | exact HB.out)⟩
  · rw [if_neg c3] at H
    have c3b0 : ((strOfNums t108).toList == ([104, 116, 116, 112] : List UInt8)) = false := beq_eq_false_iff_ne.mpr c3
    have c3b1 : ((strOfNums t108).toList != ([104, 116, 116, 112] : List UInt8)) = true := bne_iff_ne.mpr c3
    by_cases c6 : (strOfNums t108).toList = ([104, 116, 116, 112, 115] : List UInt8)
    · rw [if_pos c6] at H
      have c6b0 : ((strOfNums t108).toList == ([104, 116, 116, 112, 115] : List UInt8)) = true := beq_iff_eq.mpr c6
      have c6b1 : ((strOfNums t108).toList != ([104, 116, 116, 112, 115] : List UInt8)) = false := bne_eq_false_iff_eq.mpr c6
      clear c6
      obtain rfl := Option.some.inj H
      go_enter Tryd.func40, Tryd.ntmps40
      go_wp2_with (first | ((with_reducible refine gate_callee (f := 69) rfl ?_); refine goesL_ (some 4) rfl rfl Tryd.func69 (by kernel_rfl) rfl #[.slice A0 l0.length c0] rfl (by (try simp only [List.map_toArray, List.map_cons, List.map_nil]); first | done | rfl | (simp only [List.length_drop, List.length_take]; rfl)) ?_; (with_reducible refine (scheme_small.calls k _ _ l0 t108 _ ?side1 ?side2 A2.out).mono ?_); (case side1 => repeat (first | exact HR0.out | (with_reducible refine Kd.C_alloc ?_ _) | (with_reducible refine Kd.C_drewN ?_ _) | (with_reducible refine Kd.C_drew ?_))); (case side2 => exact HC0.out); rintro e w7 ⟨v109, rfl, ho0, hb⟩; refine ⟨_, rfl, ?_⟩; have n0_ := Aside0.mk (Kd.R_lower ho0 (below_size (by repeat (first | (with_reducible first | exact HB.out | apply below_alloc | apply pw_below_drewN | apply below_drew1) | exact HB.out)))); have n1_ := Aside0.mk (below_step (by repeat (first | (with_reducible first | exact HB.out | apply below_alloc | apply pw_below_drewN | apply below_drew1) | exact HB.out)) hb); clear HB; have HO110 := n0_; have HB := n1_; clear n0_ n1_; (try clear hb); (try clear hb2); (try clear hk); (try clear hi); (try clear ho0); have hcv8 := own_string (P := Tryd.prog) Tryd.underlying22 Tryd.underlying5 Tryd.underlying9 (Kd.own_of_R HO110.out)))
      go_ret
      exact ⟨by first | rfl | (simp [errW_none, errW_some] <;> rfl) | (simp [*, errW_none, errW_some] <;> rfl), by repeat (first | (with_reducible first | exact HB.out | apply below_alloc | apply pw_below_drewN | apply below_drew1) | exact HB.out)⟩
    · rw [if_neg c6] at H
      have c6b0 : ((strOfNums t108).toList == ([104, 116, 116, 112, 115] : List UInt8)) = false := beq_eq_false_iff_ne.mpr c6
      have c6b1 : ((strOfNums t108).toList != ([104, 116, 116, 112, 115] : List UInt8)) = true := bne_iff_ne.mpr c6
      by_cases c9 : (strOfNums t108).toList = ([109, 97, 105, 108, 116, 111] : List UInt8)
      · rw [if_pos c9] at H
        have c9b0 : ((strOfNums t108).toList == ([109, 97, 105, 108, 116, 111] : List UInt8)) = true := beq_iff_eq.mpr c9
        have c9b1 : ((strOfNums t108).toList != ([109, 97, 105, 108, 116, 111] : List UInt8)) = false := bne_eq_false_iff_eq.mpr c9
        clear c9
        obtain rfl := Option.some.inj H
        go_enter Tryd.func40, Tryd.ntmps40
        go_wp2_with (first | ((with_reducible refine gate_callee (f := 69) rfl ?_); refine goesL_ (some 4) rfl rfl Tryd.func69 (by kernel_rfl) rfl #[.slice A0 l0.length c0] rfl (by (try simp only [List.map_toArray, List.map_cons, List.map_nil]); first | done | rfl | (simp only [List.length_drop, List.length_take]; rfl)) ?_; (with_reducible refine (scheme_small.calls k _ _ l0 t108 _ ?side1 ?side2 A2.out).mono ?_); (case side1 => repeat (first | exact HR0.out | (with_reducible refine Kd.C_alloc ?_ _) | (with_reducible refine Kd.C_drewN ?_ _) | (with_reducible refine Kd.C_drew ?_))); (case side2 => exact HC0.out); rintro e w10 ⟨v109, rfl, ho0, hb⟩; refine ⟨_, rfl, ?_⟩; have n0_ := Aside0.mk (Kd.R_lower ho0 (below_size (by repeat (first | (with_reducible first | exact HB.out | apply below_alloc | apply pw_below_drewN | apply below_drew1) | exact HB.out)))); have n1_ := Aside0.mk (below_step (by repeat (first | (with_reducible first | exact HB.out | apply below_alloc | apply pw_below_drewN | apply below_drew1) | exact HB.out)) hb); clear HB; have HO110 := n0_; have HB := n1_; clear n0_ n1_; (try clear hb); (try clear hb2); (try clear hk); (try clear hi); (try clear ho0); have hcv11 := own_string (P := Tryd.prog) Tryd.underlying22 Tryd.underlying5 Tryd.underlying9 (Kd.own_of_R HO110.out)))
        go_ret
        exact ⟨by first | rfl | (simp [errW_none, errW_some] <;> rfl) | (simp [*, errW_none, errW_some] <;> rfl), by repeat (first | (with_reducible first | exact HB.out | apply below_alloc | apply pw_below_drewN | apply below_drew1) | exact HB.out)⟩
      · rw [if_neg c9] at H
        have c9b0 : ((strOfNums t108).toList == ([109, 97, 105, 108, 116, 111] : List UInt8)) = false := beq_eq_false_iff_ne.mpr c9
        have c9b1 : ((strOfNums t108).toList != ([109, 97, 105, 108, 116, 111] : List UInt8)) = true := bne_iff_ne.mpr c9
        obtain rfl := Option.some.inj H
        go_enter Tryd.func40, Tryd.ntmps40
        go_wp2_with (first | ((with_reducible refine gate_callee (f := 69) rfl ?_); refine goesL_ (some 4) rfl rfl Tryd.func69 (by kernel_rfl) rfl #[.slice A0 l0.length c0] rfl (by (try simp only [List.map_toArray, List.map_cons, List.map_nil]); first | done | rfl | (simp only [List.length_drop, List.length_take]; rfl)) ?_; (with_reducible refine (scheme_small.calls k _ _ l0 t108 _ ?side1 ?side2 A2.out).mono ?_); (case side1 => repeat (first | exact HR0.out | (with_reducible refine Kd.C_alloc ?_ _) | (with_reducible refine Kd.C_drewN ?_ _) | (with_reducible refine Kd.C_drew ?_))); (case side2 => exact HC0.out); rintro e w12 ⟨v109, rfl, ho0, hb⟩; refine ⟨_, rfl, ?_⟩; have n0_ := Aside0.mk (Kd.R_lower ho0 (below_size (by repeat (first | (with_reducible first | exact HB.out | apply below_alloc | apply pw_below_drewN | apply below_drew1) | exact HB.out)))); have n1_ := Aside0.mk (below_step (by repeat (first | (with_reducible first | exact HB.out | apply below_alloc | apply pw_below_drewN | apply below_drew1) | exact HB.out)) hb); clear HB; have HO110 := n0_; have HB := n1_; clear n0_ n1_; (try clear hb); (try clear hb2); (try clear hk); (try clear hi); (try clear ho0); have hcv13 := own_string (P := Tryd.prog) Tryd.underlying22 Tryd.underlying5 Tryd.underlying9 (Kd.own_of_R HO110.out)))
        go_ret
        exact ⟨by first | rfl | (simp [errW_none, errW_some] <;> rfl) | (simp [*, errW_none, errW_some] <;> rfl), by repeat (first | (with_reducible first | exact HB.out | apply below_alloc | apply pw_below_drewN | apply below_drew1) | exact HB.out)⟩
def bobbinref05_Allowed.l0 : Nat → List Int → List Int → Int → Option (Bool)
  | 0, _, _, _ => none
  | k + 1, x0, x3, x4 => if x4 < (x0.length : Int) then (if 0 ≤ x4 then (if (rd x0 x4) ≥ 65 then (if (rd x0 x4) ≤ 90 then (if x3.length < 140737488355328 then (bobbinref05_Allowed.l0 k x0 (x3 ++ [((rd x0 x4) + 32) % 256]) (wrap64 (x4 + 1))) else (none)) else (if x3.length < 140737488355328 then (bobbinref05_Allowed.l0 k x0 (x3 ++ [rd x0 x4]) (wrap64 (x4 + 1))) else (none))) else (if x3.length < 140737488355328 then (bobbinref05_Allowed.l0 k x0 (x3 ++ [rd x0 x4]) (wrap64 (x4 + 1))) else (none))) else (none)) else (if (strOfNums x3).toList = ([104, 116, 116, 112] : List UInt8) then (some true) else (if (strOfNums x3).toList = ([104, 116, 116, 112, 115] : List UInt8) then (some true) else (some ((strOfNums x3).toList == ([109, 97, 105, 108, 116, 111] : List UInt8)))))
def bobbinref05_Allowed.f (k : Nat) (l0 : List Int) : Option (Bool) := bobbinref05_Allowed.l0 k l0 ([] : List Int) 0
set_option maxHeartbeats 8000000 in
set_option maxRecDepth 100000 in
theorem bobbinref05_Allowed.calls (k : Nat) (A0 : Option Addr) (c0 : Nat) (l0 : List Int) (r : Bool) (w : World) (hr0 : Kd.C (Kd.int .u8) w A0 l0.length l0) (hc0 : l0.length ≤ c0) (h : bobbinref05_Allowed.f k l0 = some r) :
    Calls Tryd.prog 41 #[.slice A0 l0.length c0] w fun e w' => e = .returned (.bool r) ∧ Below w.heap.size w w' := by
  have HR0 := Aside0.mk hr0
  have HC0 := Aside0.mk hc0
  clear hr0 hc0
  have HB := Aside0.mk (Below.refl w.heap.size w)
  have H : (bobbinref05_Allowed.l0 k l0 ([] : List Int) 0) = some r := h
  clear h
  have H' := Aside0.mk H
  clear H
  go_enter Tryd.func41, Tryd.ntmps41
  go_wp2
  go_loopg [3, 4] k (fun kq v3 v4 w' => ∃ (x3_1 : List Int) (x4_1 : Int), v4 = .int .i64 x4_1 ∧ Aside0 (bobbinref05_Allowed.l0 kq l0 x3_1 x4_1 = some r) ∧ Aside0 (kq ≤ k) ∧ Aside0 (Kd.R (Kd.int .u8) 5 w' w.heap.size (fun _ => True) v3 x3_1) ∧ Aside0 (Below w.heap.size w w'))
  case atStart => exact ⟨(([] : List Int)), (0), (by first | rfl | (simp; done) | (simp [*]; done)), H', ⟨Nat.le_refl _⟩, ⟨by first | exact Kd.R_nil _ _ _ _ _ | exact Kd.N_nil _ _ _ _ _ | exact Kd.V_nil _ _ _ _ _ | exact Kd.Q_nil _ _ _ _ _ | exact Kd.S_nil _ _ _ _ _⟩, ⟨by repeat (first | (with_reducible first | exact HB.out | apply below_alloc | apply pw_below_drewN | apply below_drew1) | exact HB.out)⟩⟩
  case round =>
    clear H'
    obtain ⟨x3_1, x4_1, rfl, HA, HK1, HO_3, HB⟩ := hrel
    cases gk with
    | zero => exact absurd HA.out (by simp [bobbinref05_Allowed.l0])
    | succ k1 =>
      have H := HA.out
      clear HA
      simp only [bobbinref05_Allowed.l0] at H
      by_cases c2 : x4_1 < (l0.length : Int)
      · rw [if_pos c2] at H
        have c2b0 : decide (x4_1 < (l0.length : Int)) = true := decide_eq_true c2
        clear c2
        by_cases c3 : 0 ≤ x4_1
        · rw [if_pos c3] at H
          have c3b0 : decide (0 ≤ x4_1) = true := decide_eq_true c3
          clear c3
          by_cases c4 : (rd l0 x4_1) ≥ 65
          · rw [if_pos c4] at H
            have c4b0 : decide (65 ≤ (rd l0 x4_1)) = true := decide_eq_true c4
            clear c4
            by_cases c5 : (rd l0 x4_1) ≤ 90
            · rw [if_pos c5] at H
              have c5b0 : decide ((rd l0 x4_1) ≤ 90) = true := decide_eq_true c5
              clear c5
              by_cases c6 : x3_1.length < 140737488355328
              · rw [if_pos c6] at H
                have LMc6 := Aside0.mk c6
                clear c6
                obtain ⟨y112, hy112⟩ : ∃ y_ : List Int, y_ = (x3_1 ++ [((rd l0 x4_1) + 32) % 256]) := ⟨_, rfl⟩
                replace H : (bobbinref05_Allowed.l0 k1 l0 y112 (wrap64 (x4_1 + 1))) = some r := by first | (rw [hy112]; with_reducible exact H) | (have H2_ := (Option.bind_some _ _).symm.trans H; rw [hy112]; with_reducible exact H2_) | (have H2_ := (Option.bind_some _ _).symm.trans H; with_reducible exact H2_) | with_reducible exact H | (rw [hy112]; exact H) | exact H
                have Ny112 := Aside0.mk hy112
                clear hy112
                have H' := Aside0.mk H
                clear H
                have p111 : 0 ≤ (x4_1 : Int) := of_decide_eq_true (by first | (with_reducible assumption) | assumption)
                have q111 : x4_1 < (l0.length : Int) := of_decide_eq_true (by first | (with_reducible assumption) | assumption)
                obtain ⟨ad111, e111, hx111_0⟩ := Kd.at_int HR0.out x4_1 p111 q111
                cases e111
                replace hx111_0 := (HB.out.cell (World.block_lt_of_cell? w _ hx111_0)).trans hx111_0
                replace p111 := eq_true p111
                replace q111 := eq_true q111
                go_wp2_with (first | ((with_reducible refine gate_builtin (b := .append) (xs := #[.tmp 25, .tmp 27]) rfl ?_); at_builtin; refine Kd.R_append (Kd.int .u8) (w0 := w) w.heap.size rfl (.tmp 25) (.tmp 27) 22 5 (.int .u8 0) 1 rfl Tryd.underlying22 info5 rfl (by decide) (by omega) u3 x3_1 (((rd l0 x4_1) + 32) % 256) [.int .u8 (((rd l0 x4_1) + 32) % 256)] (fun _ => True) (fun _ => False) rfl rfl ?aP (fun _ hk => hk.elim) ?aF ?aO ?aB ?aS ?aL ?_; (case aP => exact rfl); (case aB => exact (by repeat (first | (with_reducible first | exact HB.out | apply below_alloc | apply pw_below_drewN | apply below_drew1) | exact HB.out))); (case aF => exact (fun _ _ => trivial)); (case aO => exact (by (with_reducible repeat (first | apply Kd.R_alloc | apply Kd.R_drewN | apply Kd.R_drew)); exact HO_3.out)); (case aS => exact (below_size (by repeat (first | (with_reducible first | exact HB.out | apply below_alloc | apply pw_below_drewN | apply below_drew1) | exact HB.out)))); (case aL => have := LMc6.out; first | omega | (simp only [ByteArray.size_append]; simp only [ByteArray.size, List.size_toArray, List.length_cons, List.length_nil] at this ⊢; omega)); intro v113 w7 ho hb hg hat; rw [← Ny112.out] at ho; have n0_ := Aside0.mk (hb); have n1_ := Aside0.mk (ho); clear HB; clear HO_3; have HB := n0_; have HO114 := n1_; clear n0_ n1_; clear ho hb hg hat))
                go_roundg k1
                case measure => have := HK1.out; omega
                case rel => exact ⟨(y112), (wrap64 (x4_1 + 1)), (by first | rfl | (simp; done) | (simp [*]; done)), H', ⟨by have := HK1.out; omega⟩, ⟨by (with_reducible repeat (first | apply Kd.R_alloc | apply Kd.R_drewN | apply Kd.R_drew)); exact HO114.out⟩, ⟨by repeat (first | (with_reducible first | exact HB.out | apply below_alloc | apply pw_below_drewN | apply below_drew1) | exact HB.out)⟩⟩
              · rw [if_neg c6] at H
                exact absurd H (by simp)
            · rw [if_neg c5] at H
              have c5b0 : decide ((rd l0 x4_1) ≤ 90) = false := decide_eq_false c5
              clear c5
              by_cases c8 : x3_1.length < 140737488355328
              · rw [if_pos c8] at H
                have LMc8 := Aside0.mk c8
                clear c8
                obtain ⟨y115, hy115⟩ : ∃ y_ : List Int, y_ = (x3_1 ++ [rd l0 x4_1]) := ⟨_, rfl⟩
                replace H : (bobbinref05_Allowed.l0 k1 l0 y115 (wrap64 (x4_1 + 1))) = some r := by first | (rw [hy115]; with_reducible exact H) | (have H2_ := (Option.bind_some _ _).symm.trans H; rw [hy115]; with_reducible exact H2_) | (have H2_ := (Option.bind_some _ _).symm.trans H; with_reducible exact H2_) | with_reducible exact H | (rw [hy115]; exact H) | exact H
                have Ny115 := Aside0.mk hy115
                clear hy115
                have H' := Aside0.mk H
                clear H
                have p111 : 0 ≤ (x4_1 : Int) := of_decide_eq_true (by first | (with_reducible assumption) | assumption)
                have q111 : x4_1 < (l0.length : Int) := of_decide_eq_true (by first | (with_reducible assumption) | assumption)
                obtain ⟨ad111, e111, hx111_0⟩ := Kd.at_int HR0.out x4_1 p111 q111
                cases e111
                replace hx111_0 := (HB.out.cell (World.block_lt_of_cell? w _ hx111_0)).trans hx111_0
                replace p111 := eq_true p111
                replace q111 := eq_true q111
                go_wp2_with (first | ((with_reducible refine gate_builtin (b := .append) (xs := #[.tmp 25, .tmp 27]) rfl ?_); at_builtin; refine Kd.R_append (Kd.int .u8) (w0 := w) w.heap.size rfl (.tmp 25) (.tmp 27) 22 5 (.int .u8 0) 1 rfl Tryd.underlying22 info5 rfl (by decide) (by omega) u3 x3_1 (rd l0 x4_1) [.int .u8 (rd l0 x4_1)] (fun _ => True) (fun _ => False) rfl rfl ?aP (fun _ hk => hk.elim) ?aF ?aO ?aB ?aS ?aL ?_; (case aP => exact rfl); (case aB => exact (by repeat (first | (with_reducible first | exact HB.out | apply below_alloc | apply pw_below_drewN | apply below_drew1) | exact HB.out))); (case aF => exact (fun _ _ => trivial)); (case aO => exact (by (with_reducible repeat (first | apply Kd.R_alloc | apply Kd.R_drewN | apply Kd.R_drew)); exact HO_3.out)); (case aS => exact (below_size (by repeat (first | (with_reducible first | exact HB.out | apply below_alloc | apply pw_below_drewN | apply below_drew1) | exact HB.out)))); (case aL => have := LMc8.out; first | omega | (simp only [ByteArray.size_append]; simp only [ByteArray.size, List.size_toArray, List.length_cons, List.length_nil] at this ⊢; omega)); intro v116 w9 ho hb hg hat; rw [← Ny115.out] at ho; have n0_ := Aside0.mk (hb); have n1_ := Aside0.mk (ho); clear HB; clear HO_3; have HB := n0_; have HO117 := n1_; clear n0_ n1_; clear ho hb hg hat))
                go_roundg k1
                case measure => have := HK1.out; omega
                case rel => exact ⟨(y115), (wrap64 (x4_1 + 1)), (by first | rfl | (simp; done) | (simp [*]; done)), H', ⟨by have := HK1.out; omega⟩, ⟨by (with_reducible repeat (first | apply Kd.R_alloc | apply Kd.R_drewN | apply Kd.R_drew)); exact HO117.out⟩, ⟨by repeat (first | (with_reducible first | exact HB.out | apply below_alloc | apply pw_below_drewN | apply below_drew1) | exact HB.out)⟩⟩
              · rw [if_neg c8] at H
                exact absurd H (by simp)
          · rw [if_neg c4] at H
            have c4b0 : decide (65 ≤ (rd l0 x4_1)) = false := decide_eq_false c4
            clear c4
            by_cases c10 : x3_1.length < 140737488355328
            · rw [if_pos c10] at H
              have LMc10 := Aside0.mk c10
              clear c10
              obtain ⟨y118, hy118⟩ : ∃ y_ : List Int, y_ = (x3_1 ++ [rd l0 x4_1]) := ⟨_, rfl⟩
              replace H : (bobbinref05_Allowed.l0 k1 l0 y118 (wrap64 (x4_1 + 1))) = some r := by first | (rw [hy118]; with_reducible exact H) | (have H2_ := (Option.bind_some _ _).symm.trans H; rw [hy118]; with_reducible exact H2_) | (have H2_ := (Option.bind_some _ _).symm.trans H; with_reducible exact H2_) | with_reducible exact H | (rw [hy118]; exact H) | exact H
              have Ny118 := Aside0.mk hy118
              clear hy118
              have H' := Aside0.mk H
              clear H
              have p111 : 0 ≤ (x4_1 : Int) := of_decide_eq_true (by first | (with_reducible assumption) | assumption)
              have q111 : x4_1 < (l0.length : Int) := of_decide_eq_true (by first | (with_reducible assumption) | assumption)
              obtain ⟨ad111, e111, hx111_0⟩ := Kd.at_int HR0.out x4_1 p111 q111
              cases e111
              replace hx111_0 := (HB.out.cell (World.block_lt_of_cell? w _ hx111_0)).trans hx111_0
              replace p111 := eq_true p111
              replace q111 := eq_true q111
              go_wp2_with (first | ((with_reducible refine gate_builtin (b := .append) (xs := #[.tmp 25, .tmp 27]) rfl ?_); at_builtin; refine Kd.R_append (Kd.int .u8) (w0 := w) w.heap.size rfl (.tmp 25) (.tmp 27) 22 5 (.int .u8 0) 1 rfl Tryd.underlying22 info5 rfl (by decide) (by omega) u3 x3_1 (rd l0 x4_1) [.int .u8 (rd l0 x4_1)] (fun _ => True) (fun _ => False) rfl rfl ?aP (fun _ hk => hk.elim) ?aF ?aO ?aB ?aS ?aL ?_; (case aP => exact rfl); (case aB => exact (by repeat (first | (with_reducible first | exact HB.out | apply below_alloc | apply pw_below_drewN | apply below_drew1) | exact HB.out))); (case aF => exact (fun _ _ => trivial)); (case aO => exact (by (with_reducible repeat (first | apply Kd.R_alloc | apply Kd.R_drewN | apply Kd.R_drew)); exact HO_3.out)); (case aS => exact (below_size (by repeat (first | (with_reducible first | exact HB.out | apply below_alloc | apply pw_below_drewN | apply below_drew1) | exact HB.out)))); (case aL => have := LMc10.out; first | omega | (simp only [ByteArray.size_append]; simp only [ByteArray.size, List.size_toArray, List.length_cons, List.length_nil] at this ⊢; omega)); intro v119 w11 ho hb hg hat; rw [← Ny118.out] at ho; have n0_ := Aside0.mk (hb); have n1_ := Aside0.mk (ho); clear HB; clear HO_3; have HB := n0_; have HO120 := n1_; clear n0_ n1_; clear ho hb hg hat))
              go_roundg k1
              case measure => have := HK1.out; omega
              case rel => exact ⟨(y118), (wrap64 (x4_1 + 1)), (by first | rfl | (simp; done) | (simp [*]; done)), H', ⟨by have := HK1.out; omega⟩, ⟨by (with_reducible repeat (first | apply Kd.R_alloc | apply Kd.R_drewN | apply Kd.R_drew)); exact HO120.out⟩, ⟨by repeat (first | (with_reducible first | exact HB.out | apply below_alloc | apply pw_below_drewN | apply below_drew1) | exact HB.out)⟩⟩
            · rw [if_neg c10] at H
              exact absurd H (by simp)
        · rw [if_neg c3] at H
          exact absurd H (by simp)
      · rw [if_neg c2] at H
        have c2b0 : decide (x4_1 < (l0.length : Int)) = false := decide_eq_false c2
        clear c2
        by_cases c12 : (strOfNums x3_1).toList = ([104, 116, 116, 112] : List UInt8)
        · rw [if_pos c12] at H
          have c12b0 : ((strOfNums x3_1).toList == ([104, 116, 116, 112] : List UInt8)) = true := beq_iff_eq.mpr c12
          have c12b1 : ((strOfNums x3_1).toList != ([104, 116, 116, 112] : List UInt8)) = false := bne_eq_false_iff_eq.mpr c12
          clear c12
          obtain rfl := Option.some.inj H
          have hcv13 := own_string (P := Tryd.prog) Tryd.underlying22 Tryd.underlying5 Tryd.underlying9 (Kd.own_of_R HO_3.out)
          go_wp2
          go_ret
          exact ⟨by first | rfl | (simp [errW_none, errW_some] <;> rfl) | (simp [*, errW_none, errW_some] <;> rfl), by repeat (first | (with_reducible first | exact HB.out | apply below_alloc | apply pw_below_drewN | apply below_drew1) | exact HB.out)⟩
        · rw [if_neg c12] at H
          have c12b0 : ((strOfNums x3_1).toList == ([104, 116, 116, 112] : List UInt8)) = false := beq_eq_false_iff_ne.mpr c12
          have c12b1 : ((strOfNums x3_1).toList != ([104, 116, 116, 112] : List UInt8)) = true := bne_iff_ne.mpr c12
          by_cases c14 : (strOfNums x3_1).toList = ([104, 116, 116, 112, 115] : List UInt8)
          · rw [if_pos c14] at H
            have c14b0 : ((strOfNums x3_1).toList == ([104, 116, 116, 112, 115] : List UInt8)) = true := beq_iff_eq.mpr c14
            have c14b1 : ((strOfNums x3_1).toList != ([104, 116, 116, 112, 115] : List UInt8)) = false := bne_eq_false_iff_eq.mpr c14
            clear c14
            obtain rfl := Option.some.inj H
            have hcv15 := own_string (P := Tryd.prog) Tryd.underlying22 Tryd.underlying5 Tryd.underlying9 (Kd.own_of_R HO_3.out)
            go_wp2
            go_ret
            exact ⟨by first | rfl | (simp [errW_none, errW_some] <;> rfl) | (simp [*, errW_none, errW_some] <;> rfl), by repeat (first | (with_reducible first | exact HB.out | apply below_alloc | apply pw_below_drewN | apply below_drew1) | exact HB.out)⟩
          · rw [if_neg c14] at H
            have c14b0 : ((strOfNums x3_1).toList == ([104, 116, 116, 112, 115] : List UInt8)) = false := beq_eq_false_iff_ne.mpr c14
            have c14b1 : ((strOfNums x3_1).toList != ([104, 116, 116, 112, 115] : List UInt8)) = true := bne_iff_ne.mpr c14
            obtain rfl := Option.some.inj H
            have hcv16 := own_string (P := Tryd.prog) Tryd.underlying22 Tryd.underlying5 Tryd.underlying9 (Kd.own_of_R HO_3.out)
            go_wp2
            go_ret
            exact ⟨by first | rfl | (simp [errW_none, errW_some] <;> rfl) | (simp [*, errW_none, errW_some] <;> rfl), by repeat (first | (with_reducible first | exact HB.out | apply below_alloc | apply pw_below_drewN | apply below_drew1) | exact HB.out)⟩
def bobbinref05_Mark.l0 : Nat → List Int → Int → Option (Int)
  | 0, _, _ => none
  | k + 1, x0, x3 => if x3 < (x0.length : Int) then (if 0 ≤ x3 then (if (rd x0 x3) = 58 then (some x3) else (if (rd x0 x3) = 47 then (some x3) else (if (rd x0 x3) = 63 then (some x3) else (if (rd x0 x3) = 35 then (some x3) else (bobbinref05_Mark.l0 k x0 (wrap64 (x3 + 1))))))) else (none)) else (some (-1))
def bobbinref05_Mark.f (k : Nat) (l0 : List Int) : Option (Int) := bobbinref05_Mark.l0 k l0 0
set_option maxHeartbeats 8000000 in
set_option maxRecDepth 100000 in
theorem bobbinref05_Mark.calls (k : Nat) (A0 : Option Addr) (c0 : Nat) (l0 : List Int) (r : Int) (w : World) (hr0 : Kd.C (Kd.int .u8) w A0 l0.length l0) (hc0 : l0.length ≤ c0) (h : bobbinref05_Mark.f k l0 = some r) :
    Calls Tryd.prog 70 #[.slice A0 l0.length c0] w fun e w' => e = .returned (.int .i64 r) ∧ Drawn0 w w' := by
  have HR0 := Aside0.mk hr0
  have HC0 := Aside0.mk hc0
  clear hr0 hc0
  have H : (bobbinref05_Mark.l0 k l0 0) = some r := h
  clear h
  have H' := Aside0.mk H
  clear H
  go_enter Tryd.func70, Tryd.ntmps70
  go_wp2
  go_loopg [3] k (fun kq v3 w' => ∃ (x3_1 : Int), v3 = .int .i64 x3_1 ∧ Aside0 (bobbinref05_Mark.l0 kq l0 x3_1 = some r) ∧ Aside0 (kq ≤ k) ∧ Drawn0 w w')
  case atStart => exact ⟨(0), (by first | rfl | (simp; done) | (simp [*]; done)), H', ⟨Nat.le_refl _⟩, by repeat (first | exact Drawn0.refl _ | apply Drawn0.step)⟩
  case round =>
    clear H'
    obtain ⟨x3_1, rfl, HA, HK1, ⟨m1, rfl⟩⟩ := hrel
    cases gk with
    | zero => exact absurd HA.out (by simp [bobbinref05_Mark.l0])
    | succ k1 =>
      have H := HA.out
      clear HA
      simp only [bobbinref05_Mark.l0] at H
      by_cases c2 : x3_1 < (l0.length : Int)
      · rw [if_pos c2] at H
        have c2b0 : decide (x3_1 < (l0.length : Int)) = true := decide_eq_true c2
        clear c2
        by_cases c3 : 0 ≤ x3_1
        · rw [if_pos c3] at H
          have c3b0 : decide (0 ≤ x3_1) = true := decide_eq_true c3
          clear c3
          by_cases c4 : (rd l0 x3_1) = 58
          · rw [if_pos c4] at H
            have c4b0 : ((rd l0 x3_1) == 58) = true := beq_iff_eq.mpr c4
            have c4b1 : ((rd l0 x3_1) != 58) = false := bne_eq_false_iff_eq.mpr c4
            clear c4
            obtain rfl := Option.some.inj H
            have p121 : 0 ≤ (x3_1 : Int) := of_decide_eq_true (by first | (with_reducible assumption) | assumption)
            have q121 : x3_1 < (l0.length : Int) := of_decide_eq_true (by first | (with_reducible assumption) | assumption)
            obtain ⟨ad121, e121, hx121_0⟩ := Kd.at_int HR0.out x3_1 p121 q121
            cases e121
            replace p121 := eq_true p121
            replace q121 := eq_true q121
            go_wp2
            go_ret
            exact ⟨by first | rfl | (simp; done) | (simp [*]; done), by repeat (first | exact Drawn0.refl _ | apply Drawn0.step)⟩
          · rw [if_neg c4] at H
            have c4b0 : ((rd l0 x3_1) == 58) = false := beq_eq_false_iff_ne.mpr c4
            have c4b1 : ((rd l0 x3_1) != 58) = true := bne_iff_ne.mpr c4
            by_cases c5 : (rd l0 x3_1) = 47
            · rw [if_pos c5] at H
              have c5b0 : ((rd l0 x3_1) == 47) = true := beq_iff_eq.mpr c5
              have c5b1 : ((rd l0 x3_1) != 47) = false := bne_eq_false_iff_eq.mpr c5
              clear c5
              obtain rfl := Option.some.inj H
              have p121 : 0 ≤ (x3_1 : Int) := of_decide_eq_true (by first | (with_reducible assumption) | assumption)
              have q121 : x3_1 < (l0.length : Int) := of_decide_eq_true (by first | (with_reducible assumption) | assumption)
              obtain ⟨ad121, e121, hx121_0⟩ := Kd.at_int HR0.out x3_1 p121 q121
              cases e121
              replace p121 := eq_true p121
              replace q121 := eq_true q121
              have p122 : 0 ≤ (x3_1 : Int) := of_decide_eq_true (by first | (with_reducible assumption) | assumption)
              have q122 : x3_1 < (l0.length : Int) := of_decide_eq_true (by first | (with_reducible assumption) | assumption)
              obtain ⟨ad122, e122, hx122_0⟩ := Kd.at_int HR0.out x3_1 p122 q122
              obtain rfl : ad121 = ad122 := (by injection e122)
              replace p122 := eq_true p122
              replace q122 := eq_true q122
              go_wp2
              go_ret
              exact ⟨by first | rfl | (simp; done) | (simp [*]; done), by repeat (first | exact Drawn0.refl _ | apply Drawn0.step)⟩
            · rw [if_neg c5] at H
              have c5b0 : ((rd l0 x3_1) == 47) = false := beq_eq_false_iff_ne.mpr c5
              have c5b1 : ((rd l0 x3_1) != 47) = true := bne_iff_ne.mpr c5
              by_cases c6 : (rd l0 x3_1) = 63
              · rw [if_pos c6] at H
                have c6b0 : ((rd l0 x3_1) == 63) = true := beq_iff_eq.mpr c6
                have c6b1 : ((rd l0 x3_1) != 63) = false := bne_eq_false_iff_eq.mpr c6
                clear c6
                obtain rfl := Option.some.inj H
                have p121 : 0 ≤ (x3_1 : Int) := of_decide_eq_true (by first | (with_reducible assumption) | assumption)
                have q121 : x3_1 < (l0.length : Int) := of_decide_eq_true (by first | (with_reducible assumption) | assumption)
                obtain ⟨ad121, e121, hx121_0⟩ := Kd.at_int HR0.out x3_1 p121 q121
                cases e121
                replace p121 := eq_true p121
                replace q121 := eq_true q121
                have p122 : 0 ≤ (x3_1 : Int) := of_decide_eq_true (by first | (with_reducible assumption) | assumption)
                have q122 : x3_1 < (l0.length : Int) := of_decide_eq_true (by first | (with_reducible assumption) | assumption)
                obtain ⟨ad122, e122, hx122_0⟩ := Kd.at_int HR0.out x3_1 p122 q122
                obtain rfl : ad121 = ad122 := (by injection e122)
                replace p122 := eq_true p122
                replace q122 := eq_true q122
                have p123 : 0 ≤ (x3_1 : Int) := of_decide_eq_true (by first | (with_reducible assumption) | assumption)
                have q123 : x3_1 < (l0.length : Int) := of_decide_eq_true (by first | (with_reducible assumption) | assumption)
                obtain ⟨ad123, e123, hx123_0⟩ := Kd.at_int HR0.out x3_1 p123 q123
                obtain rfl : ad121 = ad123 := (by injection e123)
                replace p123 := eq_true p123
                replace q123 := eq_true q123
                go_wp2
                go_ret
                exact ⟨by first | rfl | (simp; done) | (simp [*]; done), by repeat (first | exact Drawn0.refl _ | apply Drawn0.step)⟩
              · rw [if_neg c6] at H
                have c6b0 : ((rd l0 x3_1) == 63) = false := beq_eq_false_iff_ne.mpr c6
                have c6b1 : ((rd l0 x3_1) != 63) = true := bne_iff_ne.mpr c6
                by_cases c7 : (rd l0 x3_1) = 35
                · rw [if_pos c7] at H
                  have c7b0 : ((rd l0 x3_1) == 35) = true := beq_iff_eq.mpr c7
                  have c7b1 : ((rd l0 x3_1) != 35) = false := bne_eq_false_iff_eq.mpr c7
                  clear c7
                  obtain rfl := Option.some.inj H
                  have p121 : 0 ≤ (x3_1 : Int) := of_decide_eq_true (by first | (with_reducible assumption) | assumption)
                  have q121 : x3_1 < (l0.length : Int) := of_decide_eq_true (by first | (with_reducible assumption) | assumption)
                  obtain ⟨ad121, e121, hx121_0⟩ := Kd.at_int HR0.out x3_1 p121 q121
                  cases e121
                  replace p121 := eq_true p121
                  replace q121 := eq_true q121
                  have p122 : 0 ≤ (x3_1 : Int) := of_decide_eq_true (by first | (with_reducible assumption) | assumption)
                  have q122 : x3_1 < (l0.length : Int) := of_decide_eq_true (by first | (with_reducible assumption) | assumption)
                  obtain ⟨ad122, e122, hx122_0⟩ := Kd.at_int HR0.out x3_1 p122 q122
                  obtain rfl : ad121 = ad122 := (by injection e122)
                  replace p122 := eq_true p122
                  replace q122 := eq_true q122
                  have p123 : 0 ≤ (x3_1 : Int) := of_decide_eq_true (by first | (with_reducible assumption) | assumption)
                  have q123 : x3_1 < (l0.length : Int) := of_decide_eq_true (by first | (with_reducible assumption) | assumption)
                  obtain ⟨ad123, e123, hx123_0⟩ := Kd.at_int HR0.out x3_1 p123 q123
                  obtain rfl : ad121 = ad123 := (by injection e123)
                  replace p123 := eq_true p123
                  replace q123 := eq_true q123
                  have p124 : 0 ≤ (x3_1 : Int) := of_decide_eq_true (by first | (with_reducible assumption) | assumption)
                  have q124 : x3_1 < (l0.length : Int) := of_decide_eq_true (by first | (with_reducible assumption) | assumption)
                  obtain ⟨ad124, e124, hx124_0⟩ := Kd.at_int HR0.out x3_1 p124 q124
                  obtain rfl : ad121 = ad124 := (by injection e124)
                  replace p124 := eq_true p124
                  replace q124 := eq_true q124
                  go_wp2
                  go_ret
                  exact ⟨by first | rfl | (simp; done) | (simp [*]; done), by repeat (first | exact Drawn0.refl _ | apply Drawn0.step)⟩
                · rw [if_neg c7] at H
                  have c7b0 : ((rd l0 x3_1) == 35) = false := beq_eq_false_iff_ne.mpr c7
                  have c7b1 : ((rd l0 x3_1) != 35) = true := bne_iff_ne.mpr c7
                  have H' := Aside0.mk H
                  clear H
                  have p121 : 0 ≤ (x3_1 : Int) := of_decide_eq_true (by first | (with_reducible assumption) | assumption)
                  have q121 : x3_1 < (l0.length : Int) := of_decide_eq_true (by first | (with_reducible assumption) | assumption)
                  obtain ⟨ad121, e121, hx121_0⟩ := Kd.at_int HR0.out x3_1 p121 q121
                  cases e121
                  replace p121 := eq_true p121
                  replace q121 := eq_true q121
                  have p122 : 0 ≤ (x3_1 : Int) := of_decide_eq_true (by first | (with_reducible assumption) | assumption)
                  have q122 : x3_1 < (l0.length : Int) := of_decide_eq_true (by first | (with_reducible assumption) | assumption)
                  obtain ⟨ad122, e122, hx122_0⟩ := Kd.at_int HR0.out x3_1 p122 q122
                  obtain rfl : ad121 = ad122 := (by injection e122)
                  replace p122 := eq_true p122
                  replace q122 := eq_true q122
                  have p123 : 0 ≤ (x3_1 : Int) := of_decide_eq_true (by first | (with_reducible assumption) | assumption)
                  have q123 : x3_1 < (l0.length : Int) := of_decide_eq_true (by first | (with_reducible assumption) | assumption)
                  obtain ⟨ad123, e123, hx123_0⟩ := Kd.at_int HR0.out x3_1 p123 q123
                  obtain rfl : ad121 = ad123 := (by injection e123)
                  replace p123 := eq_true p123
                  replace q123 := eq_true q123
                  have p124 : 0 ≤ (x3_1 : Int) := of_decide_eq_true (by first | (with_reducible assumption) | assumption)
                  have q124 : x3_1 < (l0.length : Int) := of_decide_eq_true (by first | (with_reducible assumption) | assumption)
                  obtain ⟨ad124, e124, hx124_0⟩ := Kd.at_int HR0.out x3_1 p124 q124
                  obtain rfl : ad121 = ad124 := (by injection e124)
                  replace p124 := eq_true p124
                  replace q124 := eq_true q124
                  go_wp2
                  go_roundg k1
                  case measure => have := HK1.out; omega
                  case rel => exact ⟨(wrap64 (x3_1 + 1)), (by first | rfl | (simp; done) | (simp [*]; done)), H', ⟨by have := HK1.out; omega⟩, by repeat (first | exact Drawn0.refl _ | apply Drawn0.step)⟩
        · rw [if_neg c3] at H
          exact absurd H (by simp)
      · rw [if_neg c2] at H
        have c2b0 : decide (x3_1 < (l0.length : Int)) = false := decide_eq_false c2
        clear c2
        obtain rfl := Option.some.inj H
        go_wp2
        go_ret
        exact ⟨by first | rfl | (simp; done) | (simp [*]; done), by repeat (first | exact Drawn0.refl _ | apply Drawn0.step)⟩
theorem take_at_ {P : Program} {f : FuncId} {A : Option Addr} {c n : Nat} {l : List Int} {w : World} {Q : Ending → World → Prop} (h : n ≤ l.length) (hc : Calls P f #[.slice A (l.take n).length c] w Q) : Calls P f #[.slice A n c] w Q := by rwa [List.length_take, Nat.min_eq_left h] at hc
def bobbinref05_Stopped.f (k : Nat) (l0 : List Int) : Option (Bool) := (bobbinref05_Mark.f k l0).bind fun t125 => (if t125 < 0 then (some (decide ((l0.length : Int) > 16))) else (if t125 > 16 then (some true) else (if t125 ≥ 0 then (if 0 ≤ t125 then (if t125 < (l0.length : Int) then (if (rd l0 t125) = 58 then (if t125 ≤ (l0.length : Int) then ((bobbinref05_Allowed.f k (l0.take (t125 : Int).toNat)).bind fun t128 => (some (!t128))) else (none)) else (some false)) else (none)) else (none)) else (some false))))
set_option maxHeartbeats 8000000 in
set_option maxRecDepth 100000 in
theorem bobbinref05_Stopped.calls (k : Nat) (A0 : Option Addr) (c0 : Nat) (l0 : List Int) (r : Bool) (w : World) (hr0 : Kd.C (Kd.int .u8) w A0 l0.length l0) (hc0 : l0.length ≤ c0) (h : bobbinref05_Stopped.f k l0 = some r) :
    Calls Tryd.prog 68 #[.slice A0 l0.length c0] w fun e w' => e = .returned (.bool r) ∧ Below w.heap.size w w' := by
  have HR0 := Aside0.mk hr0
  have HC0 := Aside0.mk hc0
  clear hr0 hc0
  have HB := Aside0.mk (Below.refl w.heap.size w)
  have H : ((bobbinref05_Mark.f k l0).bind fun t125 => (if t125 < 0 then (some (decide ((l0.length : Int) > 16))) else (if t125 > 16 then (some true) else (if t125 ≥ 0 then (if 0 ≤ t125 then (if t125 < (l0.length : Int) then (if (rd l0 t125) = 58 then (if t125 ≤ (l0.length : Int) then ((bobbinref05_Allowed.f k (l0.take (t125 : Int).toNat)).bind fun t128 => (some (!t128))) else (none)) else (some false)) else (none)) else (none)) else (some false))))) = some r := h
  clear h
  replace H := Option.bind_eq_some_iff.mp H
  obtain ⟨t125, A20, H⟩ := H
  replace H : (if t125 < 0 then (some (decide ((l0.length : Int) > 16))) else (if t125 > 16 then (some true) else (if t125 ≥ 0 then (if 0 ≤ t125 then (if t125 < (l0.length : Int) then (if (rd l0 t125) = 58 then (if t125 ≤ (l0.length : Int) then ((bobbinref05_Allowed.f k (l0.take (t125 : Int).toNat)).bind fun t128 => (some (!t128))) else (none)) else (some false)) else (none)) else (none)) else (some false)))) = some r := H
  have A2 := Aside0.mk A20
  clear A20
  by_cases c3 : t125 < 0
  · rw [if_pos c3] at H
    have c3b0 : decide (t125 < 0) = true := decide_eq_true c3
    clear c3
    obtain rfl := Option.some.inj H
    go_enter Tryd.func68, Tryd.ntmps68
    go_wp2_with (first | ((with_reducible refine gate_callee (f := 70) rfl ?_); refine goesL_ (some 5) rfl rfl Tryd.func70 (by kernel_rfl) rfl #[.slice A0 l0.length c0] rfl (by (try simp only [List.map_toArray, List.map_cons, List.map_nil]); first | done | rfl | (simp only [List.length_drop, List.length_take]; rfl)) ?_; (with_reducible refine (bobbinref05_Mark.calls k _ _ l0 t125 _ ?side1 ?side2 A2.out).mono ?_); (case side1 => repeat (first | exact HR0.out | (with_reducible refine Kd.C_alloc ?_ _) | (with_reducible refine Kd.C_drewN ?_ _) | (with_reducible refine Kd.C_drew ?_))); (case side2 => exact HC0.out); rintro e w' ⟨rfl, ⟨nd, rfl⟩⟩; refine ⟨_, rfl, ?_⟩))
    go_ret
    exact ⟨by first | rfl | (simp [errW_none, errW_some] <;> rfl) | (simp [*, errW_none, errW_some] <;> rfl), by repeat (first | (with_reducible first | exact HB.out | apply below_alloc | apply pw_below_drewN | apply below_drew1) | exact HB.out)⟩
  · rw [if_neg c3] at H
    have c3b0 : decide (t125 < 0) = false := decide_eq_false c3
    clear c3
    by_cases c4 : t125 > 16
    · rw [if_pos c4] at H
      have c4b0 : decide (16 < t125) = true := decide_eq_true c4
      clear c4
      obtain rfl := Option.some.inj H
      go_enter Tryd.func68, Tryd.ntmps68
      go_wp2_with (first | ((with_reducible refine gate_callee (f := 70) rfl ?_); refine goesL_ (some 5) rfl rfl Tryd.func70 (by kernel_rfl) rfl #[.slice A0 l0.length c0] rfl (by (try simp only [List.map_toArray, List.map_cons, List.map_nil]); first | done | rfl | (simp only [List.length_drop, List.length_take]; rfl)) ?_; (with_reducible refine (bobbinref05_Mark.calls k _ _ l0 t125 _ ?side1 ?side2 A2.out).mono ?_); (case side1 => repeat (first | exact HR0.out | (with_reducible refine Kd.C_alloc ?_ _) | (with_reducible refine Kd.C_drewN ?_ _) | (with_reducible refine Kd.C_drew ?_))); (case side2 => exact HC0.out); rintro e w' ⟨rfl, ⟨nd, rfl⟩⟩; refine ⟨_, rfl, ?_⟩))
      go_ret
      exact ⟨by first | rfl | (simp [errW_none, errW_some] <;> rfl) | (simp [*, errW_none, errW_some] <;> rfl), by repeat (first | (with_reducible first | exact HB.out | apply below_alloc | apply pw_below_drewN | apply below_drew1) | exact HB.out)⟩
    · rw [if_neg c4] at H
      have c4b0 : decide (16 < t125) = false := decide_eq_false c4
      clear c4
      by_cases c5 : t125 ≥ 0
      · rw [if_pos c5] at H
        have c5b0 : decide (0 ≤ t125) = true := decide_eq_true c5
        clear c5
        by_cases c6 : 0 ≤ t125
        · rw [if_pos c6] at H
          have c6b0 : decide (0 ≤ t125) = true := decide_eq_true c6
          clear c6
          by_cases c7 : t125 < (l0.length : Int)
          · rw [if_pos c7] at H
            have c7b0 : decide (t125 < (l0.length : Int)) = true := decide_eq_true c7
            clear c7
            by_cases c8 : (rd l0 t125) = 58
            · rw [if_pos c8] at H
              have c8b0 : ((rd l0 t125) == 58) = true := beq_iff_eq.mpr c8
              have c8b1 : ((rd l0 t125) != 58) = false := bne_eq_false_iff_eq.mpr c8
              clear c8
              have c9b0 := eq_true (of_decide_eq_true (by first | (with_reducible assumption) | assumption) : 0 ≤ t125)
              by_cases c10 : t125 ≤ (l0.length : Int)
              · rw [if_pos c10] at H
                have c10b0 := eq_true c10
                have c10b1 : decide (t125 ≤ (l0.length : Int)) = true := decide_eq_true c10
                clear c10
                replace H := Option.bind_eq_some_iff.mp H
                obtain ⟨t128, A110, H⟩ := H
                replace H : (some (!t128)) = some r := H
                have A11 := Aside0.mk A110
                clear A110
                obtain rfl := Option.some.inj H
                go_enter Tryd.func68, Tryd.ntmps68
                go_wp2_with (first | ((with_reducible refine gate_callee (f := 70) rfl ?_); refine goesL_ (some 5) rfl rfl Tryd.func70 (by kernel_rfl) rfl #[.slice A0 l0.length c0] rfl (by (try simp only [List.map_toArray, List.map_cons, List.map_nil]); first | done | rfl | (simp only [List.length_drop, List.length_take]; rfl)) ?_; (with_reducible refine (bobbinref05_Mark.calls k _ _ l0 t125 _ ?side1 ?side2 A2.out).mono ?_); (case side1 => repeat (first | exact HR0.out | (with_reducible refine Kd.C_alloc ?_ _) | (with_reducible refine Kd.C_drewN ?_ _) | (with_reducible refine Kd.C_drew ?_))); (case side2 => exact HC0.out); rintro e w' ⟨rfl, ⟨nd, rfl⟩⟩; refine ⟨_, rfl, ?_⟩; have p126 : 0 ≤ (t125 : Int) := of_decide_eq_true (by first | (with_reducible assumption) | assumption); have q126 : t125 < (l0.length : Int) := of_decide_eq_true (by first | (with_reducible assumption) | assumption); obtain ⟨ad126, e126, hx126_0⟩ := Kd.at_int HR0.out t125 p126 q126; cases e126; replace p126 := eq_true p126; replace q126 := eq_true q126; obtain ⟨i012, hi012, _, hsz12, _⟩ := info_parts info5; obtain ⟨hcut12, hA12, hC12⟩ := print_take_of (P := Tryd.prog) (Value.int .u8) 0 22 5 .i64 Tryd.underlying22 hi012 hsz12 (some ad126) c0 l0 t125 (of_decide_eq_true (by first | (with_reducible assumption) | assumption)) (of_decide_eq_true (by first | (with_reducible assumption) | assumption)) HC0.out; have HR127 := Aside0.mk (Kd.C_of_reads (h1 := fun _ => rfl) (hA12 _ (Kd.reads_of_C HR0.out))); have HC127 := Aside0.mk hC12; clear hA12 hC12 hi012 hsz12) | (go_at_call 41; (with_reducible refine (take_at_ (by first | omega | (have h_ := of_decide_eq_true ‹decide (_ ≤ (l0.length : Int)) = true›; omega)) (bobbinref05_Allowed.calls k _ _ (l0.take (t125 : Int).toNat) t128 _ ?side1 ?side2 A11.out)).mono ?_); (case side1 => repeat (first | exact HR127.out | (with_reducible refine Kd.C_alloc ?_ _) | (with_reducible refine Kd.C_drewN ?_ _) | (with_reducible refine Kd.C_drew ?_))); (case side2 => exact HC127.out); rintro e w13 ⟨rfl, hb⟩; have n0_ := Aside0.mk (below_step (by repeat (first | (with_reducible first | exact HB.out | apply below_alloc | apply pw_below_drewN | apply below_drew1) | exact HB.out)) hb); clear HB; have HB := n0_; clear n0_; (try clear hb); (try clear hb2); (try clear hk); (try clear hi)))
                go_ret
                exact ⟨by first | rfl | (simp [errW_none, errW_some] <;> rfl) | (simp [*, errW_none, errW_some] <;> rfl), by repeat (first | (with_reducible first | exact HB.out | apply below_alloc | apply pw_below_drewN | apply below_drew1) | exact HB.out)⟩
              · rw [if_neg c10] at H
                exact absurd H (by simp)
            · rw [if_neg c8] at H
              have c8b0 : ((rd l0 t125) == 58) = false := beq_eq_false_iff_ne.mpr c8
              have c8b1 : ((rd l0 t125) != 58) = true := bne_iff_ne.mpr c8
              obtain rfl := Option.some.inj H
              go_enter Tryd.func68, Tryd.ntmps68
              go_wp2_with (first | ((with_reducible refine gate_callee (f := 70) rfl ?_); refine goesL_ (some 5) rfl rfl Tryd.func70 (by kernel_rfl) rfl #[.slice A0 l0.length c0] rfl (by (try simp only [List.map_toArray, List.map_cons, List.map_nil]); first | done | rfl | (simp only [List.length_drop, List.length_take]; rfl)) ?_; (with_reducible refine (bobbinref05_Mark.calls k _ _ l0 t125 _ ?side1 ?side2 A2.out).mono ?_); (case side1 => repeat (first | exact HR0.out | (with_reducible refine Kd.C_alloc ?_ _) | (with_reducible refine Kd.C_drewN ?_ _) | (with_reducible refine Kd.C_drew ?_))); (case side2 => exact HC0.out); rintro e w' ⟨rfl, ⟨nd, rfl⟩⟩; refine ⟨_, rfl, ?_⟩; have p126 : 0 ≤ (t125 : Int) := of_decide_eq_true (by first | (with_reducible assumption) | assumption); have q126 : t125 < (l0.length : Int) := of_decide_eq_true (by first | (with_reducible assumption) | assumption); obtain ⟨ad126, e126, hx126_0⟩ := Kd.at_int HR0.out t125 p126 q126; cases e126; replace p126 := eq_true p126; replace q126 := eq_true q126))
              go_ret
              exact ⟨by first | rfl | (simp [errW_none, errW_some] <;> rfl) | (simp [*, errW_none, errW_some] <;> rfl), by repeat (first | (with_reducible first | exact HB.out | apply below_alloc | apply pw_below_drewN | apply below_drew1) | exact HB.out)⟩
          · rw [if_neg c7] at H
            exact absurd H (by simp)
        · rw [if_neg c6] at H
          exact absurd H (by simp)
      · rw [if_neg c5] at H
        have c5b0 : decide (0 ≤ t125) = false := decide_eq_false c5
        clear c5
        obtain rfl := Option.some.inj H
        go_enter Tryd.func68, Tryd.ntmps68
        go_wp2_with (first | ((with_reducible refine gate_callee (f := 70) rfl ?_); refine goesL_ (some 5) rfl rfl Tryd.func70 (by kernel_rfl) rfl #[.slice A0 l0.length c0] rfl (by (try simp only [List.map_toArray, List.map_cons, List.map_nil]); first | done | rfl | (simp only [List.length_drop, List.length_take]; rfl)) ?_; (with_reducible refine (bobbinref05_Mark.calls k _ _ l0 t125 _ ?side1 ?side2 A2.out).mono ?_); (case side1 => repeat (first | exact HR0.out | (with_reducible refine Kd.C_alloc ?_ _) | (with_reducible refine Kd.C_drewN ?_ _) | (with_reducible refine Kd.C_drew ?_))); (case side2 => exact HC0.out); rintro e w' ⟨rfl, ⟨nd, rfl⟩⟩; refine ⟨_, rfl, ?_⟩))
        go_ret
        exact ⟨by first | rfl | (simp [errW_none, errW_some] <;> rfl) | (simp [*, errW_none, errW_some] <;> rfl), by repeat (first | (with_reducible first | exact HB.out | apply below_alloc | apply pw_below_drewN | apply below_drew1) | exact HB.out)⟩
def bobbinref05_Pass.f (k : Nat) (l0 : List Int) : Option (ByteArray) := (bobbinref05_Stopped.f k l0).bind fun t129 => (if t129 = true then (some (⟨#[35, 98, 108, 111, 99, 107, 101, 100]⟩ : ByteArray)) else (some (strOfNums l0)))
set_option maxHeartbeats 8000000 in
set_option maxRecDepth 100000 in
theorem bobbinref05_Pass.calls (k : Nat) (A0 : Option Addr) (c0 : Nat) (l0 : List Int) (r : ByteArray) (w : World) (hr0 : Kd.C (Kd.int .u8) w A0 l0.length l0) (hc0 : l0.length ≤ c0) (h : bobbinref05_Pass.f k l0 = some r) :
    Calls Tryd.prog 39 #[.slice A0 l0.length c0] w fun e w' => e = .returned (.string r) ∧ Below w.heap.size w w' := by
  have HR0 := Aside0.mk hr0
  have HC0 := Aside0.mk hc0
  clear hr0 hc0
  have HB := Aside0.mk (Below.refl w.heap.size w)
  have H : ((bobbinref05_Stopped.f k l0).bind fun t129 => (if t129 = true then (some (⟨#[35, 98, 108, 111, 99, 107, 101, 100]⟩ : ByteArray)) else (some (strOfNums l0)))) = some r := h
  clear h
  replace H := Option.bind_eq_some_iff.mp H
  obtain ⟨t129, A20, H⟩ := H
  replace H : (if t129 = true then (some (⟨#[35, 98, 108, 111, 99, 107, 101, 100]⟩ : ByteArray)) else (some (strOfNums l0))) = some r := H
  have A2 := Aside0.mk A20
  clear A20
  by_cases c3 : t129 = true
  · subst c3
    have H1 : (some (⟨#[35, 98, 108, 111, 99, 107, 101, 100]⟩ : ByteArray)) = some r := by rw [if_pos rfl] at H; exact H
    clear H
    have H := H1
    clear H1
    obtain rfl := Option.some.inj H
    go_enter Tryd.func39, Tryd.ntmps39
    go_wp2_with (first | ((with_reducible refine gate_callee (f := 68) rfl ?_); refine goesL_ (some 4) rfl rfl Tryd.func68 (by kernel_rfl) rfl #[.slice A0 l0.length c0] rfl (by (try simp only [List.map_toArray, List.map_cons, List.map_nil]); first | done | rfl | (simp only [List.length_drop, List.length_take]; rfl)) ?_; (with_reducible refine (bobbinref05_Stopped.calls k _ _ l0 true _ ?side1 ?side2 A2.out).mono ?_); (case side1 => repeat (first | exact HR0.out | (with_reducible refine Kd.C_alloc ?_ _) | (with_reducible refine Kd.C_drewN ?_ _) | (with_reducible refine Kd.C_drew ?_))); (case side2 => exact HC0.out); rintro e w4 ⟨rfl, hb⟩; refine ⟨_, rfl, ?_⟩; have n0_ := Aside0.mk (below_step (by repeat (first | (with_reducible first | exact HB.out | apply below_alloc | apply pw_below_drewN | apply below_drew1) | exact HB.out)) hb); clear HB; have HB := n0_; clear n0_; (try clear hb); (try clear hb2); (try clear hk); (try clear hi)))
    go_ret
    exact ⟨by first | rfl | (simp [errW_none, errW_some] <;> rfl) | (simp [*, errW_none, errW_some] <;> rfl), by repeat (first | (with_reducible first | exact HB.out | apply below_alloc | apply pw_below_drewN | apply below_drew1) | exact HB.out)⟩
  · replace c3 := Bool.eq_false_iff.mpr c3
    subst c3
    have H1 : (some (strOfNums l0)) = some r := by rw [if_neg (show ¬ (false = true) by decide)] at H; exact H
    clear H
    have H := H1
    clear H1
    obtain rfl := Option.some.inj H
    go_enter Tryd.func39, Tryd.ntmps39
    go_wp2_with (first | ((with_reducible refine gate_callee (f := 68) rfl ?_); refine goesL_ (some 4) rfl rfl Tryd.func68 (by kernel_rfl) rfl #[.slice A0 l0.length c0] rfl (by (try simp only [List.map_toArray, List.map_cons, List.map_nil]); first | done | rfl | (simp only [List.length_drop, List.length_take]; rfl)) ?_; (with_reducible refine (bobbinref05_Stopped.calls k _ _ l0 false _ ?side1 ?side2 A2.out).mono ?_); (case side1 => repeat (first | exact HR0.out | (with_reducible refine Kd.C_alloc ?_ _) | (with_reducible refine Kd.C_drewN ?_ _) | (with_reducible refine Kd.C_drew ?_))); (case side2 => exact HC0.out); rintro e w5 ⟨rfl, hb⟩; refine ⟨_, rfl, ?_⟩; have n0_ := Aside0.mk (below_step (by repeat (first | (with_reducible first | exact HB.out | apply below_alloc | apply pw_below_drewN | apply below_drew1) | exact HB.out)) hb); clear HB; have HB := n0_; clear n0_; (try clear hb); (try clear hb2); (try clear hk); (try clear hi); have hcv6 := Kd.C_string (P := Tryd.prog) (A := A0) (c := c0) Tryd.underlying22 Tryd.underlying5 Tryd.underlying9 (Kd.C_below HR0.out HB.out)))
    go_ret
    exact ⟨by first | rfl | (simp [errW_none, errW_some] <;> rfl) | (simp [*, errW_none, errW_some] <;> rfl), by repeat (first | (with_reducible first | exact HB.out | apply below_alloc | apply pw_below_drewN | apply below_drew1) | exact HB.out)⟩
end Go.Proofs.YtdpnnglfaofjeaaDoor.PSc
namespace Go.Proofs.YtdpnnglfaofjeaaDoor.PSc
open Go.RowKit Go.Proofs.YtdpnnglfaofjeaaDoorW.PrintWords Go.Proofs.YtdpnnglfaofjeaaDoorW.PrintLast Go.Proofs.YtdpnnglfaofjeaaDoorW.PrintMore
attribute [local go_sem] max2_int min2_int max_two min_two max_three min_three max_four min_four   -- for this text's walks alone
set_option linter.unusedVariables false
set_option linter.unusedSimpArgs false
def bobbinref05_Sure.f (k : Nat) (l0 : List Int) : Option (Bool) := (bobbinref05_Mark.f k l0).bind fun t130 => (if t130 ≥ 0 then (some true) else (some (decide ((l0.length : Int) > 16))))
set_option maxHeartbeats 8000000 in
set_option maxRecDepth 100000 in
theorem bobbinref05_Sure.calls (k : Nat) (A0 : Option Addr) (c0 : Nat) (l0 : List Int) (r : Bool) (w : World) (hr0 : Kd.C (Kd.int .u8) w A0 l0.length l0) (hc0 : l0.length ≤ c0) (h : bobbinref05_Sure.f k l0 = some r) :
    Calls Tryd.prog 43 #[.slice A0 l0.length c0] w fun e w' => e = .returned (.bool r) ∧ Drawn0 w w' := by
  have HR0 := Aside0.mk hr0
  have HC0 := Aside0.mk hc0
  clear hr0 hc0
  have H : ((bobbinref05_Mark.f k l0).bind fun t130 => (if t130 ≥ 0 then (some true) else (some (decide ((l0.length : Int) > 16))))) = some r := h
  clear h
  replace H := Option.bind_eq_some_iff.mp H
  obtain ⟨t130, A20, H⟩ := H
  replace H : (if t130 ≥ 0 then (some true) else (some (decide ((l0.length : Int) > 16)))) = some r := H
  have A2 := Aside0.mk A20
  clear A20
  by_cases c3 : t130 ≥ 0
  · rw [if_pos c3] at H
    have c3b0 : decide (0 ≤ t130) = true := decide_eq_true c3
    clear c3
    obtain rfl := Option.some.inj H
    go_enter Tryd.func43, Tryd.ntmps43
    go_wp2_with (first | ((with_reducible refine gate_callee (f := 70) rfl ?_); refine goesL_ (some 4) rfl rfl Tryd.func70 (by kernel_rfl) rfl #[.slice A0 l0.length c0] rfl (by (try simp only [List.map_toArray, List.map_cons, List.map_nil]); first | done | rfl | (simp only [List.length_drop, List.length_take]; rfl)) ?_; (with_reducible refine (bobbinref05_Mark.calls k _ _ l0 t130 _ ?side1 ?side2 A2.out).mono ?_); (case side1 => repeat (first | exact HR0.out | (with_reducible refine Kd.C_alloc ?_ _) | (with_reducible refine Kd.C_drewN ?_ _) | (with_reducible refine Kd.C_drew ?_))); (case side2 => exact HC0.out); rintro e w' ⟨rfl, ⟨nd, rfl⟩⟩; refine ⟨_, rfl, ?_⟩))
    go_ret
    exact ⟨by first | rfl | (simp; done) | (simp [*]; done), by repeat (first | exact Drawn0.refl _ | apply Drawn0.step)⟩
  · rw [if_neg c3] at H
    have c3b0 : decide (0 ≤ t130) = false := decide_eq_false c3
    clear c3
    obtain rfl := Option.some.inj H
    go_enter Tryd.func43, Tryd.ntmps43
    go_wp2_with (first | ((with_reducible refine gate_callee (f := 70) rfl ?_); refine goesL_ (some 4) rfl rfl Tryd.func70 (by kernel_rfl) rfl #[.slice A0 l0.length c0] rfl (by (try simp only [List.map_toArray, List.map_cons, List.map_nil]); first | done | rfl | (simp only [List.length_drop, List.length_take]; rfl)) ?_; (with_reducible refine (bobbinref05_Mark.calls k _ _ l0 t130 _ ?side1 ?side2 A2.out).mono ?_); (case side1 => repeat (first | exact HR0.out | (with_reducible refine Kd.C_alloc ?_ _) | (with_reducible refine Kd.C_drewN ?_ _) | (with_reducible refine Kd.C_drew ?_))); (case side2 => exact HC0.out); rintro e w' ⟨rfl, ⟨nd, rfl⟩⟩; refine ⟨_, rfl, ?_⟩))
    go_ret
    exact ⟨by first | rfl | (simp; done) | (simp [*]; done), by repeat (first | exact Drawn0.refl _ | apply Drawn0.step)⟩
end Go.Proofs.YtdpnnglfaofjeaaDoor.PSc
namespace Go.Proofs.YtdpnnglfaofjeaaDoor.PUtf
open Go.RowKit Go.Proofs.YtdpnnglfaofjeaaDoorW.PrintWords Go.Proofs.YtdpnnglfaofjeaaDoorW.PrintLast Go.Proofs.YtdpnnglfaofjeaaDoorW.PrintMore
attribute [local go_sem] max2_int min2_int max_two min_two max_three min_three max_four min_four   -- for this text's walks alone
set_option linter.unusedVariables false
set_option linter.unusedSimpArgs false
def errW : Option Int → Value
  | none => .nilIface
  | some c => .iface 0 (.int .i64 c)
theorem errW_none : errW none = .nilIface := rfl
theorem errW_some (c : Int) : errW (some c) = .iface 0 (.int .i64 c) := rfl
theorem info3 : (Tryd.prog.info? 3).map (fun i => (i.zero, i.size, i.bytes)) = some (some (.int .i64 0), 1, 8) := by kernel_rfl
theorem info5 : (Tryd.prog.info? 5).map (fun i => (i.zero, i.size, i.bytes)) = some (some (.int .u8 0), 1, 1) := by kernel_rfl
end Go.Proofs.YtdpnnglfaofjeaaDoor.PUtf
namespace Go.Proofs.YtdpnnglfaofjeaaDoor.PUtf
open Go.RowKit Go.Proofs.YtdpnnglfaofjeaaDoorW.PrintWords Go.Proofs.YtdpnnglfaofjeaaDoorW.PrintLast Go.Proofs.YtdpnnglfaofjeaaDoorW.PrintMore
attribute [local go_sem] max2_int min2_int max_two min_two max_three min_three max_four min_four   -- for this text's walks alone
set_option linter.unusedVariables false
set_option linter.unusedSimpArgs false
def bobbinref01_Need.j0 : Nat → Int → Bool → Option (Int)
  | 0, _, _ => none
  | k + 1, x0, x10 => if x10 = true then (some 0) else (if x0 < 224 then (some 2) else (if x0 < 240 then (some 3) else (some 4)))
def bobbinref01_Need.f (k : Nat) (a0 : Int) : Option (Int) := if a0 < 128 then (some 1) else (if a0 < 194 then (bobbinref01_Need.j0 k a0 true) else (bobbinref01_Need.j0 k a0 (decide (a0 > 244))))
set_option maxHeartbeats 8000000 in
set_option maxRecDepth 100000 in
theorem bobbinref01_Need.calls (k : Nat) (a0 : Int) (r : Int) (w : World) (h : bobbinref01_Need.f k a0 = some r) :
    Calls Tryd.prog 94 #[.int .u8 a0] w fun e w' => e = .returned (.int .i64 r) ∧ Drawn0 w w' := by
  have H : (if a0 < 128 then (some 1) else (if a0 < 194 then (bobbinref01_Need.j0 k a0 true) else (bobbinref01_Need.j0 k a0 (decide (a0 > 244))))) = some r := h
  clear h
  by_cases c2 : a0 < 128
  · rw [if_pos c2] at H
    have c2b0 : decide (a0 < 128) = true := decide_eq_true c2
    clear c2
    obtain rfl := Option.some.inj H
    go_enter Tryd.func94, Tryd.ntmps94
    go_wp2
    go_ret
    exact ⟨by first | rfl | (simp; done) | (simp [*]; done), by repeat (first | exact Drawn0.refl _ | apply Drawn0.step)⟩
  · rw [if_neg c2] at H
    have c2b0 : decide (a0 < 128) = false := decide_eq_false c2
    clear c2
    have HC3 := Aside0.mk H
    clear H
    go_enter Tryd.func94, Tryd.ntmps94
    go_upto_region 3 with (fail)
    go_cut [10] (fun v10 wc => ∃ (kq : Nat) (x10_2 : Bool), v10 = .bool x10_2 ∧ Aside0 (bobbinref01_Need.j0 kq a0 x10_2 = some r) ∧ Aside0 (kq ≤ k) ∧ Drawn0 w wc)
    case first =>
      have H := HC3.out
      clear HC3
      by_cases c4 : a0 < 194
      · rw [if_pos c4] at H
        have c4b0 : decide (a0 < 194) = true := decide_eq_true c4
        clear c4
        (first | rw [c4b0] | (simp only [i64_w, i32_w]; rw [c4b0]) | skip)
        have H' := Aside0.mk H
        clear H
        go_wp2
        go_meet
        case rel => exact ⟨_, (true), (by first | rfl | (simp; done) | (simp [*]; done)), H', ⟨by first | omega | exact Nat.le_refl _⟩, by repeat (first | exact Drawn0.refl _ | apply Drawn0.step)⟩
      · rw [if_neg c4] at H
        have c4b0 : decide (a0 < 194) = false := decide_eq_false c4
        clear c4
        (first | rw [c4b0] | (simp only [i64_w, i32_w]; rw [c4b0]) | skip)
        have H' := Aside0.mk H
        clear H
        go_wp2
        go_meet
        case rel => exact ⟨_, (decide (a0 > 244)), (by first | rfl | (simp; done) | (simp [*]; done)), H', ⟨by first | omega | exact Nat.le_refl _⟩, by repeat (first | exact Drawn0.refl _ | apply Drawn0.step)⟩
    case rest =>
      clear HC3
      try clear c2
      try clear c2b0
      try clear p2
      try clear c4
      try clear c4b0
      obtain ⟨kq, x10_2, rfl, HA, HJ2, ⟨mc2, rfl⟩⟩ := hcut
      cases kq with
      | zero => exact absurd HA.out (by simp [bobbinref01_Need.j0])
      | succ kj2 =>
        have H := HA.out
        clear HA
        simp only [bobbinref01_Need.j0] at H
        by_cases c5 : x10_2 = true
        · subst c5
          have H1 : (some 0) = some r := by rw [if_pos rfl] at H; exact H
          clear H
          have H := H1
          clear H1
          obtain rfl := Option.some.inj H
          go_wp2
          go_ret
          exact ⟨by first | rfl | (simp; done) | (simp [*]; done), by repeat (first | exact Drawn0.refl _ | apply Drawn0.step)⟩
        · replace c5 := Bool.eq_false_iff.mpr c5
          subst c5
          have H1 : (if a0 < 224 then (some 2) else (if a0 < 240 then (some 3) else (some 4))) = some r := by rw [if_neg (show ¬ (false = true) by decide)] at H; exact H
          clear H
          have H := H1
          clear H1
          by_cases c6 : a0 < 224
          · rw [if_pos c6] at H
            have c6b0 : decide (a0 < 224) = true := decide_eq_true c6
            clear c6
            obtain rfl := Option.some.inj H
            go_wp2
            go_ret
            exact ⟨by first | rfl | (simp; done) | (simp [*]; done), by repeat (first | exact Drawn0.refl _ | apply Drawn0.step)⟩
          · rw [if_neg c6] at H
            have c6b0 : decide (a0 < 224) = false := decide_eq_false c6
            clear c6
            by_cases c7 : a0 < 240
            · rw [if_pos c7] at H
              have c7b0 : decide (a0 < 240) = true := decide_eq_true c7
              clear c7
              obtain rfl := Option.some.inj H
              go_wp2
              go_ret
              exact ⟨by first | rfl | (simp; done) | (simp [*]; done), by repeat (first | exact Drawn0.refl _ | apply Drawn0.step)⟩
            · rw [if_neg c7] at H
              have c7b0 : decide (a0 < 240) = false := decide_eq_false c7
              clear c7
              obtain rfl := Option.some.inj H
              go_wp2
              go_ret
              exact ⟨by first | rfl | (simp; done) | (simp [*]; done), by repeat (first | exact Drawn0.refl _ | apply Drawn0.step)⟩
def bobbinref01_within.j0 : Nat → Int → Int → Int → Bool → Option (Bool)
  | 0, _, _, _, _ => none
  | k + 1, x0, x1, x2, x20 => if x20 = true then (some false) else (if x1 > 1 then (some true) else (if x0 = 224 then (if x2 < 160 then (some (!true)) else (if x0 = 237 then (if x2 > 159 then (some (!true)) else (if x0 = 240 then (if x2 < 144 then (some (!true)) else (if x0 = 244 then (some (!(decide (x2 > 143)))) else (some (!false)))) else (if x0 = 244 then (some (!(decide (x2 > 143)))) else (some (!false))))) else (if x0 = 240 then (if x2 < 144 then (some (!true)) else (if x0 = 244 then (some (!(decide (x2 > 143)))) else (some (!false)))) else (if x0 = 244 then (some (!(decide (x2 > 143)))) else (some (!false)))))) else (if x0 = 237 then (if x2 > 159 then (some (!true)) else (if x0 = 240 then (if x2 < 144 then (some (!true)) else (if x0 = 244 then (some (!(decide (x2 > 143)))) else (some (!false)))) else (if x0 = 244 then (some (!(decide (x2 > 143)))) else (some (!false))))) else (if x0 = 240 then (if x2 < 144 then (some (!true)) else (if x0 = 244 then (some (!(decide (x2 > 143)))) else (some (!false)))) else (if x0 = 244 then (some (!(decide (x2 > 143)))) else (some (!false)))))))
def bobbinref01_within.f (k : Nat) (a0 : Int) (a1 : Int) (a2 : Int) : Option (Bool) := (bobbinref01_Need.f k a0).bind fun t101 => (if a1 ≥ t101 then (bobbinref01_within.j0 k a0 a1 a2 true) else (if a2 < 128 then (bobbinref01_within.j0 k a0 a1 a2 true) else (bobbinref01_within.j0 k a0 a1 a2 (decide (a2 > 191)))))
set_option maxHeartbeats 8000000 in
set_option maxRecDepth 100000 in
theorem bobbinref01_within.calls (k : Nat) (a0 : Int) (a1 : Int) (a2 : Int) (r : Bool) (w : World) (h : bobbinref01_within.f k a0 a1 a2 = some r) :
    Calls Tryd.prog 95 #[.int .u8 a0, .int .i64 a1, .int .u8 a2] w fun e w' => e = .returned (.bool r) ∧ Drawn0 w w' := by
  have H : ((bobbinref01_Need.f k a0).bind fun t101 => (if a1 ≥ t101 then (bobbinref01_within.j0 k a0 a1 a2 true) else (if a2 < 128 then (bobbinref01_within.j0 k a0 a1 a2 true) else (bobbinref01_within.j0 k a0 a1 a2 (decide (a2 > 191)))))) = some r := h
  clear h
  replace H := Option.bind_eq_some_iff.mp H
  obtain ⟨t101, A40, H⟩ := H
  replace H : (if a1 ≥ t101 then (bobbinref01_within.j0 k a0 a1 a2 true) else (if a2 < 128 then (bobbinref01_within.j0 k a0 a1 a2 true) else (bobbinref01_within.j0 k a0 a1 a2 (decide (a2 > 191))))) = some r := H
  have A4 := Aside0.mk A40
  clear A40
  have HC5 := Aside0.mk H
  clear H
  go_enter Tryd.func95, Tryd.ntmps95
  go_upto_region 2 with (first | ((with_reducible refine gate_callee (f := 94) rfl ?_); refine goesL_ (some 9) rfl rfl Tryd.func94 (by kernel_rfl) rfl #[.int .u8 a0] rfl (by (try simp only [List.map_toArray, List.map_cons, List.map_nil]); first | done | rfl | (simp only [List.length_drop, List.length_take]; rfl)) ?_; (with_reducible refine (bobbinref01_Need.calls k a0 t101 _ A4.out).mono ?_); rintro e w' ⟨rfl, ⟨nd, rfl⟩⟩; refine ⟨_, rfl, ?_⟩))
  (try simp only [Act.put, List.setIfInBounds_toArray, List.set_cons_zero, List.set_cons_succ])
  go_cut [20] (fun v20 wc => ∃ (kq : Nat) (x20_4 : Bool), v20 = .bool x20_4 ∧ Aside0 (bobbinref01_within.j0 kq a0 a1 a2 x20_4 = some r) ∧ Aside0 (kq ≤ k) ∧ Drawn0 w wc)
  case first =>
    have H := HC5.out
    clear HC5
    by_cases c6 : a1 ≥ t101
    · rw [if_pos c6] at H
      have c6b0 : decide (t101 ≤ a1) = true := decide_eq_true c6
      clear c6
      (first | rw [c6b0] | (simp only [i64_w, i32_w]; rw [c6b0]) | skip)
      have H' := Aside0.mk H
      clear H
      go_wp2
      go_meet
      case rel => exact ⟨_, (true), (by first | rfl | (simp; done) | (simp [*]; done)), H', ⟨by first | omega | exact Nat.le_refl _⟩, by repeat (first | exact Drawn0.refl _ | apply Drawn0.step)⟩
    · rw [if_neg c6] at H
      have c6b0 : decide (t101 ≤ a1) = false := decide_eq_false c6
      clear c6
      (first | rw [c6b0] | (simp only [i64_w, i32_w]; rw [c6b0]) | skip)
      by_cases c7 : a2 < 128
      · rw [if_pos c7] at H
        have c7b0 : decide (a2 < 128) = true := decide_eq_true c7
        clear c7
        have H' := Aside0.mk H
        clear H
        go_wp2
        go_meet
        case rel => exact ⟨_, (true), (by first | rfl | (simp; done) | (simp [*]; done)), H', ⟨by first | omega | exact Nat.le_refl _⟩, by repeat (first | exact Drawn0.refl _ | apply Drawn0.step)⟩
      · rw [if_neg c7] at H
        have c7b0 : decide (a2 < 128) = false := decide_eq_false c7
        clear c7
        have H' := Aside0.mk H
        clear H
        go_wp2
        go_meet
        case rel => exact ⟨_, (decide (a2 > 191)), (by first | rfl | (simp; done) | (simp [*]; done)), H', ⟨by first | omega | exact Nat.le_refl _⟩, by repeat (first | exact Drawn0.refl _ | apply Drawn0.step)⟩
  case rest =>
    clear HC5
    try clear p2
    try clear c6
    try clear c6b0
    try clear c7
    try clear c7b0
    obtain ⟨kq, x20_4, rfl, HA, HJ4, ⟨mc4, rfl⟩⟩ := hcut
    cases kq with
    | zero => exact absurd HA.out (by simp [bobbinref01_within.j0])
    | succ kj4 =>
      have H := HA.out
      clear HA
      simp only [bobbinref01_within.j0] at H
      by_cases c8 : x20_4 = true
      · subst c8
        have H1 : (some false) = some r := by rw [if_pos rfl] at H; exact H
        clear H
        have H := H1
        clear H1
        obtain rfl := Option.some.inj H
        go_wp2
        go_ret
        exact ⟨by first | rfl | (simp; done) | (simp [*]; done), by repeat (first | exact Drawn0.refl _ | apply Drawn0.step)⟩
      · replace c8 := Bool.eq_false_iff.mpr c8
        subst c8
        have H1 : (if a1 > 1 then (some true) else (if a0 = 224 then (if a2 < 160 then (some (!true)) else (if a0 = 237 then (if a2 > 159 then (some (!true)) else (if a0 = 240 then (if a2 < 144 then (some (!true)) else (if a0 = 244 then (some (!(decide (a2 > 143)))) else (some (!false)))) else (if a0 = 244 then (some (!(decide (a2 > 143)))) else (some (!false))))) else (if a0 = 240 then (if a2 < 144 then (some (!true)) else (if a0 = 244 then (some (!(decide (a2 > 143)))) else (some (!false)))) else (if a0 = 244 then (some (!(decide (a2 > 143)))) else (some (!false)))))) else (if a0 = 237 then (if a2 > 159 then (some (!true)) else (if a0 = 240 then (if a2 < 144 then (some (!true)) else (if a0 = 244 then (some (!(decide (a2 > 143)))) else (some (!false)))) else (if a0 = 244 then (some (!(decide (a2 > 143)))) else (some (!false))))) else (if a0 = 240 then (if a2 < 144 then (some (!true)) else (if a0 = 244 then (some (!(decide (a2 > 143)))) else (some (!false)))) else (if a0 = 244 then (some (!(decide (a2 > 143)))) else (some (!false))))))) = some r := by rw [if_neg (show ¬ (false = true) by decide)] at H; exact H
        clear H
        have H := H1
        clear H1
        by_cases c9 : a1 > 1
        · rw [if_pos c9] at H
          have c9b0 : decide (1 < a1) = true := decide_eq_true c9
          clear c9
          obtain rfl := Option.some.inj H
          go_wp2
          go_ret
          exact ⟨by first | rfl | (simp; done) | (simp [*]; done), by repeat (first | exact Drawn0.refl _ | apply Drawn0.step)⟩
        · rw [if_neg c9] at H
          have c9b0 : decide (1 < a1) = false := decide_eq_false c9
          clear c9
          by_cases c10 : a0 = 224
          · rw [if_pos c10] at H
            have c10b0 : (a0 == 224) = true := beq_iff_eq.mpr c10
            have c10b1 : (a0 != 224) = false := bne_eq_false_iff_eq.mpr c10
            clear c10
            by_cases c11 : a2 < 160
            · rw [if_pos c11] at H
              have c11b0 : decide (a2 < 160) = true := decide_eq_true c11
              clear c11
              obtain rfl := Option.some.inj H
              go_wp2
              go_ret
              exact ⟨by first | rfl | (simp; done) | (simp [*]; done), by repeat (first | exact Drawn0.refl _ | apply Drawn0.step)⟩
            · rw [if_neg c11] at H
              have c11b0 : decide (a2 < 160) = false := decide_eq_false c11
              clear c11
              by_cases c12 : a0 = 237
              · rw [if_pos c12] at H
                have c12b0 : (a0 == 237) = true := beq_iff_eq.mpr c12
                have c12b1 : (a0 != 237) = false := bne_eq_false_iff_eq.mpr c12
                clear c12
                by_cases c13 : a2 > 159
                · rw [if_pos c13] at H
                  have c13b0 : decide (159 < a2) = true := decide_eq_true c13
                  clear c13
                  obtain rfl := Option.some.inj H
                  go_wp2
                  go_ret
                  exact ⟨by first | rfl | (simp; done) | (simp [*]; done), by repeat (first | exact Drawn0.refl _ | apply Drawn0.step)⟩
                · rw [if_neg c13] at H
                  have c13b0 : decide (159 < a2) = false := decide_eq_false c13
                  clear c13
                  by_cases c14 : a0 = 240
                  · rw [if_pos c14] at H
                    have c14b0 : (a0 == 240) = true := beq_iff_eq.mpr c14
                    have c14b1 : (a0 != 240) = false := bne_eq_false_iff_eq.mpr c14
                    clear c14
                    by_cases c15 : a2 < 144
                    · rw [if_pos c15] at H
                      have c15b0 : decide (a2 < 144) = true := decide_eq_true c15
                      clear c15
                      obtain rfl := Option.some.inj H
                      go_wp2
                      go_ret
                      exact ⟨by first | rfl | (simp; done) | (simp [*]; done), by repeat (first | exact Drawn0.refl _ | apply Drawn0.step)⟩
                    · rw [if_neg c15] at H
                      have c15b0 : decide (a2 < 144) = false := decide_eq_false c15
                      clear c15
                      by_cases c16 : a0 = 244
                      · rw [if_pos c16] at H
                        have c16b0 : (a0 == 244) = true := beq_iff_eq.mpr c16
                        have c16b1 : (a0 != 244) = false := bne_eq_false_iff_eq.mpr c16
                        clear c16
                        obtain rfl := Option.some.inj H
                        go_wp2
                        go_ret
                        exact ⟨by first | rfl | (simp; done) | (simp [*]; done), by repeat (first | exact Drawn0.refl _ | apply Drawn0.step)⟩
                      · rw [if_neg c16] at H
                        have c16b0 : (a0 == 244) = false := beq_eq_false_iff_ne.mpr c16
                        have c16b1 : (a0 != 244) = true := bne_iff_ne.mpr c16
                        obtain rfl := Option.some.inj H
                        go_wp2
                        go_ret
                        exact ⟨by first | rfl | (simp; done) | (simp [*]; done), by repeat (first | exact Drawn0.refl _ | apply Drawn0.step)⟩
                  · rw [if_neg c14] at H
                    have c14b0 : (a0 == 240) = false := beq_eq_false_iff_ne.mpr c14
                    have c14b1 : (a0 != 240) = true := bne_iff_ne.mpr c14
                    by_cases c17 : a0 = 244
                    · rw [if_pos c17] at H
                      have c17b0 : (a0 == 244) = true := beq_iff_eq.mpr c17
                      have c17b1 : (a0 != 244) = false := bne_eq_false_iff_eq.mpr c17
                      clear c17
                      obtain rfl := Option.some.inj H
                      go_wp2
                      go_ret
                      exact ⟨by first | rfl | (simp; done) | (simp [*]; done), by repeat (first | exact Drawn0.refl _ | apply Drawn0.step)⟩
                    · rw [if_neg c17] at H
                      have c17b0 : (a0 == 244) = false := beq_eq_false_iff_ne.mpr c17
                      have c17b1 : (a0 != 244) = true := bne_iff_ne.mpr c17
                      obtain rfl := Option.some.inj H
                      go_wp2
                      go_ret
                      exact ⟨by first | rfl | (simp; done) | (simp [*]; done), by repeat (first | exact Drawn0.refl _ | apply Drawn0.step)⟩
              · rw [if_neg c12] at H
                have c12b0 : (a0 == 237) = false := beq_eq_false_iff_ne.mpr c12
                have c12b1 : (a0 != 237) = true := bne_iff_ne.mpr c12
                by_cases c18 : a0 = 240
                · rw [if_pos c18] at H
                  have c18b0 : (a0 == 240) = true := beq_iff_eq.mpr c18
                  have c18b1 : (a0 != 240) = false := bne_eq_false_iff_eq.mpr c18
                  clear c18
                  by_cases c19 : a2 < 144
                  · rw [if_pos c19] at H
                    have c19b0 : decide (a2 < 144) = true := decide_eq_true c19
                    clear c19
                    obtain rfl := Option.some.inj H
                    go_wp2
                    go_ret
                    exact ⟨by first | rfl | (simp; done) | (simp [*]; done), by repeat (first | exact Drawn0.refl _ | apply Drawn0.step)⟩
                  · rw [if_neg c19] at H
                    have c19b0 : decide (a2 < 144) = false := decide_eq_false c19
                    clear c19
                    by_cases c20 : a0 = 244
                    · rw [if_pos c20] at H
                      have c20b0 : (a0 == 244) = true := beq_iff_eq.mpr c20
                      have c20b1 : (a0 != 244) = false := bne_eq_false_iff_eq.mpr c20
                      clear c20
                      obtain rfl := Option.some.inj H
                      go_wp2
                      go_ret
                      exact ⟨by first | rfl | (simp; done) | (simp [*]; done), by repeat (first | exact Drawn0.refl _ | apply Drawn0.step)⟩
                    · rw [if_neg c20] at H
                      have c20b0 : (a0 == 244) = false := beq_eq_false_iff_ne.mpr c20
                      have c20b1 : (a0 != 244) = true := bne_iff_ne.mpr c20
                      obtain rfl := Option.some.inj H
                      go_wp2
                      go_ret
                      exact ⟨by first | rfl | (simp; done) | (simp [*]; done), by repeat (first | exact Drawn0.refl _ | apply Drawn0.step)⟩
                · rw [if_neg c18] at H
                  have c18b0 : (a0 == 240) = false := beq_eq_false_iff_ne.mpr c18
                  have c18b1 : (a0 != 240) = true := bne_iff_ne.mpr c18
                  by_cases c21 : a0 = 244
                  · rw [if_pos c21] at H
                    have c21b0 : (a0 == 244) = true := beq_iff_eq.mpr c21
                    have c21b1 : (a0 != 244) = false := bne_eq_false_iff_eq.mpr c21
                    clear c21
                    obtain rfl := Option.some.inj H
                    go_wp2
                    go_ret
                    exact ⟨by first | rfl | (simp; done) | (simp [*]; done), by repeat (first | exact Drawn0.refl _ | apply Drawn0.step)⟩
                  · rw [if_neg c21] at H
                    have c21b0 : (a0 == 244) = false := beq_eq_false_iff_ne.mpr c21
                    have c21b1 : (a0 != 244) = true := bne_iff_ne.mpr c21
                    obtain rfl := Option.some.inj H
                    go_wp2
                    go_ret
                    exact ⟨by first | rfl | (simp; done) | (simp [*]; done), by repeat (first | exact Drawn0.refl _ | apply Drawn0.step)⟩
          · rw [if_neg c10] at H
            have c10b0 : (a0 == 224) = false := beq_eq_false_iff_ne.mpr c10
            have c10b1 : (a0 != 224) = true := bne_iff_ne.mpr c10
            by_cases c22 : a0 = 237
            · rw [if_pos c22] at H
              have c22b0 : (a0 == 237) = true := beq_iff_eq.mpr c22
              have c22b1 : (a0 != 237) = false := bne_eq_false_iff_eq.mpr c22
              clear c22
              by_cases c23 : a2 > 159
              · rw [if_pos c23] at H
                have c23b0 : decide (159 < a2) = true := decide_eq_true c23
                clear c23
                obtain rfl := Option.some.inj H
                go_wp2
                go_ret
                exact ⟨by first | rfl | (simp; done) | (simp [*]; done), by repeat (first | exact Drawn0.refl _ | apply Drawn0.step)⟩
              · rw [if_neg c23] at H
                have c23b0 : decide (159 < a2) = false := decide_eq_false c23
                clear c23
                by_cases c24 : a0 = 240
                · rw [if_pos c24] at H
                  have c24b0 : (a0 == 240) = true := beq_iff_eq.mpr c24
                  have c24b1 : (a0 != 240) = false := bne_eq_false_iff_eq.mpr c24
                  clear c24
                  by_cases c25 : a2 < 144
                  · rw [if_pos c25] at H
                    have c25b0 : decide (a2 < 144) = true := decide_eq_true c25
                    clear c25
                    obtain rfl := Option.some.inj H
                    go_wp2
                    go_ret
                    exact ⟨by first | rfl | (simp; done) | (simp [*]; done), by repeat (first | exact Drawn0.refl _ | apply Drawn0.step)⟩
                  · rw [if_neg c25] at H
                    have c25b0 : decide (a2 < 144) = false := decide_eq_false c25
                    clear c25
                    by_cases c26 : a0 = 244
                    · rw [if_pos c26] at H
                      have c26b0 : (a0 == 244) = true := beq_iff_eq.mpr c26
                      have c26b1 : (a0 != 244) = false := bne_eq_false_iff_eq.mpr c26
                      clear c26
                      obtain rfl := Option.some.inj H
                      go_wp2
                      go_ret
                      exact ⟨by first | rfl | (simp; done) | (simp [*]; done), by repeat (first | exact Drawn0.refl _ | apply Drawn0.step)⟩
                    · rw [if_neg c26] at H
                      have c26b0 : (a0 == 244) = false := beq_eq_false_iff_ne.mpr c26
                      have c26b1 : (a0 != 244) = true := bne_iff_ne.mpr c26
                      obtain rfl := Option.some.inj H
                      go_wp2
                      go_ret
                      exact ⟨by first | rfl | (simp; done) | (simp [*]; done), by repeat (first | exact Drawn0.refl _ | apply Drawn0.step)⟩
                · rw [if_neg c24] at H
                  have c24b0 : (a0 == 240) = false := beq_eq_false_iff_ne.mpr c24
                  have c24b1 : (a0 != 240) = true := bne_iff_ne.mpr c24
                  by_cases c27 : a0 = 244
                  · rw [if_pos c27] at H
                    have c27b0 : (a0 == 244) = true := beq_iff_eq.mpr c27
                    have c27b1 : (a0 != 244) = false := bne_eq_false_iff_eq.mpr c27
                    clear c27
                    obtain rfl := Option.some.inj H
                    go_wp2
                    go_ret
                    exact ⟨by first | rfl | (simp; done) | (simp [*]; done), by repeat (first | exact Drawn0.refl _ | apply Drawn0.step)⟩
                  · rw [if_neg c27] at H
                    have c27b0 : (a0 == 244) = false := beq_eq_false_iff_ne.mpr c27
                    have c27b1 : (a0 != 244) = true := bne_iff_ne.mpr c27
                    obtain rfl := Option.some.inj H
                    go_wp2
                    go_ret
                    exact ⟨by first | rfl | (simp; done) | (simp [*]; done), by repeat (first | exact Drawn0.refl _ | apply Drawn0.step)⟩
            · rw [if_neg c22] at H
              have c22b0 : (a0 == 237) = false := beq_eq_false_iff_ne.mpr c22
              have c22b1 : (a0 != 237) = true := bne_iff_ne.mpr c22
              by_cases c28 : a0 = 240
              · rw [if_pos c28] at H
                have c28b0 : (a0 == 240) = true := beq_iff_eq.mpr c28
                have c28b1 : (a0 != 240) = false := bne_eq_false_iff_eq.mpr c28
                clear c28
                by_cases c29 : a2 < 144
                · rw [if_pos c29] at H
                  have c29b0 : decide (a2 < 144) = true := decide_eq_true c29
                  clear c29
                  obtain rfl := Option.some.inj H
                  go_wp2
                  go_ret
                  exact ⟨by first | rfl | (simp; done) | (simp [*]; done), by repeat (first | exact Drawn0.refl _ | apply Drawn0.step)⟩
                · rw [if_neg c29] at H
                  have c29b0 : decide (a2 < 144) = false := decide_eq_false c29
                  clear c29
                  by_cases c30 : a0 = 244
                  · rw [if_pos c30] at H
                    have c30b0 : (a0 == 244) = true := beq_iff_eq.mpr c30
                    have c30b1 : (a0 != 244) = false := bne_eq_false_iff_eq.mpr c30
                    clear c30
                    obtain rfl := Option.some.inj H
                    go_wp2
                    go_ret
                    exact ⟨by first | rfl | (simp; done) | (simp [*]; done), by repeat (first | exact Drawn0.refl _ | apply Drawn0.step)⟩
                  · rw [if_neg c30] at H
                    have c30b0 : (a0 == 244) = false := beq_eq_false_iff_ne.mpr c30
                    have c30b1 : (a0 != 244) = true := bne_iff_ne.mpr c30
                    obtain rfl := Option.some.inj H
                    go_wp2
                    go_ret
                    exact ⟨by first | rfl | (simp; done) | (simp [*]; done), by repeat (first | exact Drawn0.refl _ | apply Drawn0.step)⟩
              · rw [if_neg c28] at H
                have c28b0 : (a0 == 240) = false := beq_eq_false_iff_ne.mpr c28
                have c28b1 : (a0 != 240) = true := bne_iff_ne.mpr c28
                by_cases c31 : a0 = 244
                · rw [if_pos c31] at H
                  have c31b0 : (a0 == 244) = true := beq_iff_eq.mpr c31
                  have c31b1 : (a0 != 244) = false := bne_eq_false_iff_eq.mpr c31
                  clear c31
                  obtain rfl := Option.some.inj H
                  go_wp2
                  go_ret
                  exact ⟨by first | rfl | (simp; done) | (simp [*]; done), by repeat (first | exact Drawn0.refl _ | apply Drawn0.step)⟩
                · rw [if_neg c31] at H
                  have c31b0 : (a0 == 244) = false := beq_eq_false_iff_ne.mpr c31
                  have c31b1 : (a0 != 244) = true := bne_iff_ne.mpr c31
                  obtain rfl := Option.some.inj H
                  go_wp2
                  go_ret
                  exact ⟨by first | rfl | (simp; done) | (simp [*]; done), by repeat (first | exact Drawn0.refl _ | apply Drawn0.step)⟩
def bobbinref01_Piece.l0 : Nat → List Int → Int → Int → Option (Int × Bool × Bool)
  | 0, _, _, _ => none
  | k + 1, x0, x5, x6 => if x6 < x5 then (if x6 < (x0.length : Int) then (if 0 < (x0.length : Int) then (if 0 ≤ x6 then ((bobbinref01_within.f k (rd x0 0) x6 (rd x0 x6)).bind fun t106 => (if t106 = true then (bobbinref01_Piece.l0 k x0 x5 (wrap64 (x6 + 1))) else (some (x6, (x6 == x5), (x6 == (x0.length : Int)))))) else (none)) else (none)) else (some (x6, (x6 == x5), (x6 == (x0.length : Int))))) else (some (x6, (x6 == x5), false))
def bobbinref01_Piece.f (k : Nat) (l0 : List Int) : Option (Int × Bool × Bool) := if 0 < (l0.length : Int) then ((bobbinref01_Need.f k (rd l0 0)).bind fun t103 => (if t103 = 0 then (some (1, false, false)) else (bobbinref01_Piece.l0 k l0 t103 1))) else (none)
set_option maxHeartbeats 8000000 in
set_option maxRecDepth 100000 in
theorem bobbinref01_Piece.calls (k : Nat) (A0 : Option Addr) (c0 : Nat) (l0 : List Int) (r1 : Int) (r2 : Bool) (r3 : Bool) (w : World) (hr0 : Kd.C (Kd.int .u8) w A0 l0.length l0) (hc0 : l0.length ≤ c0) (h : bobbinref01_Piece.f k l0 = some (r1, r2, r3)) :
    Calls Tryd.prog 85 #[.slice A0 l0.length c0] w fun e w' => e = .returned (.tuple #[.int .i64 r1, .bool r2, .bool r3]) ∧ Drawn0 w w' := by
  have HR0 := Aside0.mk hr0
  have HC0 := Aside0.mk hc0
  clear hr0 hc0
  have H : (if 0 < (l0.length : Int) then ((bobbinref01_Need.f k (rd l0 0)).bind fun t103 => (if t103 = 0 then (some (1, false, false)) else (bobbinref01_Piece.l0 k l0 t103 1))) else (none)) = some (r1, r2, r3) := h
  clear h
  by_cases c2 : 0 < (l0.length : Int)
  · rw [if_pos c2] at H
    have c2b0 : decide (0 < (l0.length : Int)) = true := decide_eq_true c2
    have c2b1 : decide (0 < l0.length) = true := decide_eq_true (by omega)
    clear c2
    replace H := Option.bind_eq_some_iff.mp H
    obtain ⟨t103, A30, H⟩ := H
    replace H : (if t103 = 0 then (some (1, false, false)) else (bobbinref01_Piece.l0 k l0 t103 1)) = some (r1, r2, r3) := H
    have A3 := Aside0.mk A30
    clear A30
    by_cases c4 : t103 = 0
    · rw [if_pos c4] at H
      have c4b0 : (t103 == 0) = true := beq_iff_eq.mpr c4
      have c4b1 : (t103 != 0) = false := bne_eq_false_iff_eq.mpr c4
      clear c4
      simp only [Option.some.injEq, Prod.mk.injEq] at H
      obtain ⟨rfl, rfl, rfl⟩ := H
      have p102 : 0 ≤ (0 : Int) := (by omega)
      have q102 : 0 < (l0.length : Int) := of_decide_eq_true (by first | (with_reducible assumption) | assumption)
      obtain ⟨ad102, e102, hx102_0⟩ := Kd.at_int HR0.out 0 p102 q102
      cases e102
      have qi102 : (0 < l0.length) = True := eq_true (by omega)
      (try rw [show ((0 : Int)).toNat = 0 from rfl] at hx102_0)
      (try rw [Addr.add_zero'] at hx102_0)
      replace p102 := eq_true p102
      replace q102 := eq_true q102
      go_enter Tryd.func85, Tryd.ntmps85
      go_wp2_with (first | (go_at_call 94; (with_reducible refine (bobbinref01_Need.calls k (rd l0 0) t103 _ A3.out).mono ?_); rintro e w' ⟨rfl, ⟨nd, rfl⟩⟩; (try first | exact ⟨rfl, _, World.drewN_drewN _ _ _⟩ | exact ⟨rfl, _, Eq.trans (World.drewN_drewN _ _ _) (congrArg (World.drewN _) (Nat.add_assoc _ _ _))⟩)))
      repeat (go_quiet (first | (go_at_call 94; (with_reducible refine (bobbinref01_Need.calls k (rd l0 0) t103 _ A3.out).mono ?_); rintro e w' ⟨rfl, ⟨nd, rfl⟩⟩; (try first | exact ⟨rfl, _, World.drewN_drewN _ _ _⟩ | exact ⟨rfl, _, Eq.trans (World.drewN_drewN _ _ _) (congrArg (World.drewN _) (Nat.add_assoc _ _ _))⟩))); try go_wp2_with (first | (go_at_call 94; (with_reducible refine (bobbinref01_Need.calls k (rd l0 0) t103 _ A3.out).mono ?_); rintro e w' ⟨rfl, ⟨nd, rfl⟩⟩; (try first | exact ⟨rfl, _, World.drewN_drewN _ _ _⟩ | exact ⟨rfl, _, Eq.trans (World.drewN_drewN _ _ _) (congrArg (World.drewN _) (Nat.add_assoc _ _ _))⟩))))
      go_ret3
      exact ⟨by first | rfl | (simp; done) | (simp [*]; done), by repeat (first | exact Drawn0.refl _ | apply Drawn0.step)⟩
    · rw [if_neg c4] at H
      have c4b0 : (t103 == 0) = false := beq_eq_false_iff_ne.mpr c4
      have c4b1 : (t103 != 0) = true := bne_iff_ne.mpr c4
      have H' := Aside0.mk H
      clear H
      have p102 : 0 ≤ (0 : Int) := (by omega)
      have q102 : 0 < (l0.length : Int) := of_decide_eq_true (by first | (with_reducible assumption) | assumption)
      obtain ⟨ad102, e102, hx102_0⟩ := Kd.at_int HR0.out 0 p102 q102
      cases e102
      have qi102 : (0 < l0.length) = True := eq_true (by omega)
      (try rw [show ((0 : Int)).toNat = 0 from rfl] at hx102_0)
      (try rw [Addr.add_zero'] at hx102_0)
      replace p102 := eq_true p102
      replace q102 := eq_true q102
      go_enter Tryd.func85, Tryd.ntmps85
      go_wp2_with (first | (go_at_call 94; (with_reducible refine (bobbinref01_Need.calls k (rd l0 0) t103 _ A3.out).mono ?_); rintro e w' ⟨rfl, ⟨nd, rfl⟩⟩; (try first | exact ⟨rfl, _, World.drewN_drewN _ _ _⟩ | exact ⟨rfl, _, Eq.trans (World.drewN_drewN _ _ _) (congrArg (World.drewN _) (Nat.add_assoc _ _ _))⟩)))
      repeat (go_quiet (first | (go_at_call 94; (with_reducible refine (bobbinref01_Need.calls k (rd l0 0) t103 _ A3.out).mono ?_); rintro e w' ⟨rfl, ⟨nd, rfl⟩⟩; (try first | exact ⟨rfl, _, World.drewN_drewN _ _ _⟩ | exact ⟨rfl, _, Eq.trans (World.drewN_drewN _ _ _) (congrArg (World.drewN _) (Nat.add_assoc _ _ _))⟩))); try go_wp2_with (first | (go_at_call 94; (with_reducible refine (bobbinref01_Need.calls k (rd l0 0) t103 _ A3.out).mono ?_); rintro e w' ⟨rfl, ⟨nd, rfl⟩⟩; (try first | exact ⟨rfl, _, World.drewN_drewN _ _ _⟩ | exact ⟨rfl, _, Eq.trans (World.drewN_drewN _ _ _) (congrArg (World.drewN _) (Nat.add_assoc _ _ _))⟩))))
      go_loopg [6] k (fun kq v6 w' => ∃ (x6_1 : Int), v6 = .int .i64 x6_1 ∧ Aside0 (bobbinref01_Piece.l0 kq l0 t103 x6_1 = some (r1, r2, r3)) ∧ Aside0 (kq ≤ k) ∧ Drawn0 w w')
      case atStart => exact ⟨(1), (by first | rfl | (simp; done) | (simp [*]; done)), H', ⟨Nat.le_refl _⟩, by repeat (first | exact Drawn0.refl _ | apply Drawn0.step)⟩
      case round =>
        clear H'
        try clear p1
        try clear q1
        try clear hx1
        try clear qi1
        try clear c2
        try clear c2b0
        try clear c2b1
        try clear p2
        try clear c4
        try clear c4b0
        try clear c4b1
        try clear hx102_0
        try clear p102
        try clear q102
        obtain ⟨x6_1, rfl, HA, HK1, ⟨m1, rfl⟩⟩ := hrel
        cases gk with
        | zero => exact absurd HA.out (by simp [bobbinref01_Piece.l0])
        | succ k1 =>
          have H := HA.out
          clear HA
          simp only [bobbinref01_Piece.l0] at H
          by_cases c5 : x6_1 < t103
          · rw [if_pos c5] at H
            have c5b0 : decide (x6_1 < t103) = true := decide_eq_true c5
            clear c5
            by_cases c6 : x6_1 < (l0.length : Int)
            · rw [if_pos c6] at H
              have c6b0 : decide (x6_1 < (l0.length : Int)) = true := decide_eq_true c6
              clear c6
              by_cases c7 : 0 < (l0.length : Int)
              · rw [if_pos c7] at H
                have c7b0 : decide (0 < (l0.length : Int)) = true := decide_eq_true c7
                have c7b1 : decide (0 < l0.length) = true := decide_eq_true (by omega)
                clear c7
                by_cases c8 : 0 ≤ x6_1
                · rw [if_pos c8] at H
                  have c8b0 : decide (0 ≤ x6_1) = true := decide_eq_true c8
                  clear c8
                  replace H := Option.bind_eq_some_iff.mp H
                  obtain ⟨t106, A90, H⟩ := H
                  replace H : (if t106 = true then (bobbinref01_Piece.l0 k1 l0 t103 (wrap64 (x6_1 + 1))) else (some (x6_1, (x6_1 == t103), (x6_1 == (l0.length : Int))))) = some (r1, r2, r3) := H
                  have A9 := Aside0.mk A90
                  clear A90
                  by_cases c10 : t106 = true
                  · subst c10
                    have H1 : (bobbinref01_Piece.l0 k1 l0 t103 (wrap64 (x6_1 + 1))) = some (r1, r2, r3) := by rw [if_pos rfl] at H; exact H
                    clear H
                    have H := H1
                    clear H1
                    have H' := Aside0.mk H
                    clear H
                    have p104 : 0 ≤ (0 : Int) := (by omega)
                    have q104 : 0 < (l0.length : Int) := of_decide_eq_true (by first | (with_reducible assumption) | assumption)
                    obtain ⟨ad104, e104, hx104_0⟩ := Kd.at_int HR0.out 0 p104 q104
                    obtain rfl : ad102 = ad104 := (by injection e104)
                    have qi104 : (0 < l0.length) = True := eq_true (by omega)
                    (try rw [show ((0 : Int)).toNat = 0 from rfl] at hx104_0)
                    (try rw [Addr.add_zero'] at hx104_0)
                    replace p104 := eq_true p104
                    replace q104 := eq_true q104
                    have p105 : 0 ≤ (x6_1 : Int) := of_decide_eq_true (by first | (with_reducible assumption) | assumption)
                    have q105 : x6_1 < (l0.length : Int) := of_decide_eq_true (by first | (with_reducible assumption) | assumption)
                    obtain ⟨ad105, e105, hx105_0⟩ := Kd.at_int HR0.out x6_1 p105 q105
                    obtain rfl : ad102 = ad105 := (by injection e105)
                    replace p105 := eq_true p105
                    replace q105 := eq_true q105
                    go_wp2_with (first | (go_at_call 95; (with_reducible refine (bobbinref01_within.calls k1 (rd l0 0) x6_1 (rd l0 x6_1) true _ A9.out).mono ?_); rintro e w' ⟨rfl, ⟨nd, rfl⟩⟩; (try first | exact ⟨rfl, _, World.drewN_drewN _ _ _⟩ | exact ⟨rfl, _, Eq.trans (World.drewN_drewN _ _ _) (congrArg (World.drewN _) (Nat.add_assoc _ _ _))⟩)))
                    repeat (go_quiet (first | (go_at_call 95; (with_reducible refine (bobbinref01_within.calls k1 (rd l0 0) x6_1 (rd l0 x6_1) true _ A9.out).mono ?_); rintro e w' ⟨rfl, ⟨nd, rfl⟩⟩; (try first | exact ⟨rfl, _, World.drewN_drewN _ _ _⟩ | exact ⟨rfl, _, Eq.trans (World.drewN_drewN _ _ _) (congrArg (World.drewN _) (Nat.add_assoc _ _ _))⟩))); try go_wp2_with (first | (go_at_call 95; (with_reducible refine (bobbinref01_within.calls k1 (rd l0 0) x6_1 (rd l0 x6_1) true _ A9.out).mono ?_); rintro e w' ⟨rfl, ⟨nd, rfl⟩⟩; (try first | exact ⟨rfl, _, World.drewN_drewN _ _ _⟩ | exact ⟨rfl, _, Eq.trans (World.drewN_drewN _ _ _) (congrArg (World.drewN _) (Nat.add_assoc _ _ _))⟩))))
                    go_roundg k1
                    case measure => have := HK1.out; omega
                    case rel => exact ⟨(wrap64 (x6_1 + 1)), (by first | rfl | (simp; done) | (simp [*]; done)), H', ⟨by have := HK1.out; omega⟩, by repeat (first | exact Drawn0.refl _ | apply Drawn0.step)⟩
                  · replace c10 := Bool.eq_false_iff.mpr c10
                    subst c10
                    have H1 : (some (x6_1, (x6_1 == t103), (x6_1 == (l0.length : Int)))) = some (r1, r2, r3) := by rw [if_neg (show ¬ (false = true) by decide)] at H; exact H
                    clear H
                    have H := H1
                    clear H1
                    simp only [Option.some.injEq, Prod.mk.injEq] at H
                    obtain ⟨rfl, rfl, rfl⟩ := H
                    have p104 : 0 ≤ (0 : Int) := (by omega)
                    have q104 : 0 < (l0.length : Int) := of_decide_eq_true (by first | (with_reducible assumption) | assumption)
                    obtain ⟨ad104, e104, hx104_0⟩ := Kd.at_int HR0.out 0 p104 q104
                    obtain rfl : ad102 = ad104 := (by injection e104)
                    have qi104 : (0 < l0.length) = True := eq_true (by omega)
                    (try rw [show ((0 : Int)).toNat = 0 from rfl] at hx104_0)
                    (try rw [Addr.add_zero'] at hx104_0)
                    replace p104 := eq_true p104
                    replace q104 := eq_true q104
                    have p105 : 0 ≤ (x6_1 : Int) := of_decide_eq_true (by first | (with_reducible assumption) | assumption)
                    have q105 : x6_1 < (l0.length : Int) := of_decide_eq_true (by first | (with_reducible assumption) | assumption)
                    obtain ⟨ad105, e105, hx105_0⟩ := Kd.at_int HR0.out x6_1 p105 q105
                    obtain rfl : ad102 = ad105 := (by injection e105)
                    replace p105 := eq_true p105
                    replace q105 := eq_true q105
                    go_wp2_with (first | (go_at_call 95; (with_reducible refine (bobbinref01_within.calls k1 (rd l0 0) x6_1 (rd l0 x6_1) false _ A9.out).mono ?_); rintro e w' ⟨rfl, ⟨nd, rfl⟩⟩; (try first | exact ⟨rfl, _, World.drewN_drewN _ _ _⟩ | exact ⟨rfl, _, Eq.trans (World.drewN_drewN _ _ _) (congrArg (World.drewN _) (Nat.add_assoc _ _ _))⟩)))
                    repeat (go_quiet (first | (go_at_call 95; (with_reducible refine (bobbinref01_within.calls k1 (rd l0 0) x6_1 (rd l0 x6_1) false _ A9.out).mono ?_); rintro e w' ⟨rfl, ⟨nd, rfl⟩⟩; (try first | exact ⟨rfl, _, World.drewN_drewN _ _ _⟩ | exact ⟨rfl, _, Eq.trans (World.drewN_drewN _ _ _) (congrArg (World.drewN _) (Nat.add_assoc _ _ _))⟩))); try go_wp2_with (first | (go_at_call 95; (with_reducible refine (bobbinref01_within.calls k1 (rd l0 0) x6_1 (rd l0 x6_1) false _ A9.out).mono ?_); rintro e w' ⟨rfl, ⟨nd, rfl⟩⟩; (try first | exact ⟨rfl, _, World.drewN_drewN _ _ _⟩ | exact ⟨rfl, _, Eq.trans (World.drewN_drewN _ _ _) (congrArg (World.drewN _) (Nat.add_assoc _ _ _))⟩))))
                    go_ret3
                    exact ⟨by first | rfl | (simp; done) | (simp [*]; done), by repeat (first | exact Drawn0.refl _ | apply Drawn0.step)⟩
                · rw [if_neg c8] at H
                  exact absurd H (by simp)
              · rw [if_neg c7] at H
                exact absurd H (by simp)
            · rw [if_neg c6] at H
              have c6b0 : decide (x6_1 < (l0.length : Int)) = false := decide_eq_false c6
              clear c6
              simp only [Option.some.injEq, Prod.mk.injEq] at H
              obtain ⟨rfl, rfl, rfl⟩ := H
              go_wp2
              repeat (go_quiet (fail); try go_wp2)
              go_ret3
              exact ⟨by first | rfl | (simp; done) | (simp [*]; done), by repeat (first | exact Drawn0.refl _ | apply Drawn0.step)⟩
          · rw [if_neg c5] at H
            have c5b0 : decide (x6_1 < t103) = false := decide_eq_false c5
            clear c5
            simp only [Option.some.injEq, Prod.mk.injEq] at H
            obtain ⟨rfl, rfl, rfl⟩ := H
            go_wp2
            repeat (go_quiet (fail); try go_wp2)
            go_ret3
            exact ⟨by first | rfl | (simp; done) | (simp [*]; done), by repeat (first | exact Drawn0.refl _ | apply Drawn0.step)⟩
  · rw [if_neg c2] at H
    exact absurd H (by simp)
end Go.Proofs.YtdpnnglfaofjeaaDoor.PUtf

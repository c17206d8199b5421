import Derived.Lib.RuneCount
import Derived.RangeFuncNested
import Derived.RangeFuncBound
import Derived.RangeFuncCalls
import Derived.RangeFuncLeaves
import Derived.Shelf.Abstract
import Derived.OwnWalkIn
import Derived.TacticsInMore
import Derived.LoopNIn
import Derived.LoopIn
import Derived.Lib.OthersKept
import Derived.Stop.RegionWithIn
import Derived.Test.YtdpnnglfaofjeaaDoorZF5
namespace Go.Proofs.YtdpnnglfaofjeaaDoor.PUtf
open Go.RowKit Go.Proofs.YtdpnnglfaofjeaaDoorW.PrintWords Go.Proofs.YtdpnnglfaofjeaaDoorW.PrintLast Go.Proofs.YtdpnnglfaofjeaaDoorW.PrintMore
attribute [local go_sem] max2_int min2_int max_two min_two max_three min_three max_four min_four   -- for this text's walks alone
set_option linter.unusedVariables false
set_option linter.unusedSimpArgs false
def bobbinref01_Pieces.l0 : Nat → List Int → List Int → List Int → Int → Option (List Int × List Int × Int)
  | 0, _, _, _, _ => none
  | k + 1, x0, x5, x6, x7 => if x7 < (x0.length : Int) then (if 0 ≤ x7 then (if x7 ≤ (x0.length : Int) then ((bobbinref01_Piece.f k (x0.drop (x7 : Int).toNat)).bind fun bt108 => (if x6.length < 17592186044416 then ((some (x6 ++ [(x5.length : Int)] : List Int)).bind fun y111 => (if bt108.2.1 = true then (if x7 ≤ (wrap64 (x7 + bt108.1)) then (if (wrap64 (x7 + bt108.1)) ≤ (x0.length : Int) then (if x5.length + ((x0.take ((wrap64 (x7 + bt108.1)) : Int).toNat).drop (x7 : Int).toNat).length < 140737488355328 then ((some (x5 ++ ((x0.take ((wrap64 (x7 + bt108.1)) : Int).toNat).drop (x7 : Int).toNat) : List Int)).bind fun y115 => (if bt108.2.2 = true then (some (y115, y111, bt108.1)) else (bobbinref01_Pieces.l0 k x0 y115 y111 (wrap64 (x7 + bt108.1))))) else (none)) else (none)) else (none)) else ((some (([239, 191, 189] : List Int) : List Int)).bind fun y118 => (if x5.length + y118.length < 140737488355328 then ((some (x5 ++ y118 : List Int)).bind fun y121 => (if bt108.2.2 = true then (some (y121, y111, bt108.1)) else (bobbinref01_Pieces.l0 k x0 y121 y111 (wrap64 (x7 + bt108.1))))) else (none))))) else (none))) else (none)) else (none)) else (some (x5, x6, 0))
def bobbinref01_Pieces.f (k : Nat) (l0 : List Int) : Option (List Int × List Int × Int) := bobbinref01_Pieces.l0 k l0 ([] : List Int) ([] : List Int) 0
set_option maxHeartbeats 8000000 in
set_option maxRecDepth 100000 in
theorem bobbinref01_Pieces.calls (k : Nat) (A0 : Option Addr) (c0 : Nat) (l0 : List Int) (r1 : List Int) (r2 : List Int) (r3 : Int) (w : World) (hr0 : Kd.C (Kd.int .u8) w A0 l0.length l0) (hc0 : l0.length ≤ c0) (h : bobbinref01_Pieces.f k l0 = some (r1, r2, r3)) :
    Calls Tryd.prog 67 #[.slice A0 l0.length c0] w fun e w' => ∃ v0_ v1_ : Value, e = .returned (.tuple #[v0_, v1_, .int .i64 r3]) ∧ Kd.R (Kd.int .u8) 5 w' w.heap.size (fun _ => True) v0_ r1 ∧ Kd.R (Kd.int .i64) 3 w' w.heap.size (fun _ => True) v1_ r2 ∧ Below w.heap.size w w' := by
  have HR0 := Aside0.mk hr0
  have HC0 := Aside0.mk hc0
  clear hr0 hc0
  have HB := Aside0.mk (Below.refl w.heap.size w)
  have H : (bobbinref01_Pieces.l0 k l0 ([] : List Int) ([] : List Int) 0) = some (r1, r2, r3) := h
  clear h
  have H' := Aside0.mk H
  clear H
  go_enter Tryd.func67, Tryd.ntmps67
  go_wp2
  go_loopg [5, 6, 7] k (fun kq v5 v6 v7 w' => ∃ (x5_1 : List Int) (x6_1 : List Int) (x7_1 : Int), v7 = .int .i64 x7_1 ∧ Aside0 (bobbinref01_Pieces.l0 kq l0 x5_1 x6_1 x7_1 = some (r1, r2, r3)) ∧ Aside0 (kq ≤ k) ∧ Aside0 (Kd.R (Kd.int .u8) 5 w' w.heap.size (fun _ => True) v5 x5_1) ∧ Aside0 (Kd.R (Kd.int .i64) 3 w' w.heap.size (fun _ => True) v6 x6_1) ∧ Aside0 (Below w.heap.size w w'))
  case atStart => exact ⟨(([] : List Int)), (([] : List Int)), (0), (by first | rfl | (simp; done) | (simp [*]; done)), H', ⟨Nat.le_refl _⟩, ⟨by first | exact Kd.R_nil _ _ _ _ _ | exact Kd.N_nil _ _ _ _ _ | exact Kd.V_nil _ _ _ _ _ | exact Kd.Q_nil _ _ _ _ _ | exact Kd.S_nil _ _ _ _ _⟩, ⟨by first | exact Kd.R_nil _ _ _ _ _ | exact Kd.N_nil _ _ _ _ _ | exact Kd.V_nil _ _ _ _ _ | exact Kd.Q_nil _ _ _ _ _ | exact Kd.S_nil _ _ _ _ _⟩, ⟨by repeat (first | (with_reducible first | exact HB.out | apply below_alloc | apply pw_below_drewN | apply below_drew1) | exact HB.out)⟩⟩
  case round =>
    clear H'
    obtain ⟨x5_1, x6_1, x7_1, rfl, HA, HK1, HO_5, HO_6, HB⟩ := hrel
    cases gk with
    | zero => exact absurd HA.out (by simp [bobbinref01_Pieces.l0])
    | succ k1 =>
      have H := HA.out
      clear HA
      simp only [bobbinref01_Pieces.l0] at H
      by_cases c2 : x7_1 < (l0.length : Int)
      · rw [if_pos c2] at H
        have c2b0 : decide (x7_1 < (l0.length : Int)) = true := decide_eq_true c2
        clear c2
        by_cases c3 : 0 ≤ x7_1
        · rw [if_pos c3] at H
          have c3b0 := eq_true c3
          have c3b1 : decide (0 ≤ x7_1) = true := decide_eq_true c3
          clear c3
          by_cases c4 : x7_1 ≤ (l0.length : Int)
          · rw [if_pos c4] at H
            have c4b0 := eq_true c4
            have c4b1 : decide (x7_1 ≤ (l0.length : Int)) = true := decide_eq_true c4
            clear c4
            replace H := Option.bind_eq_some_iff.mp H
            obtain ⟨⟨t108, t109, t110⟩, A50, H⟩ := H
            replace H : (if x6_1.length < 17592186044416 then ((some (x6_1 ++ [(x5_1.length : Int)] : List Int)).bind fun y111 => (if t109 = true then (if x7_1 ≤ (wrap64 (x7_1 + t108)) then (if (wrap64 (x7_1 + t108)) ≤ (l0.length : Int) then (if x5_1.length + ((l0.take ((wrap64 (x7_1 + t108)) : Int).toNat).drop (x7_1 : Int).toNat).length < 140737488355328 then ((some (x5_1 ++ ((l0.take ((wrap64 (x7_1 + t108)) : Int).toNat).drop (x7_1 : Int).toNat) : List Int)).bind fun y115 => (if t110 = true then (some (y115, y111, t108)) else (bobbinref01_Pieces.l0 k1 l0 y115 y111 (wrap64 (x7_1 + t108))))) else (none)) else (none)) else (none)) else ((some (([239, 191, 189] : List Int) : List Int)).bind fun y118 => (if x5_1.length + y118.length < 140737488355328 then ((some (x5_1 ++ y118 : List Int)).bind fun y121 => (if t110 = true then (some (y121, y111, t108)) else (bobbinref01_Pieces.l0 k1 l0 y121 y111 (wrap64 (x7_1 + t108))))) else (none))))) else (none)) = some (r1, r2, r3) := H
            have A5 := Aside0.mk A50
            clear A50
            by_cases c6 : x6_1.length < 17592186044416
            · rw [if_pos c6] at H
              have LMc6 := Aside0.mk c6
              clear c6
              obtain ⟨y111, hy111⟩ : ∃ y_ : List Int, y_ = (x6_1 ++ [(x5_1.length : Int)]) := ⟨_, rfl⟩
              replace H : (if t109 = true then (if x7_1 ≤ (wrap64 (x7_1 + t108)) then (if (wrap64 (x7_1 + t108)) ≤ (l0.length : Int) then (if x5_1.length + ((l0.take ((wrap64 (x7_1 + t108)) : Int).toNat).drop (x7_1 : Int).toNat).length < 140737488355328 then ((some (x5_1 ++ ((l0.take ((wrap64 (x7_1 + t108)) : Int).toNat).drop (x7_1 : Int).toNat) : List Int)).bind fun y115 => (if t110 = true then (some (y115, y111, t108)) else (bobbinref01_Pieces.l0 k1 l0 y115 y111 (wrap64 (x7_1 + t108))))) else (none)) else (none)) else (none)) else ((some (([239, 191, 189] : List Int) : List Int)).bind fun y118 => (if x5_1.length + y118.length < 140737488355328 then ((some (x5_1 ++ y118 : List Int)).bind fun y121 => (if t110 = true then (some (y121, y111, t108)) else (bobbinref01_Pieces.l0 k1 l0 y121 y111 (wrap64 (x7_1 + t108))))) else (none)))) = some (r1, r2, r3) := by first | (rw [hy111]; with_reducible exact H) | (have H2_ := (Option.bind_some _ _).symm.trans H; rw [hy111]; with_reducible exact H2_) | (have H2_ := (Option.bind_some _ _).symm.trans H; with_reducible exact H2_) | with_reducible exact H | (rw [hy111]; exact H) | exact H
              have Ny111 := Aside0.mk hy111
              clear hy111
              by_cases c7 : t109 = true
              · subst c7
                have H1 : (if x7_1 ≤ (wrap64 (x7_1 + t108)) then (if (wrap64 (x7_1 + t108)) ≤ (l0.length : Int) then (if x5_1.length + ((l0.take ((wrap64 (x7_1 + t108)) : Int).toNat).drop (x7_1 : Int).toNat).length < 140737488355328 then ((some (x5_1 ++ ((l0.take ((wrap64 (x7_1 + t108)) : Int).toNat).drop (x7_1 : Int).toNat) : List Int)).bind fun y115 => (if t110 = true then (some (y115, y111, t108)) else (bobbinref01_Pieces.l0 k1 l0 y115 y111 (wrap64 (x7_1 + t108))))) else (none)) else (none)) else (none)) = some (r1, r2, r3) := by rw [if_pos rfl] at H; exact H
                clear H
                have H := H1
                clear H1
                have c8b0 := eq_true (of_decide_eq_true (by first | (with_reducible assumption) | assumption) : 0 ≤ x7_1)
                by_cases c9 : x7_1 ≤ (wrap64 (x7_1 + t108))
                · rw [if_pos c9] at H
                  have c9b0 := eq_true c9
                  have c9b1 : decide (x7_1 ≤ (wrap64 (x7_1 + t108))) = true := decide_eq_true c9
                  by_cases c10 : (wrap64 (x7_1 + t108)) ≤ (l0.length : Int)
                  · rw [if_pos c10] at H
                    have c10b0 := eq_true c10
                    have c10b1 : decide ((wrap64 (x7_1 + t108)) ≤ (l0.length : Int)) = true := decide_eq_true c10
                    by_cases c11 : x5_1.length + ((l0.take ((wrap64 (x7_1 + t108)) : Int).toNat).drop (x7_1 : Int).toNat).length < 140737488355328
                    · rw [if_pos c11] at H
                      have LMc11 := Aside0.mk c11
                      clear c11
                      obtain ⟨y115, hy115⟩ : ∃ y_ : List Int, y_ = (x5_1 ++ ((l0.take ((wrap64 (x7_1 + t108)) : Int).toNat).drop (x7_1 : Int).toNat)) := ⟨_, rfl⟩
                      replace H : (if t110 = true then (some (y115, y111, t108)) else (bobbinref01_Pieces.l0 k1 l0 y115 y111 (wrap64 (x7_1 + t108)))) = some (r1, r2, r3) := by first | (rw [hy115]; with_reducible exact H) | (have H2_ := (Option.bind_some _ _).symm.trans H; rw [hy115]; with_reducible exact H2_) | (have H2_ := (Option.bind_some _ _).symm.trans H; with_reducible exact H2_) | with_reducible exact H | (rw [hy115]; exact H) | exact H
                      have Ny115 := Aside0.mk hy115
                      clear hy115
                      by_cases c12 : t110 = true
                      · subst c12
                        have H1 : (some (y115, y111, t108)) = some (r1, r2, r3) := by rw [if_pos rfl] at H; exact H
                        clear H
                        have H := H1
                        clear H1
                        simp only [Option.some.injEq, Prod.mk.injEq] at H
                        obtain ⟨rfl, rfl, rfl⟩ := H
                        obtain ⟨i013, hi013, _, hsz13, _⟩ := info_parts info5
                        obtain ⟨A13, hcut13, hA13, hC13⟩ := print_drop_of (P := Tryd.prog) (Value.int .u8) 0 22 5 .i64 Tryd.underlying22 hi013 hsz13 A0 c0 l0 x7_1 (of_decide_eq_true (by first | (with_reducible assumption) | assumption)) (of_decide_eq_true (by first | (with_reducible assumption) | assumption)) HC0.out
                        have HR107 := Aside0.mk (Kd.C_of_reads (h1 := fun _ => rfl) (hA13 _ (Kd.reads_of_C HR0.out)))
                        have HC107 := Aside0.mk hC13
                        clear hA13 hC13 hi013 hsz13
                        go_wp2_with (first | ((with_reducible refine gate_callee (f := 85) rfl ?_); refine goesL_ (some 19) rfl rfl Tryd.func85 (by kernel_rfl) rfl #[.slice A13 (l0.drop (x7_1 : Int).toNat).length (c0 - x7_1.toNat)] rfl (by (try simp only [List.map_toArray, List.map_cons, List.map_nil]); first | done | (rw [show (l0.drop (x7_1 : Int).toNat).length = (l0.length - x7_1.toNat) from List.length_drop] <;> rfl) | rfl | (simp only [List.length_drop, List.length_take]; rfl)) ?_; (with_reducible refine (bobbinref01_Piece.calls k1 _ _ (l0.drop (x7_1 : Int).toNat) t108 true true _ ?side1 ?side2 A5.out).mono ?_); (case side1 => repeat (first | exact (Kd.C_below HR107.out HB.out) | (with_reducible refine Kd.C_alloc ?_ _) | (with_reducible refine Kd.C_drewN ?_ _) | (with_reducible refine Kd.C_drew ?_))); (case side2 => exact HC107.out); rintro e w' ⟨rfl, ⟨nd, rfl⟩⟩; refine ⟨_, rfl, ?_⟩; obtain ⟨Ao14, co14, eo14⟩ := Kd.R_slice HO_5.out; subst eo14) | ((with_reducible refine gate_builtin (b := .append) (xs := #[.tmp 23, .tmp 26]) rfl ?_); at_builtin; refine Kd.R_append (Kd.int .i64) (w0 := w) w.heap.size rfl (.tmp 23) (.tmp 26) 75 3 (.int .i64 0) 8 rfl Tryd.underlying75 info3 rfl (by decide) (by omega) u6 x6_1 (x5_1.length : Int) [.int .i64 (x5_1.length : Int)] (fun _ => True) (fun _ => False) rfl rfl ?aP (fun _ hk => hk.elim) ?aF ?aO ?aB ?aS ?aL ?_; (case aP => exact rfl); (case aB => exact (by repeat (first | (with_reducible first | exact HB.out | apply below_alloc | apply pw_below_drewN | apply below_drew1) | exact HB.out))); (case aF => exact (fun _ _ => trivial)); (case aO => exact (by (with_reducible repeat (first | apply Kd.R_alloc | apply Kd.R_drewN | apply Kd.R_drew)); exact HO_6.out)); (case aS => exact (below_size (by repeat (first | (with_reducible first | exact HB.out | apply below_alloc | apply pw_below_drewN | apply below_drew1) | exact HB.out)))); (case aL => have := LMc6.out; first | omega | (simp only [ByteArray.size_append]; simp only [ByteArray.size, List.size_toArray, List.length_cons, List.length_nil] at this ⊢; omega)); intro v112 w15 ho hb hg hat; rw [← Ny111.out] at ho; have n0_ := Aside0.mk (Kd.R_over' (by (with_reducible repeat (first | apply Kd.R_alloc | apply Kd.R_drewN | apply Kd.R_drew)); exact HO_5.out) (Kd.R_typed (by (with_reducible repeat (first | apply Kd.R_alloc | apply Kd.R_drewN | apply Kd.R_drew)); exact HO_6.out)) (by decide) hg); have n1_ := Aside0.mk (hb); have n2_ := Aside0.mk (ho); clear HO_5; clear HB; clear HO_6; have HO_5 := n0_; have HB := n1_; have HO113 := n2_; clear n0_ n1_ n2_; clear ho hb hg hat; obtain ⟨i016, hi016, _, hsz16, _⟩ := info_parts info5; obtain ⟨A16, hcut16, hA16, hC16⟩ := print_mid_of (P := Tryd.prog) (Value.int .u8) 0 22 5 .i64 .i64 Tryd.underlying22 hi016 hsz16 A0 c0 l0 x7_1 (wrap64 (x7_1 + t108)) (of_decide_eq_true (by first | (with_reducible assumption) | assumption)) (by first | omega | exact of_decide_eq_true (by first | (with_reducible assumption) | assumption)) (of_decide_eq_true (by first | (with_reducible assumption) | assumption)) HC0.out; have HR114 := Aside0.mk (Kd.C_of_reads (h1 := fun _ => rfl) (hA16 _ (Kd.reads_of_C HR0.out))); have HC114 := Aside0.mk hC16; clear hA16 hC16 hi016 hsz16) | ((with_reducible refine gate_builtin (b := .append) (xs := #[.tmp 29, .tmp 35]) rfl ?_); at_builtin; refine Kd.R_append_rows (Kd.int .u8) (w0 := w) w.heap.size rfl (.tmp 29) (.tmp 35) 22 5 (.int .u8 0) 1 rfl Tryd.underlying22 info5 rfl (by decide) (by omega) (.slice Ao14 x5_1.length co14) x5_1 ((l0.take ((wrap64 (x7_1 + t108)) : Int).toNat).drop (x7_1 : Int).toNat) _ _ _ (fun _ => True) (fun _ => False) rfl rfl ?aO ?aR (fun _ _ h => h) (fun _ h => h.elim) ?aF ?aB ?aS ?aL ?_; (case aR => first | (rw [← show ((l0.take ((wrap64 (x7_1 + t108)) : Int).toNat).drop (x7_1 : Int).toNat).length = ((wrap64 (x7_1 + t108)).toNat - x7_1.toNat) from (by rw [List.length_drop, List.length_take]; have h_ : ((wrap64 (x7_1 + t108)) : Int) ≤ (l0.length : Int) := of_decide_eq_true (by first | (with_reducible assumption) | assumption); omega)]; repeat (first | exact (Kd.C_below HR114.out HB.out) | (with_reducible refine Kd.C_alloc ?_ _) | (with_reducible refine Kd.C_drewN ?_ _) | (with_reducible refine Kd.C_drew ?_))) | (repeat (first | exact (Kd.C_below HR114.out HB.out) | (with_reducible refine Kd.C_alloc ?_ _) | (with_reducible refine Kd.C_drewN ?_ _) | (with_reducible refine Kd.C_drew ?_)))); (case aB => exact (by repeat (first | (with_reducible first | exact HB.out | apply below_alloc | apply pw_below_drewN | apply below_drew1) | exact HB.out))); (case aF => exact (fun _ _ => trivial)); (case aO => exact (by (with_reducible repeat (first | apply Kd.R_alloc | apply Kd.R_drewN | apply Kd.R_drew)); exact HO_5.out)); (case aS => exact (below_size (by repeat (first | (with_reducible first | exact HB.out | apply below_alloc | apply pw_below_drewN | apply below_drew1) | exact HB.out)))); (case aL => have := LMc11.out; have hlx_ := (show ((l0.take ((wrap64 (x7_1 + t108)) : Int).toNat).drop (x7_1 : Int).toNat).length = ((wrap64 (x7_1 + t108)).toNat - x7_1.toNat) from (by rw [List.length_drop, List.length_take]; have h_ : ((wrap64 (x7_1 + t108)) : Int) ≤ (l0.length : Int) := of_decide_eq_true (by first | (with_reducible assumption) | assumption); omega)); first | omega | (simp only [ByteArray.size_append]; simp only [ByteArray.size, List.size_toArray, List.length_cons, List.length_nil] at this ⊢; omega)); intro v116 w17 ho hb hg hat; rw [← Ny115.out] at ho; have n0_ := Aside0.mk (Kd.R_over' (by (with_reducible repeat (first | apply Kd.R_alloc | apply Kd.R_drewN | apply Kd.R_drew)); exact HO113.out) (Kd.R_typed (by (with_reducible repeat (first | apply Kd.R_alloc | apply Kd.R_drewN | apply Kd.R_drew)); exact HO_5.out)) (by decide) hg); have n1_ := Aside0.mk (hb); have n2_ := Aside0.mk (ho); clear HO113; clear HB; clear HO_5; have HO113 := n0_; have HB := n1_; have HO117 := n2_; clear n0_ n1_ n2_; clear ho hb hg hat))
                        go_ret3
                        exact ⟨_, _, by first | rfl | (simp [errW_none, errW_some] <;> rfl) | (simp [*, errW_none, errW_some] <;> rfl), by (with_reducible repeat (first | apply Kd.R_alloc | apply Kd.R_drewN | apply Kd.R_drew)); exact HO117.out, by (with_reducible repeat (first | apply Kd.R_alloc | apply Kd.R_drewN | apply Kd.R_drew)); exact HO113.out, by repeat (first | (with_reducible first | exact HB.out | apply below_alloc | apply pw_below_drewN | apply below_drew1) | exact HB.out)⟩
                      · replace c12 := Bool.eq_false_iff.mpr c12
                        subst c12
                        have H1 : (bobbinref01_Pieces.l0 k1 l0 y115 y111 (wrap64 (x7_1 + t108))) = some (r1, r2, r3) := by rw [if_neg (show ¬ (false = true) by decide)] at H; exact H
                        clear H
                        have H := H1
                        clear H1
                        have H' := Aside0.mk H
                        clear H
                        obtain ⟨i018, hi018, _, hsz18, _⟩ := info_parts info5
                        obtain ⟨A18, hcut18, hA18, hC18⟩ := print_drop_of (P := Tryd.prog) (Value.int .u8) 0 22 5 .i64 Tryd.underlying22 hi018 hsz18 A0 c0 l0 x7_1 (of_decide_eq_true (by first | (with_reducible assumption) | assumption)) (of_decide_eq_true (by first | (with_reducible assumption) | assumption)) HC0.out
                        have HR107 := Aside0.mk (Kd.C_of_reads (h1 := fun _ => rfl) (hA18 _ (Kd.reads_of_C HR0.out)))
                        have HC107 := Aside0.mk hC18
                        clear hA18 hC18 hi018 hsz18
                        go_wp2_with (first | ((with_reducible refine gate_callee (f := 85) rfl ?_); refine goesL_ (some 19) rfl rfl Tryd.func85 (by kernel_rfl) rfl #[.slice A18 (l0.drop (x7_1 : Int).toNat).length (c0 - x7_1.toNat)] rfl (by (try simp only [List.map_toArray, List.map_cons, List.map_nil]); first | done | (rw [show (l0.drop (x7_1 : Int).toNat).length = (l0.length - x7_1.toNat) from List.length_drop] <;> rfl) | rfl | (simp only [List.length_drop, List.length_take]; rfl)) ?_; (with_reducible refine (bobbinref01_Piece.calls k1 _ _ (l0.drop (x7_1 : Int).toNat) t108 true false _ ?side1 ?side2 A5.out).mono ?_); (case side1 => repeat (first | exact (Kd.C_below HR107.out HB.out) | (with_reducible refine Kd.C_alloc ?_ _) | (with_reducible refine Kd.C_drewN ?_ _) | (with_reducible refine Kd.C_drew ?_))); (case side2 => exact HC107.out); rintro e w' ⟨rfl, ⟨nd, rfl⟩⟩; refine ⟨_, rfl, ?_⟩; obtain ⟨Ao19, co19, eo19⟩ := Kd.R_slice HO_5.out; subst eo19) | ((with_reducible refine gate_builtin (b := .append) (xs := #[.tmp 23, .tmp 26]) rfl ?_); at_builtin; refine Kd.R_append (Kd.int .i64) (w0 := w) w.heap.size rfl (.tmp 23) (.tmp 26) 75 3 (.int .i64 0) 8 rfl Tryd.underlying75 info3 rfl (by decide) (by omega) u6 x6_1 (x5_1.length : Int) [.int .i64 (x5_1.length : Int)] (fun _ => True) (fun _ => False) rfl rfl ?aP (fun _ hk => hk.elim) ?aF ?aO ?aB ?aS ?aL ?_; (case aP => exact rfl); (case aB => exact (by repeat (first | (with_reducible first | exact HB.out | apply below_alloc | apply pw_below_drewN | apply below_drew1) | exact HB.out))); (case aF => exact (fun _ _ => trivial)); (case aO => exact (by (with_reducible repeat (first | apply Kd.R_alloc | apply Kd.R_drewN | apply Kd.R_drew)); exact HO_6.out)); (case aS => exact (below_size (by repeat (first | (with_reducible first | exact HB.out | apply below_alloc | apply pw_below_drewN | apply below_drew1) | exact HB.out)))); (case aL => have := LMc6.out; first | omega | (simp only [ByteArray.size_append]; simp only [ByteArray.size, List.size_toArray, List.length_cons, List.length_nil] at this ⊢; omega)); intro v112 w20 ho hb hg hat; rw [← Ny111.out] at ho; have n0_ := Aside0.mk (Kd.R_over' (by (with_reducible repeat (first | apply Kd.R_alloc | apply Kd.R_drewN | apply Kd.R_drew)); exact HO_5.out) (Kd.R_typed (by (with_reducible repeat (first | apply Kd.R_alloc | apply Kd.R_drewN | apply Kd.R_drew)); exact HO_6.out)) (by decide) hg); have n1_ := Aside0.mk (hb); have n2_ := Aside0.mk (ho); clear HO_5; clear HB; clear HO_6; have HO_5 := n0_; have HB := n1_; have HO113 := n2_; clear n0_ n1_ n2_; clear ho hb hg hat; obtain ⟨i021, hi021, _, hsz21, _⟩ := info_parts info5; obtain ⟨A21, hcut21, hA21, hC21⟩ := print_mid_of (P := Tryd.prog) (Value.int .u8) 0 22 5 .i64 .i64 Tryd.underlying22 hi021 hsz21 A0 c0 l0 x7_1 (wrap64 (x7_1 + t108)) (of_decide_eq_true (by first | (with_reducible assumption) | assumption)) (by first | omega | exact of_decide_eq_true (by first | (with_reducible assumption) | assumption)) (of_decide_eq_true (by first | (with_reducible assumption) | assumption)) HC0.out; have HR114 := Aside0.mk (Kd.C_of_reads (h1 := fun _ => rfl) (hA21 _ (Kd.reads_of_C HR0.out))); have HC114 := Aside0.mk hC21; clear hA21 hC21 hi021 hsz21) | ((with_reducible refine gate_builtin (b := .append) (xs := #[.tmp 29, .tmp 35]) rfl ?_); at_builtin; refine Kd.R_append_rows (Kd.int .u8) (w0 := w) w.heap.size rfl (.tmp 29) (.tmp 35) 22 5 (.int .u8 0) 1 rfl Tryd.underlying22 info5 rfl (by decide) (by omega) (.slice Ao19 x5_1.length co19) x5_1 ((l0.take ((wrap64 (x7_1 + t108)) : Int).toNat).drop (x7_1 : Int).toNat) _ _ _ (fun _ => True) (fun _ => False) rfl rfl ?aO ?aR (fun _ _ h => h) (fun _ h => h.elim) ?aF ?aB ?aS ?aL ?_; (case aR => first | (rw [← show ((l0.take ((wrap64 (x7_1 + t108)) : Int).toNat).drop (x7_1 : Int).toNat).length = ((wrap64 (x7_1 + t108)).toNat - x7_1.toNat) from (by rw [List.length_drop, List.length_take]; have h_ : ((wrap64 (x7_1 + t108)) : Int) ≤ (l0.length : Int) := of_decide_eq_true (by first | (with_reducible assumption) | assumption); omega)]; repeat (first | exact (Kd.C_below HR114.out HB.out) | (with_reducible refine Kd.C_alloc ?_ _) | (with_reducible refine Kd.C_drewN ?_ _) | (with_reducible refine Kd.C_drew ?_))) | (repeat (first | exact (Kd.C_below HR114.out HB.out) | (with_reducible refine Kd.C_alloc ?_ _) | (with_reducible refine Kd.C_drewN ?_ _) | (with_reducible refine Kd.C_drew ?_)))); (case aB => exact (by repeat (first | (with_reducible first | exact HB.out | apply below_alloc | apply pw_below_drewN | apply below_drew1) | exact HB.out))); (case aF => exact (fun _ _ => trivial)); (case aO => exact (by (with_reducible repeat (first | apply Kd.R_alloc | apply Kd.R_drewN | apply Kd.R_drew)); exact HO_5.out)); (case aS => exact (below_size (by repeat (first | (with_reducible first | exact HB.out | apply below_alloc | apply pw_below_drewN | apply below_drew1) | exact HB.out)))); (case aL => have := LMc11.out; have hlx_ := (show ((l0.take ((wrap64 (x7_1 + t108)) : Int).toNat).drop (x7_1 : Int).toNat).length = ((wrap64 (x7_1 + t108)).toNat - x7_1.toNat) from (by rw [List.length_drop, List.length_take]; have h_ : ((wrap64 (x7_1 + t108)) : Int) ≤ (l0.length : Int) := of_decide_eq_true (by first | (with_reducible assumption) | assumption); omega)); first | omega | (simp only [ByteArray.size_append]; simp only [ByteArray.size, List.size_toArray, List.length_cons, List.length_nil] at this ⊢; omega)); intro v116 w22 ho hb hg hat; rw [← Ny115.out] at ho; have n0_ := Aside0.mk (Kd.R_over' (by (with_reducible repeat (first | apply Kd.R_alloc | apply Kd.R_drewN | apply Kd.R_drew)); exact HO113.out) (Kd.R_typed (by (with_reducible repeat (first | apply Kd.R_alloc | apply Kd.R_drewN | apply Kd.R_drew)); exact HO_5.out)) (by decide) hg); have n1_ := Aside0.mk (hb); have n2_ := Aside0.mk (ho); clear HO113; clear HB; clear HO_5; have HO113 := n0_; have HB := n1_; have HO117 := n2_; clear n0_ n1_ n2_; clear ho hb hg hat))
                        go_roundg k1
                        case measure => have := HK1.out; omega
                        case rel => exact ⟨(y115), (y111), (wrap64 (x7_1 + t108)), (by first | rfl | (simp; done) | (simp [*]; done)), H', ⟨by have := HK1.out; omega⟩, ⟨by (with_reducible repeat (first | apply Kd.R_alloc | apply Kd.R_drewN | apply Kd.R_drew)); exact HO117.out⟩, ⟨by (with_reducible repeat (first | apply Kd.R_alloc | apply Kd.R_drewN | apply Kd.R_drew)); exact HO113.out⟩, ⟨by repeat (first | (with_reducible first | exact HB.out | apply below_alloc | apply pw_below_drewN | apply below_drew1) | exact HB.out)⟩⟩
                    · rw [if_neg c11] at H
                      exact absurd H (by simp)
                  · rw [if_neg c10] at H
                    exact absurd H (by simp)
                · rw [if_neg c9] at H
                  exact absurd H (by simp)
              · replace c7 := Bool.eq_false_iff.mpr c7
                subst c7
                have H1 : ((some (([239, 191, 189] : List Int) : List Int)).bind fun y118 => (if x5_1.length + y118.length < 140737488355328 then ((some (x5_1 ++ y118 : List Int)).bind fun y121 => (if t110 = true then (some (y121, y111, t108)) else (bobbinref01_Pieces.l0 k1 l0 y121 y111 (wrap64 (x7_1 + t108))))) else (none))) = some (r1, r2, r3) := by rw [if_neg (show ¬ (false = true) by decide)] at H; exact H
                clear H
                have H := H1
                clear H1
                obtain ⟨y118, hy118⟩ : ∃ y_ : List Int, y_ = (([239, 191, 189] : List Int)) := ⟨_, rfl⟩
                replace H : (if x5_1.length + y118.length < 140737488355328 then ((some (x5_1 ++ y118 : List Int)).bind fun y121 => (if t110 = true then (some (y121, y111, t108)) else (bobbinref01_Pieces.l0 k1 l0 y121 y111 (wrap64 (x7_1 + t108))))) else (none)) = some (r1, r2, r3) := by first | (rw [hy118]; with_reducible exact H) | (have H2_ := (Option.bind_some _ _).symm.trans H; rw [hy118]; with_reducible exact H2_) | (have H2_ := (Option.bind_some _ _).symm.trans H; with_reducible exact H2_) | with_reducible exact H | (rw [hy118]; exact H) | exact H
                have Ny118 := Aside0.mk hy118
                clear hy118
                by_cases c23 : x5_1.length + y118.length < 140737488355328
                · rw [if_pos c23] at H
                  have LMc23 := Aside0.mk c23
                  clear c23
                  obtain ⟨y121, hy121⟩ : ∃ y_ : List Int, y_ = (x5_1 ++ y118) := ⟨_, rfl⟩
                  replace H : (if t110 = true then (some (y121, y111, t108)) else (bobbinref01_Pieces.l0 k1 l0 y121 y111 (wrap64 (x7_1 + t108)))) = some (r1, r2, r3) := by first | (rw [hy121]; with_reducible exact H) | (have H2_ := (Option.bind_some _ _).symm.trans H; rw [hy121]; with_reducible exact H2_) | (have H2_ := (Option.bind_some _ _).symm.trans H; with_reducible exact H2_) | with_reducible exact H | (rw [hy121]; exact H) | exact H
                  have Ny121 := Aside0.mk hy121
                  clear hy121
                  by_cases c24 : t110 = true
                  · subst c24
                    have H1 : (some (y121, y111, t108)) = some (r1, r2, r3) := by rw [if_pos rfl] at H; exact H
                    clear H
                    have H := H1
                    clear H1
                    simp only [Option.some.injEq, Prod.mk.injEq] at H
                    obtain ⟨rfl, rfl, rfl⟩ := H
                    obtain ⟨i025, hi025, _, hsz25, _⟩ := info_parts info5
                    obtain ⟨A25, hcut25, hA25, hC25⟩ := print_drop_of (P := Tryd.prog) (Value.int .u8) 0 22 5 .i64 Tryd.underlying22 hi025 hsz25 A0 c0 l0 x7_1 (of_decide_eq_true (by first | (with_reducible assumption) | assumption)) (of_decide_eq_true (by first | (with_reducible assumption) | assumption)) HC0.out
                    have HR107 := Aside0.mk (Kd.C_of_reads (h1 := fun _ => rfl) (hA25 _ (Kd.reads_of_C HR0.out)))
                    have HC107 := Aside0.mk hC25
                    clear hA25 hC25 hi025 hsz25
                    go_wp2_with (first | ((with_reducible refine gate_callee (f := 85) rfl ?_); refine goesL_ (some 19) rfl rfl Tryd.func85 (by kernel_rfl) rfl #[.slice A25 (l0.drop (x7_1 : Int).toNat).length (c0 - x7_1.toNat)] rfl (by (try simp only [List.map_toArray, List.map_cons, List.map_nil]); first | done | (rw [show (l0.drop (x7_1 : Int).toNat).length = (l0.length - x7_1.toNat) from List.length_drop] <;> rfl) | rfl | (simp only [List.length_drop, List.length_take]; rfl)) ?_; (with_reducible refine (bobbinref01_Piece.calls k1 _ _ (l0.drop (x7_1 : Int).toNat) t108 false true _ ?side1 ?side2 A5.out).mono ?_); (case side1 => repeat (first | exact (Kd.C_below HR107.out HB.out) | (with_reducible refine Kd.C_alloc ?_ _) | (with_reducible refine Kd.C_drewN ?_ _) | (with_reducible refine Kd.C_drew ?_))); (case side2 => exact HC107.out); rintro e w' ⟨rfl, ⟨nd, rfl⟩⟩; refine ⟨_, rfl, ?_⟩; obtain ⟨Ao26, co26, eo26⟩ := Kd.R_slice HO_5.out; subst eo26) | ((with_reducible refine gate_builtin (b := .append) (xs := #[.tmp 23, .tmp 26]) rfl ?_); at_builtin; refine Kd.R_append (Kd.int .i64) (w0 := w) w.heap.size rfl (.tmp 23) (.tmp 26) 75 3 (.int .i64 0) 8 rfl Tryd.underlying75 info3 rfl (by decide) (by omega) u6 x6_1 (x5_1.length : Int) [.int .i64 (x5_1.length : Int)] (fun _ => True) (fun _ => False) rfl rfl ?aP (fun _ hk => hk.elim) ?aF ?aO ?aB ?aS ?aL ?_; (case aP => exact rfl); (case aB => exact (by repeat (first | (with_reducible first | exact HB.out | apply below_alloc | apply pw_below_drewN | apply below_drew1) | exact HB.out))); (case aF => exact (fun _ _ => trivial)); (case aO => exact (by (with_reducible repeat (first | apply Kd.R_alloc | apply Kd.R_drewN | apply Kd.R_drew)); exact HO_6.out)); (case aS => exact (below_size (by repeat (first | (with_reducible first | exact HB.out | apply below_alloc | apply pw_below_drewN | apply below_drew1) | exact HB.out)))); (case aL => have := LMc6.out; first | omega | (simp only [ByteArray.size_append]; simp only [ByteArray.size, List.size_toArray, List.length_cons, List.length_nil] at this ⊢; omega)); intro v112 w27 ho hb hg hat; rw [← Ny111.out] at ho; have n0_ := Aside0.mk (Kd.R_over' (by (with_reducible repeat (first | apply Kd.R_alloc | apply Kd.R_drewN | apply Kd.R_drew)); exact HO_5.out) (Kd.R_typed (by (with_reducible repeat (first | apply Kd.R_alloc | apply Kd.R_drewN | apply Kd.R_drew)); exact HO_6.out)) (by decide) hg); have n1_ := Aside0.mk (hb); have n2_ := Aside0.mk (ho); clear HO_5; clear HB; clear HO_6; have HO_5 := n0_; have HB := n1_; have HO113 := n2_; clear n0_ n1_ n2_; clear ho hb hg hat) | ((with_reducible refine gate_dst (N := 38) rfl ?_); refine Kd.R_lit (Kd.int .u8) _ 5 ?hg (N := 38) ?hd (xs := ([239, 191, 189] : List Int)) (inner := [.int .u8 239, .int .u8 191, .int .u8 189]) (ok := fun _ => True) (okp := fun _ => True) ?hr ?hp (fun _ hk => hk) trivial (Below.refl _ _) (Nat.le_refl _) (by simp) ?_; (case hd => rfl); (case hg => rfl); (case hr => first | (go_simp; done) | (go_simp; rfl)); (case hp => exact (Reps.one (show Kd.M (Kd.int .u8) _ _ _ 239 [.int .u8 239] from rfl) (Reps.one (show Kd.M (Kd.int .u8) _ _ _ 191 [.int .u8 191] from rfl) (Reps.one (show Kd.M (Kd.int .u8) _ _ _ 189 [.int .u8 189] from rfl) (Reps.none _ _))))); intro v119 w28 ho29 hb hg_ hnew_; clear hg_ hnew_; (first | rw [← Ny118.out] at ho29 | (simp only [Int.reduceToNat] at ho29; rw [← Ny118.out] at ho29)); have n0_ := Aside0.mk (Kd.R_elder' (by (with_reducible repeat (first | apply Kd.R_alloc | apply Kd.R_drewN | apply Kd.R_drew)); exact HO_5.out) (Kd.R_base ho29) hb); have n1_ := Aside0.mk (Kd.R_below (by (with_reducible repeat (first | apply Kd.R_alloc | apply Kd.R_drewN | apply Kd.R_drew)); exact HO113.out) hb); have n2_ := Aside0.mk (Kd.R_lower (Kd.R_new' ho29 (Kd.R_lt (by (with_reducible repeat (first | apply Kd.R_alloc | apply Kd.R_drewN | apply Kd.R_drew)); exact HO_5.out))) (below_size (by repeat (first | (with_reducible first | exact HB.out | apply below_alloc | apply pw_below_drewN | apply below_drew1) | exact HB.out)))); have n3_ := Aside0.mk (below_step (by repeat (first | (with_reducible first | exact HB.out | apply below_alloc | apply pw_below_drewN | apply below_drew1) | exact HB.out)) hb); clear HO_5; clear HO113; clear HB; have HO_5 := n0_; have HO113 := n1_; have HO120 := n2_; have HB := n3_; clear n0_ n1_ n2_ n3_; clear hb ho29; obtain ⟨Ao31, co31, eo31⟩ := Kd.R_slice HO120.out; subst eo31) | ((with_reducible refine gate_builtin (b := .append) (xs := #[.tmp 37, .tmp 38]) rfl ?_); at_builtin; refine Kd.R_append_rows (Kd.int .u8) (w0 := w) w.heap.size rfl (.tmp 37) (.tmp 38) 22 5 (.int .u8 0) 1 rfl Tryd.underlying22 info5 rfl (by decide) (by omega) (.slice Ao26 x5_1.length co26) x5_1 y118 _ _ _ (fun k_ => some k_ ≠ (.slice Ao31 y118.length co31 : Value).ownBlock) (fun _ => False) rfl rfl ?aO ?aR (fun _ _ h => h) (fun _ h => h.elim) ?aF ?aB ?aS ?aL ?_; (case aR => repeat (first | exact (Kd.R_reads' HO120.out).2.2 | (with_reducible refine Kd.C_alloc ?_ _) | (with_reducible refine Kd.C_drewN ?_ _) | (with_reducible refine Kd.C_drew ?_))); (case aB => exact (by repeat (first | (with_reducible first | exact HB.out | apply below_alloc | apply pw_below_drewN | apply below_drew1) | exact HB.out))); (case aF => exact (fun k_ hk => Kd.fresh' (Kd.R_lt (by (with_reducible repeat (first | apply Kd.R_alloc | apply Kd.R_drewN | apply Kd.R_drew)); exact HO120.out)) k_ hk)); (case aO => exact (by (with_reducible repeat (first | apply Kd.R_alloc | apply Kd.R_drewN | apply Kd.R_drew)); exact Kd.R_mono HO_5.out (fun _ hk => hk.2))); (case aS => exact (below_size (by repeat (first | (with_reducible first | exact HB.out | apply below_alloc | apply pw_below_drewN | apply below_drew1) | exact HB.out)))); (case aL => have := LMc23.out; first | omega | (simp only [ByteArray.size_append]; simp only [ByteArray.size, List.size_toArray, List.length_cons, List.length_nil] at this ⊢; omega)); intro v122 w30 ho hb hg hat; rw [← Ny121.out] at ho; have n0_ := Aside0.mk (Kd.R_over' (by (with_reducible repeat (first | apply Kd.R_alloc | apply Kd.R_drewN | apply Kd.R_drew)); exact HO113.out) (Kd.R_typed (by (with_reducible repeat (first | apply Kd.R_alloc | apply Kd.R_drewN | apply Kd.R_drew)); exact HO_5.out)) (by decide) hg); have n1_ := Aside0.mk (Kd.R_after (ok := (fun _ => True)) (by (with_reducible repeat (first | apply Kd.R_alloc | apply Kd.R_drewN | apply Kd.R_drew)); exact HO120.out) hg hat); have n2_ := Aside0.mk (hb); have n3_ := Aside0.mk (ho); clear HO113; clear HO120; clear HB; clear HO_5; have HO113 := n0_; have HO120 := n1_; have HB := n2_; have HO123 := n3_; clear n0_ n1_ n2_ n3_; clear ho hb hg hat))
                    go_ret3
                    exact ⟨_, _, by first | rfl | (simp [errW_none, errW_some] <;> rfl) | (simp [*, errW_none, errW_some] <;> rfl), by (with_reducible repeat (first | apply Kd.R_alloc | apply Kd.R_drewN | apply Kd.R_drew)); exact Kd.R_mono HO123.out (fun _ hk => trivial), by (with_reducible repeat (first | apply Kd.R_alloc | apply Kd.R_drewN | apply Kd.R_drew)); exact HO113.out, by repeat (first | (with_reducible first | exact HB.out | apply below_alloc | apply pw_below_drewN | apply below_drew1) | exact HB.out)⟩
                  · replace c24 := Bool.eq_false_iff.mpr c24
                    subst c24
                    have H1 : (bobbinref01_Pieces.l0 k1 l0 y121 y111 (wrap64 (x7_1 + t108))) = some (r1, r2, r3) := by rw [if_neg (show ¬ (false = true) by decide)] at H; exact H
                    clear H
                    have H := H1
                    clear H1
                    have H' := Aside0.mk H
                    clear H
                    obtain ⟨i032, hi032, _, hsz32, _⟩ := info_parts info5
                    obtain ⟨A32, hcut32, hA32, hC32⟩ := print_drop_of (P := Tryd.prog) (Value.int .u8) 0 22 5 .i64 Tryd.underlying22 hi032 hsz32 A0 c0 l0 x7_1 (of_decide_eq_true (by first | (with_reducible assumption) | assumption)) (of_decide_eq_true (by first | (with_reducible assumption) | assumption)) HC0.out
                    have HR107 := Aside0.mk (Kd.C_of_reads (h1 := fun _ => rfl) (hA32 _ (Kd.reads_of_C HR0.out)))
                    have HC107 := Aside0.mk hC32
                    clear hA32 hC32 hi032 hsz32
                    go_wp2_with (first | ((with_reducible refine gate_callee (f := 85) rfl ?_); refine goesL_ (some 19) rfl rfl Tryd.func85 (by kernel_rfl) rfl #[.slice A32 (l0.drop (x7_1 : Int).toNat).length (c0 - x7_1.toNat)] rfl (by (try simp only [List.map_toArray, List.map_cons, List.map_nil]); first | done | (rw [show (l0.drop (x7_1 : Int).toNat).length = (l0.length - x7_1.toNat) from List.length_drop] <;> rfl) | rfl | (simp only [List.length_drop, List.length_take]; rfl)) ?_; (with_reducible refine (bobbinref01_Piece.calls k1 _ _ (l0.drop (x7_1 : Int).toNat) t108 false false _ ?side1 ?side2 A5.out).mono ?_); (case side1 => repeat (first | exact (Kd.C_below HR107.out HB.out) | (with_reducible refine Kd.C_alloc ?_ _) | (with_reducible refine Kd.C_drewN ?_ _) | (with_reducible refine Kd.C_drew ?_))); (case side2 => exact HC107.out); rintro e w' ⟨rfl, ⟨nd, rfl⟩⟩; refine ⟨_, rfl, ?_⟩; obtain ⟨Ao33, co33, eo33⟩ := Kd.R_slice HO_5.out; subst eo33) | ((with_reducible refine gate_builtin (b := .append) (xs := #[.tmp 23, .tmp 26]) rfl ?_); at_builtin; refine Kd.R_append (Kd.int .i64) (w0 := w) w.heap.size rfl (.tmp 23) (.tmp 26) 75 3 (.int .i64 0) 8 rfl Tryd.underlying75 info3 rfl (by decide) (by omega) u6 x6_1 (x5_1.length : Int) [.int .i64 (x5_1.length : Int)] (fun _ => True) (fun _ => False) rfl rfl ?aP (fun _ hk => hk.elim) ?aF ?aO ?aB ?aS ?aL ?_; (case aP => exact rfl); (case aB => exact (by repeat (first | (with_reducible first | exact HB.out | apply below_alloc | apply pw_below_drewN | apply below_drew1) | exact HB.out))); (case aF => exact (fun _ _ => trivial)); (case aO => exact (by (with_reducible repeat (first | apply Kd.R_alloc | apply Kd.R_drewN | apply Kd.R_drew)); exact HO_6.out)); (case aS => exact (below_size (by repeat (first | (with_reducible first | exact HB.out | apply below_alloc | apply pw_below_drewN | apply below_drew1) | exact HB.out)))); (case aL => have := LMc6.out; first | omega | (simp only [ByteArray.size_append]; simp only [ByteArray.size, List.size_toArray, List.length_cons, List.length_nil] at this ⊢; omega)); intro v112 w34 ho hb hg hat; rw [← Ny111.out] at ho; have n0_ := Aside0.mk (Kd.R_over' (by (with_reducible repeat (first | apply Kd.R_alloc | apply Kd.R_drewN | apply Kd.R_drew)); exact HO_5.out) (Kd.R_typed (by (with_reducible repeat (first | apply Kd.R_alloc | apply Kd.R_drewN | apply Kd.R_drew)); exact HO_6.out)) (by decide) hg); have n1_ := Aside0.mk (hb); have n2_ := Aside0.mk (ho); clear HO_5; clear HB; clear HO_6; have HO_5 := n0_; have HB := n1_; have HO113 := n2_; clear n0_ n1_ n2_; clear ho hb hg hat) | ((with_reducible refine gate_dst (N := 38) rfl ?_); refine Kd.R_lit (Kd.int .u8) _ 5 ?hg (N := 38) ?hd (xs := ([239, 191, 189] : List Int)) (inner := [.int .u8 239, .int .u8 191, .int .u8 189]) (ok := fun _ => True) (okp := fun _ => True) ?hr ?hp (fun _ hk => hk) trivial (Below.refl _ _) (Nat.le_refl _) (by simp) ?_; (case hd => rfl); (case hg => rfl); (case hr => first | (go_simp; done) | (go_simp; rfl)); (case hp => exact (Reps.one (show Kd.M (Kd.int .u8) _ _ _ 239 [.int .u8 239] from rfl) (Reps.one (show Kd.M (Kd.int .u8) _ _ _ 191 [.int .u8 191] from rfl) (Reps.one (show Kd.M (Kd.int .u8) _ _ _ 189 [.int .u8 189] from rfl) (Reps.none _ _))))); intro v119 w35 ho36 hb hg_ hnew_; clear hg_ hnew_; (first | rw [← Ny118.out] at ho36 | (simp only [Int.reduceToNat] at ho36; rw [← Ny118.out] at ho36)); have n0_ := Aside0.mk (Kd.R_elder' (by (with_reducible repeat (first | apply Kd.R_alloc | apply Kd.R_drewN | apply Kd.R_drew)); exact HO_5.out) (Kd.R_base ho36) hb); have n1_ := Aside0.mk (Kd.R_below (by (with_reducible repeat (first | apply Kd.R_alloc | apply Kd.R_drewN | apply Kd.R_drew)); exact HO113.out) hb); have n2_ := Aside0.mk (Kd.R_lower (Kd.R_new' ho36 (Kd.R_lt (by (with_reducible repeat (first | apply Kd.R_alloc | apply Kd.R_drewN | apply Kd.R_drew)); exact HO_5.out))) (below_size (by repeat (first | (with_reducible first | exact HB.out | apply below_alloc | apply pw_below_drewN | apply below_drew1) | exact HB.out)))); have n3_ := Aside0.mk (below_step (by repeat (first | (with_reducible first | exact HB.out | apply below_alloc | apply pw_below_drewN | apply below_drew1) | exact HB.out)) hb); clear HO_5; clear HO113; clear HB; have HO_5 := n0_; have HO113 := n1_; have HO120 := n2_; have HB := n3_; clear n0_ n1_ n2_ n3_; clear hb ho36; obtain ⟨Ao38, co38, eo38⟩ := Kd.R_slice HO120.out; subst eo38) | ((with_reducible refine gate_builtin (b := .append) (xs := #[.tmp 37, .tmp 38]) rfl ?_); at_builtin; refine Kd.R_append_rows (Kd.int .u8) (w0 := w) w.heap.size rfl (.tmp 37) (.tmp 38) 22 5 (.int .u8 0) 1 rfl Tryd.underlying22 info5 rfl (by decide) (by omega) (.slice Ao33 x5_1.length co33) x5_1 y118 _ _ _ (fun k_ => some k_ ≠ (.slice Ao38 y118.length co38 : Value).ownBlock) (fun _ => False) rfl rfl ?aO ?aR (fun _ _ h => h) (fun _ h => h.elim) ?aF ?aB ?aS ?aL ?_; (case aR => repeat (first | exact (Kd.R_reads' HO120.out).2.2 | (with_reducible refine Kd.C_alloc ?_ _) | (with_reducible refine Kd.C_drewN ?_ _) | (with_reducible refine Kd.C_drew ?_))); (case aB => exact (by repeat (first | (with_reducible first | exact HB.out | apply below_alloc | apply pw_below_drewN | apply below_drew1) | exact HB.out))); (case aF => exact (fun k_ hk => Kd.fresh' (Kd.R_lt (by (with_reducible repeat (first | apply Kd.R_alloc | apply Kd.R_drewN | apply Kd.R_drew)); exact HO120.out)) k_ hk)); (case aO => exact (by (with_reducible repeat (first | apply Kd.R_alloc | apply Kd.R_drewN | apply Kd.R_drew)); exact Kd.R_mono HO_5.out (fun _ hk => hk.2))); (case aS => exact (below_size (by repeat (first | (with_reducible first | exact HB.out | apply below_alloc | apply pw_below_drewN | apply below_drew1) | exact HB.out)))); (case aL => have := LMc23.out; first | omega | (simp only [ByteArray.size_append]; simp only [ByteArray.size, List.size_toArray, List.length_cons, List.length_nil] at this ⊢; omega)); intro v122 w37 ho hb hg hat; rw [← Ny121.out] at ho; have n0_ := Aside0.mk (Kd.R_over' (by (with_reducible repeat (first | apply Kd.R_alloc | apply Kd.R_drewN | apply Kd.R_drew)); exact HO113.out) (Kd.R_typed (by (with_reducible repeat (first | apply Kd.R_alloc | apply Kd.R_drewN | apply Kd.R_drew)); exact HO_5.out)) (by decide) hg); have n1_ := Aside0.mk (Kd.R_after (ok := (fun _ => True)) (by (with_reducible repeat (first | apply Kd.R_alloc | apply Kd.R_drewN | apply Kd.R_drew)); exact HO120.out) hg hat); have n2_ := Aside0.mk (hb); have n3_ := Aside0.mk (ho); clear HO113; clear HO120; clear HB; clear HO_5; have HO113 := n0_; have HO120 := n1_; have HB := n2_; have HO123 := n3_; clear n0_ n1_ n2_ n3_; clear ho hb hg hat))
                    go_roundg k1
                    case measure => have := HK1.out; omega
                    case rel => exact ⟨(y121), (y111), (wrap64 (x7_1 + t108)), (by first | rfl | (simp; done) | (simp [*]; done)), H', ⟨by have := HK1.out; omega⟩, ⟨by (with_reducible repeat (first | apply Kd.R_alloc | apply Kd.R_drewN | apply Kd.R_drew)); exact Kd.R_mono HO123.out (fun _ hk => trivial)⟩, ⟨by (with_reducible repeat (first | apply Kd.R_alloc | apply Kd.R_drewN | apply Kd.R_drew)); exact HO113.out⟩, ⟨by repeat (first | (with_reducible first | exact HB.out | apply below_alloc | apply pw_below_drewN | apply below_drew1) | exact HB.out)⟩⟩
                · rw [if_neg c23] at H
                  exact absurd H (by simp)
            · rw [if_neg c6] at H
              exact absurd H (by simp)
          · rw [if_neg c4] at H
            exact absurd H (by simp)
        · rw [if_neg c3] at H
          exact absurd H (by simp)
      · rw [if_neg c2] at H
        have c2b0 : decide (x7_1 < (l0.length : Int)) = false := decide_eq_false c2
        clear c2
        simp only [Option.some.injEq, Prod.mk.injEq] at H
        obtain ⟨rfl, rfl, rfl⟩ := H
        go_wp2
        go_ret3
        exact ⟨_, _, by first | rfl | (simp [errW_none, errW_some] <;> rfl) | (simp [*, errW_none, errW_some] <;> rfl), by (with_reducible repeat (first | apply Kd.R_alloc | apply Kd.R_drewN | apply Kd.R_drew)); exact HO_5.out, by (with_reducible repeat (first | apply Kd.R_alloc | apply Kd.R_drewN | apply Kd.R_drew)); exact HO_6.out, by repeat (first | (with_reducible first | exact HB.out | apply below_alloc | apply pw_below_drewN | apply below_drew1) | exact HB.out)⟩
def bobbinref01_Clean.f (k : Nat) (l0 : List Int) : Option (List Int) := (bobbinref01_Pieces.f k l0).bind fun bt124 => (some bt124.1)
set_option maxHeartbeats 8000000 in
set_option maxRecDepth 100000 in
theorem bobbinref01_Clean.calls (k : Nat) (A0 : Option Addr) (c0 : Nat) (l0 : List Int) (r : List Int) (w : World) (hr0 : Kd.C (Kd.int .u8) w A0 l0.length l0) (hc0 : l0.length ≤ c0) (h : bobbinref01_Clean.f k l0 = some r) :
    Calls Tryd.prog 36 #[.slice A0 l0.length c0] w fun e w' => ∃ v0_ : Value, e = .returned (v0_) ∧ Kd.R (Kd.int .u8) 5 w' w.heap.size (fun _ => True) v0_ r ∧ Below w.heap.size w w' := by
  have HR0 := Aside0.mk hr0
  have HC0 := Aside0.mk hc0
  clear hr0 hc0
  have HB := Aside0.mk (Below.refl w.heap.size w)
  have H : ((bobbinref01_Pieces.f k l0).bind fun bt124 => (some bt124.1)) = some r := h
  clear h
  replace H := Option.bind_eq_some_iff.mp H
  obtain ⟨⟨t124, t125, t126⟩, A20, H⟩ := H
  replace H : (some t124) = some r := H
  have A2 := Aside0.mk A20
  clear A20
  obtain rfl := Option.some.inj H
  go_enter Tryd.func36, Tryd.ntmps36
  go_wp2_with (first | ((with_reducible refine gate_callee (f := 67) rfl ?_); refine goesL_ (some 8) rfl rfl Tryd.func67 (by kernel_rfl) rfl #[.slice A0 l0.length c0] rfl (by (try simp only [List.map_toArray, List.map_cons, List.map_nil]); first | done | rfl | (simp only [List.length_drop, List.length_take]; rfl)) ?_; (with_reducible refine (bobbinref01_Pieces.calls k _ _ l0 t124 t125 t126 _ ?side1 ?side2 A2.out).mono ?_); (case side1 => repeat (first | exact HR0.out | (with_reducible refine Kd.C_alloc ?_ _) | (with_reducible refine Kd.C_drewN ?_ _) | (with_reducible refine Kd.C_drew ?_))); (case side2 => exact HC0.out); rintro e w3 ⟨v127, v129, rfl, ho0, ho1, hb⟩; refine ⟨_, rfl, ?_⟩; have n0_ := Aside0.mk (Kd.R_lower ho0 (below_size (by repeat (first | (with_reducible first | exact HB.out | apply below_alloc | apply pw_below_drewN | apply below_drew1) | exact HB.out)))); have n1_ := Aside0.mk (Kd.R_lower ho1 (below_size (by repeat (first | (with_reducible first | exact HB.out | apply below_alloc | apply pw_below_drewN | apply below_drew1) | exact HB.out)))); have n2_ := Aside0.mk (below_step (by repeat (first | (with_reducible first | exact HB.out | apply below_alloc | apply pw_below_drewN | apply below_drew1) | exact HB.out)) hb); clear HB; have HO128 := n0_; have HO130 := n1_; have HB := n2_; clear n0_ n1_ n2_; (try clear hb); (try clear hb2); (try clear hk); (try clear hi); (try clear ho0); (try clear ho1)))
  go_ret
  exact ⟨_, by first | rfl | (simp [errW_none, errW_some] <;> rfl) | (simp [*, errW_none, errW_some] <;> rfl), by (with_reducible repeat (first | apply Kd.R_alloc | apply Kd.R_drewN | apply Kd.R_drew)); exact HO128.out, by repeat (first | (with_reducible first | exact HB.out | apply below_alloc | apply pw_below_drewN | apply below_drew1) | exact HB.out)⟩
def bobbinref01_Rune.f (k : Nat) (l0 : List Int) : Option (Int × Int) := if 0 < (l0.length : Int) then ((bobbinref01_Need.f k (rd l0 0)).bind fun t132 => (if t132 = 1 then (some (wrap64 (rd l0 0), 1)) else (if t132 = 2 then (if 1 < (l0.length : Int) then (some (Go.bits .or .i64 (wrap64 ((wrap64 (Go.bits .and .u8 (rd l0 0) 31)) * 64)) (wrap64 (Go.bits .and .u8 (rd l0 1) 63)), 2)) else (none)) else (if t132 = 3 then (if 1 < (l0.length : Int) then (if 2 < (l0.length : Int) then (some (Go.bits .or .i64 (Go.bits .or .i64 (wrap64 ((wrap64 (Go.bits .and .u8 (rd l0 0) 15)) * 4096)) (wrap64 ((wrap64 (Go.bits .and .u8 (rd l0 1) 63)) * 64))) (wrap64 (Go.bits .and .u8 (rd l0 2) 63)), 3)) else (none)) else (none)) else (if 1 < (l0.length : Int) then (if 2 < (l0.length : Int) then (if 3 < (l0.length : Int) then (some (Go.bits .or .i64 (Go.bits .or .i64 (Go.bits .or .i64 (wrap64 ((wrap64 (Go.bits .and .u8 (rd l0 0) 7)) * 262144)) (wrap64 ((wrap64 (Go.bits .and .u8 (rd l0 1) 63)) * 4096))) (wrap64 ((wrap64 (Go.bits .and .u8 (rd l0 2) 63)) * 64))) (wrap64 (Go.bits .and .u8 (rd l0 3) 63)), 4)) else (none)) else (none)) else (none)))))) else (none)
set_option maxHeartbeats 8000000 in
set_option maxRecDepth 100000 in
theorem bobbinref01_Rune.calls (k : Nat) (A0 : Option Addr) (c0 : Nat) (l0 : List Int) (r1 : Int) (r2 : Int) (w : World) (hr0 : Kd.C (Kd.int .u8) w A0 l0.length l0) (hc0 : l0.length ≤ c0) (h : bobbinref01_Rune.f k l0 = some (r1, r2)) :
    Calls Tryd.prog 83 #[.slice A0 l0.length c0] w fun e w' => e = .returned (.tuple #[.int .i64 r1, .int .i64 r2]) ∧ Drawn0 w w' := by
  have HR0 := Aside0.mk hr0
  have HC0 := Aside0.mk hc0
  clear hr0 hc0
  have H : (if 0 < (l0.length : Int) then ((bobbinref01_Need.f k (rd l0 0)).bind fun t132 => (if t132 = 1 then (some (wrap64 (rd l0 0), 1)) else (if t132 = 2 then (if 1 < (l0.length : Int) then (some (Go.bits .or .i64 (wrap64 ((wrap64 (Go.bits .and .u8 (rd l0 0) 31)) * 64)) (wrap64 (Go.bits .and .u8 (rd l0 1) 63)), 2)) else (none)) else (if t132 = 3 then (if 1 < (l0.length : Int) then (if 2 < (l0.length : Int) then (some (Go.bits .or .i64 (Go.bits .or .i64 (wrap64 ((wrap64 (Go.bits .and .u8 (rd l0 0) 15)) * 4096)) (wrap64 ((wrap64 (Go.bits .and .u8 (rd l0 1) 63)) * 64))) (wrap64 (Go.bits .and .u8 (rd l0 2) 63)), 3)) else (none)) else (none)) else (if 1 < (l0.length : Int) then (if 2 < (l0.length : Int) then (if 3 < (l0.length : Int) then (some (Go.bits .or .i64 (Go.bits .or .i64 (Go.bits .or .i64 (wrap64 ((wrap64 (Go.bits .and .u8 (rd l0 0) 7)) * 262144)) (wrap64 ((wrap64 (Go.bits .and .u8 (rd l0 1) 63)) * 4096))) (wrap64 ((wrap64 (Go.bits .and .u8 (rd l0 2) 63)) * 64))) (wrap64 (Go.bits .and .u8 (rd l0 3) 63)), 4)) else (none)) else (none)) else (none)))))) else (none)) = some (r1, r2) := h
  clear h
  by_cases c2 : 0 < (l0.length : Int)
  · rw [if_pos c2] at H
    have c2b0 : decide (0 < (l0.length : Int)) = true := decide_eq_true c2
    have c2b1 : decide (0 < l0.length) = true := decide_eq_true (by omega)
    clear c2
    replace H := Option.bind_eq_some_iff.mp H
    obtain ⟨t132, A30, H⟩ := H
    replace H : (if t132 = 1 then (some (wrap64 (rd l0 0), 1)) else (if t132 = 2 then (if 1 < (l0.length : Int) then (some (Go.bits .or .i64 (wrap64 ((wrap64 (Go.bits .and .u8 (rd l0 0) 31)) * 64)) (wrap64 (Go.bits .and .u8 (rd l0 1) 63)), 2)) else (none)) else (if t132 = 3 then (if 1 < (l0.length : Int) then (if 2 < (l0.length : Int) then (some (Go.bits .or .i64 (Go.bits .or .i64 (wrap64 ((wrap64 (Go.bits .and .u8 (rd l0 0) 15)) * 4096)) (wrap64 ((wrap64 (Go.bits .and .u8 (rd l0 1) 63)) * 64))) (wrap64 (Go.bits .and .u8 (rd l0 2) 63)), 3)) else (none)) else (none)) else (if 1 < (l0.length : Int) then (if 2 < (l0.length : Int) then (if 3 < (l0.length : Int) then (some (Go.bits .or .i64 (Go.bits .or .i64 (Go.bits .or .i64 (wrap64 ((wrap64 (Go.bits .and .u8 (rd l0 0) 7)) * 262144)) (wrap64 ((wrap64 (Go.bits .and .u8 (rd l0 1) 63)) * 4096))) (wrap64 ((wrap64 (Go.bits .and .u8 (rd l0 2) 63)) * 64))) (wrap64 (Go.bits .and .u8 (rd l0 3) 63)), 4)) else (none)) else (none)) else (none))))) = some (r1, r2) := H
    have A3 := Aside0.mk A30
    clear A30
    by_cases c4 : t132 = 1
    · rw [if_pos c4] at H
      have c4b0 : (t132 == 1) = true := beq_iff_eq.mpr c4
      have c4b1 : (t132 != 1) = false := bne_eq_false_iff_eq.mpr c4
      clear c4
      simp only [Option.some.injEq, Prod.mk.injEq] at H
      obtain ⟨rfl, rfl⟩ := H
      have p131 : 0 ≤ (0 : Int) := (by omega)
      have q131 : 0 < (l0.length : Int) := of_decide_eq_true (by first | (with_reducible assumption) | assumption)
      obtain ⟨ad131, e131, hx131_0⟩ := Kd.at_int HR0.out 0 p131 q131
      cases e131
      have qi131 : (0 < l0.length) = True := eq_true (by omega)
      (try rw [show ((0 : Int)).toNat = 0 from rfl] at hx131_0)
      (try rw [Addr.add_zero'] at hx131_0)
      replace p131 := eq_true p131
      replace q131 := eq_true q131
      go_enter Tryd.func83, Tryd.ntmps83
      go_wp2_with (first | (go_at_call 94; (with_reducible refine (bobbinref01_Need.calls k (rd l0 0) t132 _ A3.out).mono ?_); rintro e w' ⟨rfl, ⟨nd, rfl⟩⟩; (try first | exact ⟨rfl, _, World.drewN_drewN _ _ _⟩ | exact ⟨rfl, _, Eq.trans (World.drewN_drewN _ _ _) (congrArg (World.drewN _) (Nat.add_assoc _ _ _))⟩); have p133 : 0 ≤ (0 : Int) := (by omega); have q133 : 0 < (l0.length : Int) := of_decide_eq_true (by first | (with_reducible assumption) | assumption); obtain ⟨ad133, e133, hx133_0⟩ := Kd.at_int HR0.out 0 p133 q133; obtain rfl : ad131 = ad133 := (by injection e133); have qi133 : (0 < l0.length) = True := eq_true (by omega); (try rw [show ((0 : Int)).toNat = 0 from rfl] at hx133_0); (try rw [Addr.add_zero'] at hx133_0); replace p133 := eq_true p133; replace q133 := eq_true q133))
      repeat (go_quiet (first | (go_at_call 94; (with_reducible refine (bobbinref01_Need.calls k (rd l0 0) t132 _ A3.out).mono ?_); rintro e w' ⟨rfl, ⟨nd, rfl⟩⟩; (try first | exact ⟨rfl, _, World.drewN_drewN _ _ _⟩ | exact ⟨rfl, _, Eq.trans (World.drewN_drewN _ _ _) (congrArg (World.drewN _) (Nat.add_assoc _ _ _))⟩); have p133 : 0 ≤ (0 : Int) := (by omega); have q133 : 0 < (l0.length : Int) := of_decide_eq_true (by first | (with_reducible assumption) | assumption); obtain ⟨ad133, e133, hx133_0⟩ := Kd.at_int HR0.out 0 p133 q133; obtain rfl : ad131 = ad133 := (by injection e133); have qi133 : (0 < l0.length) = True := eq_true (by omega); (try rw [show ((0 : Int)).toNat = 0 from rfl] at hx133_0); (try rw [Addr.add_zero'] at hx133_0); replace p133 := eq_true p133; replace q133 := eq_true q133)); try go_wp2_with (first | (go_at_call 94; (with_reducible refine (bobbinref01_Need.calls k (rd l0 0) t132 _ A3.out).mono ?_); rintro e w' ⟨rfl, ⟨nd, rfl⟩⟩; (try first | exact ⟨rfl, _, World.drewN_drewN _ _ _⟩ | exact ⟨rfl, _, Eq.trans (World.drewN_drewN _ _ _) (congrArg (World.drewN _) (Nat.add_assoc _ _ _))⟩); have p133 : 0 ≤ (0 : Int) := (by omega); have q133 : 0 < (l0.length : Int) := of_decide_eq_true (by first | (with_reducible assumption) | assumption); obtain ⟨ad133, e133, hx133_0⟩ := Kd.at_int HR0.out 0 p133 q133; obtain rfl : ad131 = ad133 := (by injection e133); have qi133 : (0 < l0.length) = True := eq_true (by omega); (try rw [show ((0 : Int)).toNat = 0 from rfl] at hx133_0); (try rw [Addr.add_zero'] at hx133_0); replace p133 := eq_true p133; replace q133 := eq_true q133)))
      go_ret2
      exact ⟨by first | rfl | (simp; done) | (simp [*]; done), by repeat (first | exact Drawn0.refl _ | apply Drawn0.step)⟩
    · rw [if_neg c4] at H
      have c4b0 : (t132 == 1) = false := beq_eq_false_iff_ne.mpr c4
      have c4b1 : (t132 != 1) = true := bne_iff_ne.mpr c4
      by_cases c5 : t132 = 2
      · rw [if_pos c5] at H
        have c5b0 : (t132 == 2) = true := beq_iff_eq.mpr c5
        have c5b1 : (t132 != 2) = false := bne_eq_false_iff_eq.mpr c5
        clear c5
        by_cases c6 : 1 < (l0.length : Int)
        · rw [if_pos c6] at H
          have c6b0 : decide (1 < (l0.length : Int)) = true := decide_eq_true c6
          have c6b1 : decide (1 < l0.length) = true := decide_eq_true (by omega)
          clear c6
          simp only [Option.some.injEq, Prod.mk.injEq] at H
          obtain ⟨rfl, rfl⟩ := H
          have p131 : 0 ≤ (0 : Int) := (by omega)
          have q131 : 0 < (l0.length : Int) := of_decide_eq_true (by first | (with_reducible assumption) | assumption)
          obtain ⟨ad131, e131, hx131_0⟩ := Kd.at_int HR0.out 0 p131 q131
          cases e131
          have qi131 : (0 < l0.length) = True := eq_true (by omega)
          (try rw [show ((0 : Int)).toNat = 0 from rfl] at hx131_0)
          (try rw [Addr.add_zero'] at hx131_0)
          replace p131 := eq_true p131
          replace q131 := eq_true q131
          go_enter Tryd.func83, Tryd.ntmps83
          go_wp2_with (first | (go_at_call 94; (with_reducible refine (bobbinref01_Need.calls k (rd l0 0) t132 _ A3.out).mono ?_); rintro e w' ⟨rfl, ⟨nd, rfl⟩⟩; (try first | exact ⟨rfl, _, World.drewN_drewN _ _ _⟩ | exact ⟨rfl, _, Eq.trans (World.drewN_drewN _ _ _) (congrArg (World.drewN _) (Nat.add_assoc _ _ _))⟩); have p134 : 0 ≤ (0 : Int) := (by omega); have q134 : 0 < (l0.length : Int) := of_decide_eq_true (by first | (with_reducible assumption) | assumption); obtain ⟨ad134, e134, hx134_0⟩ := Kd.at_int HR0.out 0 p134 q134; obtain rfl : ad131 = ad134 := (by injection e134); have qi134 : (0 < l0.length) = True := eq_true (by omega); (try rw [show ((0 : Int)).toNat = 0 from rfl] at hx134_0); (try rw [Addr.add_zero'] at hx134_0); replace p134 := eq_true p134; replace q134 := eq_true q134; have p135 : 0 ≤ (1 : Int) := (by omega); have q135 : 1 < (l0.length : Int) := of_decide_eq_true (by first | (with_reducible assumption) | assumption); obtain ⟨ad135, e135, hx135_0⟩ := Kd.at_int HR0.out 1 p135 q135; obtain rfl : ad131 = ad135 := (by injection e135); (try simp only [show (1 : Int).toNat = 1 from rfl, Nat.reduceMul, Nat.reduceEqDiff, Go.Addr.add, ↓reduceIte] at hx135_0); have qi135 : (1 < l0.length) = True := eq_true (by omega); (try rw [show ((1 : Int)).toNat = 1 from rfl] at hx135_0); replace p135 := eq_true p135; replace q135 := eq_true q135))
          repeat (go_quiet (first | (go_at_call 94; (with_reducible refine (bobbinref01_Need.calls k (rd l0 0) t132 _ A3.out).mono ?_); rintro e w' ⟨rfl, ⟨nd, rfl⟩⟩; (try first | exact ⟨rfl, _, World.drewN_drewN _ _ _⟩ | exact ⟨rfl, _, Eq.trans (World.drewN_drewN _ _ _) (congrArg (World.drewN _) (Nat.add_assoc _ _ _))⟩); have p134 : 0 ≤ (0 : Int) := (by omega); have q134 : 0 < (l0.length : Int) := of_decide_eq_true (by first | (with_reducible assumption) | assumption); obtain ⟨ad134, e134, hx134_0⟩ := Kd.at_int HR0.out 0 p134 q134; obtain rfl : ad131 = ad134 := (by injection e134); have qi134 : (0 < l0.length) = True := eq_true (by omega); (try rw [show ((0 : Int)).toNat = 0 from rfl] at hx134_0); (try rw [Addr.add_zero'] at hx134_0); replace p134 := eq_true p134; replace q134 := eq_true q134; have p135 : 0 ≤ (1 : Int) := (by omega); have q135 : 1 < (l0.length : Int) := of_decide_eq_true (by first | (with_reducible assumption) | assumption); obtain ⟨ad135, e135, hx135_0⟩ := Kd.at_int HR0.out 1 p135 q135; obtain rfl : ad131 = ad135 := (by injection e135); (try simp only [show (1 : Int).toNat = 1 from rfl, Nat.reduceMul, Nat.reduceEqDiff, Go.Addr.add, ↓reduceIte] at hx135_0); have qi135 : (1 < l0.length) = True := eq_true (by omega); (try rw [show ((1 : Int)).toNat = 1 from rfl] at hx135_0); replace p135 := eq_true p135; replace q135 := eq_true q135)); try go_wp2_with (first | (go_at_call 94; (with_reducible refine (bobbinref01_Need.calls k (rd l0 0) t132 _ A3.out).mono ?_); rintro e w' ⟨rfl, ⟨nd, rfl⟩⟩; (try first | exact ⟨rfl, _, World.drewN_drewN _ _ _⟩ | exact ⟨rfl, _, Eq.trans (World.drewN_drewN _ _ _) (congrArg (World.drewN _) (Nat.add_assoc _ _ _))⟩); have p134 : 0 ≤ (0 : Int) := (by omega); have q134 : 0 < (l0.length : Int) := of_decide_eq_true (by first | (with_reducible assumption) | assumption); obtain ⟨ad134, e134, hx134_0⟩ := Kd.at_int HR0.out 0 p134 q134; obtain rfl : ad131 = ad134 := (by injection e134); have qi134 : (0 < l0.length) = True := eq_true (by omega); (try rw [show ((0 : Int)).toNat = 0 from rfl] at hx134_0); (try rw [Addr.add_zero'] at hx134_0); replace p134 := eq_true p134; replace q134 := eq_true q134; have p135 : 0 ≤ (1 : Int) := (by omega); have q135 : 1 < (l0.length : Int) := of_decide_eq_true (by first | (with_reducible assumption) | assumption); obtain ⟨ad135, e135, hx135_0⟩ := Kd.at_int HR0.out 1 p135 q135; obtain rfl : ad131 = ad135 := (by injection e135); (try simp only [show (1 : Int).toNat = 1 from rfl, Nat.reduceMul, Nat.reduceEqDiff, Go.Addr.add, ↓reduceIte] at hx135_0); have qi135 : (1 < l0.length) = True := eq_true (by omega); (try rw [show ((1 : Int)).toNat = 1 from rfl] at hx135_0); replace p135 := eq_true p135; replace q135 := eq_true q135)))
          go_ret2
          exact ⟨by first | rfl | (simp; done) | (simp [*]; done), by repeat (first | exact Drawn0.refl _ | apply Drawn0.step)⟩
        · rw [if_neg c6] at H
          exact absurd H (by simp)
      · rw [if_neg c5] at H
        have c5b0 : (t132 == 2) = false := beq_eq_false_iff_ne.mpr c5
        have c5b1 : (t132 != 2) = true := bne_iff_ne.mpr c5
        by_cases c7 : t132 = 3
        · rw [if_pos c7] at H
          have c7b0 : (t132 == 3) = true := beq_iff_eq.mpr c7
          have c7b1 : (t132 != 3) = false := bne_eq_false_iff_eq.mpr c7
          clear c7
          by_cases c8 : 1 < (l0.length : Int)
          · rw [if_pos c8] at H
            have c8b0 : decide (1 < (l0.length : Int)) = true := decide_eq_true c8
            have c8b1 : decide (1 < l0.length) = true := decide_eq_true (by omega)
            clear c8
            by_cases c9 : 2 < (l0.length : Int)
            · rw [if_pos c9] at H
              have c9b0 : decide (2 < (l0.length : Int)) = true := decide_eq_true c9
              have c9b1 : decide (2 < l0.length) = true := decide_eq_true (by omega)
              clear c9
              simp only [Option.some.injEq, Prod.mk.injEq] at H
              obtain ⟨rfl, rfl⟩ := H
              have p131 : 0 ≤ (0 : Int) := (by omega)
              have q131 : 0 < (l0.length : Int) := of_decide_eq_true (by first | (with_reducible assumption) | assumption)
              obtain ⟨ad131, e131, hx131_0⟩ := Kd.at_int HR0.out 0 p131 q131
              cases e131
              have qi131 : (0 < l0.length) = True := eq_true (by omega)
              (try rw [show ((0 : Int)).toNat = 0 from rfl] at hx131_0)
              (try rw [Addr.add_zero'] at hx131_0)
              replace p131 := eq_true p131
              replace q131 := eq_true q131
              go_enter Tryd.func83, Tryd.ntmps83
              go_wp2_with (first | (go_at_call 94; (with_reducible refine (bobbinref01_Need.calls k (rd l0 0) t132 _ A3.out).mono ?_); rintro e w' ⟨rfl, ⟨nd, rfl⟩⟩; (try first | exact ⟨rfl, _, World.drewN_drewN _ _ _⟩ | exact ⟨rfl, _, Eq.trans (World.drewN_drewN _ _ _) (congrArg (World.drewN _) (Nat.add_assoc _ _ _))⟩); have p136 : 0 ≤ (0 : Int) := (by omega); have q136 : 0 < (l0.length : Int) := of_decide_eq_true (by first | (with_reducible assumption) | assumption); obtain ⟨ad136, e136, hx136_0⟩ := Kd.at_int HR0.out 0 p136 q136; obtain rfl : ad131 = ad136 := (by injection e136); have qi136 : (0 < l0.length) = True := eq_true (by omega); (try rw [show ((0 : Int)).toNat = 0 from rfl] at hx136_0); (try rw [Addr.add_zero'] at hx136_0); replace p136 := eq_true p136; replace q136 := eq_true q136; have p137 : 0 ≤ (1 : Int) := (by omega); have q137 : 1 < (l0.length : Int) := of_decide_eq_true (by first | (with_reducible assumption) | assumption); obtain ⟨ad137, e137, hx137_0⟩ := Kd.at_int HR0.out 1 p137 q137; obtain rfl : ad131 = ad137 := (by injection e137); (try simp only [show (1 : Int).toNat = 1 from rfl, Nat.reduceMul, Nat.reduceEqDiff, Go.Addr.add, ↓reduceIte] at hx137_0); have qi137 : (1 < l0.length) = True := eq_true (by omega); (try rw [show ((1 : Int)).toNat = 1 from rfl] at hx137_0); replace p137 := eq_true p137; replace q137 := eq_true q137; have p138 : 0 ≤ (2 : Int) := (by omega); have q138 : 2 < (l0.length : Int) := of_decide_eq_true (by first | (with_reducible assumption) | assumption); obtain ⟨ad138, e138, hx138_0⟩ := Kd.at_int HR0.out 2 p138 q138; obtain rfl : ad131 = ad138 := (by injection e138); (try simp only [show (2 : Int).toNat = 2 from rfl, Nat.reduceMul, Nat.reduceEqDiff, Go.Addr.add, ↓reduceIte] at hx138_0); have qi138 : (2 < l0.length) = True := eq_true (by omega); (try rw [show ((2 : Int)).toNat = 2 from rfl] at hx138_0); replace p138 := eq_true p138; replace q138 := eq_true q138))
              repeat (go_quiet (first | (go_at_call 94; (with_reducible refine (bobbinref01_Need.calls k (rd l0 0) t132 _ A3.out).mono ?_); rintro e w' ⟨rfl, ⟨nd, rfl⟩⟩; (try first | exact ⟨rfl, _, World.drewN_drewN _ _ _⟩ | exact ⟨rfl, _, Eq.trans (World.drewN_drewN _ _ _) (congrArg (World.drewN _) (Nat.add_assoc _ _ _))⟩); have p136 : 0 ≤ (0 : Int) := (by omega); have q136 : 0 < (l0.length : Int) := of_decide_eq_true (by first | (with_reducible assumption) | assumption); obtain ⟨ad136, e136, hx136_0⟩ := Kd.at_int HR0.out 0 p136 q136; obtain rfl : ad131 = ad136 := (by injection e136); have qi136 : (0 < l0.length) = True := eq_true (by omega); (try rw [show ((0 : Int)).toNat = 0 from rfl] at hx136_0); (try rw [Addr.add_zero'] at hx136_0); replace p136 := eq_true p136; replace q136 := eq_true q136; have p137 : 0 ≤ (1 : Int) := (by omega); have q137 : 1 < (l0.length : Int) := of_decide_eq_true (by first | (with_reducible assumption) | assumption); obtain ⟨ad137, e137, hx137_0⟩ := Kd.at_int HR0.out 1 p137 q137; obtain rfl : ad131 = ad137 := (by injection e137); (try simp only [show (1 : Int).toNat = 1 from rfl, Nat.reduceMul, Nat.reduceEqDiff, Go.Addr.add, ↓reduceIte] at hx137_0); have qi137 : (1 < l0.length) = True := eq_true (by omega); (try rw [show ((1 : Int)).toNat = 1 from rfl] at hx137_0); replace p137 := eq_true p137; replace q137 := eq_true q137; have p138 : 0 ≤ (2 : Int) := (by omega); have q138 : 2 < (l0.length : Int) := of_decide_eq_true (by first | (with_reducible assumption) | assumption); obtain ⟨ad138, e138, hx138_0⟩ := Kd.at_int HR0.out 2 p138 q138; obtain rfl : ad131 = ad138 := (by injection e138); (try simp only [show (2 : Int).toNat = 2 from rfl, Nat.reduceMul, Nat.reduceEqDiff, Go.Addr.add, ↓reduceIte] at hx138_0); have qi138 : (2 < l0.length) = True := eq_true (by omega); (try rw [show ((2 : Int)).toNat = 2 from rfl] at hx138_0); replace p138 := eq_true p138; replace q138 := eq_true q138)); try go_wp2_with (first | (go_at_call 94; (with_reducible refine (bobbinref01_Need.calls k (rd l0 0) t132 _ A3.out).mono ?_); rintro e w' ⟨rfl, ⟨nd, rfl⟩⟩; (try first | exact ⟨rfl, _, World.drewN_drewN _ _ _⟩ | exact ⟨rfl, _, Eq.trans (World.drewN_drewN _ _ _) (congrArg (World.drewN _) (Nat.add_assoc _ _ _))⟩); have p136 : 0 ≤ (0 : Int) := (by omega); have q136 : 0 < (l0.length : Int) := of_decide_eq_true (by first | (with_reducible assumption) | assumption); obtain ⟨ad136, e136, hx136_0⟩ := Kd.at_int HR0.out 0 p136 q136; obtain rfl : ad131 = ad136 := (by injection e136); have qi136 : (0 < l0.length) = True := eq_true (by omega); (try rw [show ((0 : Int)).toNat = 0 from rfl] at hx136_0); (try rw [Addr.add_zero'] at hx136_0); replace p136 := eq_true p136; replace q136 := eq_true q136; have p137 : 0 ≤ (1 : Int) := (by omega); have q137 : 1 < (l0.length : Int) := of_decide_eq_true (by first | (with_reducible assumption) | assumption); obtain ⟨ad137, e137, hx137_0⟩ := Kd.at_int HR0.out 1 p137 q137; obtain rfl : ad131 = ad137 := (by injection e137); (try simp only [show (1 : Int).toNat = 1 from rfl, Nat.reduceMul, Nat.reduceEqDiff, Go.Addr.add, ↓reduceIte] at hx137_0); have qi137 : (1 < l0.length) = True := eq_true (by omega); (try rw [show ((1 : Int)).toNat = 1 from rfl] at hx137_0); replace p137 := eq_true p137; replace q137 := eq_true q137; have p138 : 0 ≤ (2 : Int) := (by omega); have q138 : 2 < (l0.length : Int) := of_decide_eq_true (by first | (with_reducible assumption) | assumption); obtain ⟨ad138, e138, hx138_0⟩ := Kd.at_int HR0.out 2 p138 q138; obtain rfl : ad131 = ad138 := (by injection e138); (try simp only [show (2 : Int).toNat = 2 from rfl, Nat.reduceMul, Nat.reduceEqDiff, Go.Addr.add, ↓reduceIte] at hx138_0); have qi138 : (2 < l0.length) = True := eq_true (by omega); (try rw [show ((2 : Int)).toNat = 2 from rfl] at hx138_0); replace p138 := eq_true p138; replace q138 := eq_true q138)))
              go_ret2
              exact ⟨by first | rfl | (simp; done) | (simp [*]; done), by repeat (first | exact Drawn0.refl _ | apply Drawn0.step)⟩
            · rw [if_neg c9] at H
              exact absurd H (by simp)
          · rw [if_neg c8] at H
            exact absurd H (by simp)
        · rw [if_neg c7] at H
          have c7b0 : (t132 == 3) = false := beq_eq_false_iff_ne.mpr c7
          have c7b1 : (t132 != 3) = true := bne_iff_ne.mpr c7
          by_cases c10 : 1 < (l0.length : Int)
          · rw [if_pos c10] at H
            have c10b0 : decide (1 < (l0.length : Int)) = true := decide_eq_true c10
            have c10b1 : decide (1 < l0.length) = true := decide_eq_true (by omega)
            clear c10
            by_cases c11 : 2 < (l0.length : Int)
            · rw [if_pos c11] at H
              have c11b0 : decide (2 < (l0.length : Int)) = true := decide_eq_true c11
              have c11b1 : decide (2 < l0.length) = true := decide_eq_true (by omega)
              clear c11
              by_cases c12 : 3 < (l0.length : Int)
              · rw [if_pos c12] at H
                have c12b0 : decide (3 < (l0.length : Int)) = true := decide_eq_true c12
                have c12b1 : decide (3 < l0.length) = true := decide_eq_true (by omega)
                clear c12
                simp only [Option.some.injEq, Prod.mk.injEq] at H
                obtain ⟨rfl, rfl⟩ := H
                have p131 : 0 ≤ (0 : Int) := (by omega)
                have q131 : 0 < (l0.length : Int) := of_decide_eq_true (by first | (with_reducible assumption) | assumption)
                obtain ⟨ad131, e131, hx131_0⟩ := Kd.at_int HR0.out 0 p131 q131
                cases e131
                have qi131 : (0 < l0.length) = True := eq_true (by omega)
                (try rw [show ((0 : Int)).toNat = 0 from rfl] at hx131_0)
                (try rw [Addr.add_zero'] at hx131_0)
                replace p131 := eq_true p131
                replace q131 := eq_true q131
                go_enter Tryd.func83, Tryd.ntmps83
                go_wp2_with (first | (go_at_call 94; (with_reducible refine (bobbinref01_Need.calls k (rd l0 0) t132 _ A3.out).mono ?_); rintro e w' ⟨rfl, ⟨nd, rfl⟩⟩; (try first | exact ⟨rfl, _, World.drewN_drewN _ _ _⟩ | exact ⟨rfl, _, Eq.trans (World.drewN_drewN _ _ _) (congrArg (World.drewN _) (Nat.add_assoc _ _ _))⟩); have p139 : 0 ≤ (0 : Int) := (by omega); have q139 : 0 < (l0.length : Int) := of_decide_eq_true (by first | (with_reducible assumption) | assumption); obtain ⟨ad139, e139, hx139_0⟩ := Kd.at_int HR0.out 0 p139 q139; obtain rfl : ad131 = ad139 := (by injection e139); have qi139 : (0 < l0.length) = True := eq_true (by omega); (try rw [show ((0 : Int)).toNat = 0 from rfl] at hx139_0); (try rw [Addr.add_zero'] at hx139_0); replace p139 := eq_true p139; replace q139 := eq_true q139; have p140 : 0 ≤ (1 : Int) := (by omega); have q140 : 1 < (l0.length : Int) := of_decide_eq_true (by first | (with_reducible assumption) | assumption); obtain ⟨ad140, e140, hx140_0⟩ := Kd.at_int HR0.out 1 p140 q140; obtain rfl : ad131 = ad140 := (by injection e140); (try simp only [show (1 : Int).toNat = 1 from rfl, Nat.reduceMul, Nat.reduceEqDiff, Go.Addr.add, ↓reduceIte] at hx140_0); have qi140 : (1 < l0.length) = True := eq_true (by omega); (try rw [show ((1 : Int)).toNat = 1 from rfl] at hx140_0); replace p140 := eq_true p140; replace q140 := eq_true q140; have p141 : 0 ≤ (2 : Int) := (by omega); have q141 : 2 < (l0.length : Int) := of_decide_eq_true (by first | (with_reducible assumption) | assumption); obtain ⟨ad141, e141, hx141_0⟩ := Kd.at_int HR0.out 2 p141 q141; obtain rfl : ad131 = ad141 := (by injection e141); (try simp only [show (2 : Int).toNat = 2 from rfl, Nat.reduceMul, Nat.reduceEqDiff, Go.Addr.add, ↓reduceIte] at hx141_0); have qi141 : (2 < l0.length) = True := eq_true (by omega); (try rw [show ((2 : Int)).toNat = 2 from rfl] at hx141_0); replace p141 := eq_true p141; replace q141 := eq_true q141; have p142 : 0 ≤ (3 : Int) := (by omega); have q142 : 3 < (l0.length : Int) := of_decide_eq_true (by first | (with_reducible assumption) | assumption); obtain ⟨ad142, e142, hx142_0⟩ := Kd.at_int HR0.out 3 p142 q142; obtain rfl : ad131 = ad142 := (by injection e142); (try simp only [show (3 : Int).toNat = 3 from rfl, Nat.reduceMul, Nat.reduceEqDiff, Go.Addr.add, ↓reduceIte] at hx142_0); have qi142 : (3 < l0.length) = True := eq_true (by omega); (try rw [show ((3 : Int)).toNat = 3 from rfl] at hx142_0); replace p142 := eq_true p142; replace q142 := eq_true q142))
                repeat (go_quiet (first | (go_at_call 94; (with_reducible refine (bobbinref01_Need.calls k (rd l0 0) t132 _ A3.out).mono ?_); rintro e w' ⟨rfl, ⟨nd, rfl⟩⟩; (try first | exact ⟨rfl, _, World.drewN_drewN _ _ _⟩ | exact ⟨rfl, _, Eq.trans (World.drewN_drewN _ _ _) (congrArg (World.drewN _) (Nat.add_assoc _ _ _))⟩); have p139 : 0 ≤ (0 : Int) := (by omega); have q139 : 0 < (l0.length : Int) := of_decide_eq_true (by first | (with_reducible assumption) | assumption); obtain ⟨ad139, e139, hx139_0⟩ := Kd.at_int HR0.out 0 p139 q139; obtain rfl : ad131 = ad139 := (by injection e139); have qi139 : (0 < l0.length) = True := eq_true (by omega); (try rw [show ((0 : Int)).toNat = 0 from rfl] at hx139_0); (try rw [Addr.add_zero'] at hx139_0); replace p139 := eq_true p139; replace q139 := eq_true q139; have p140 : 0 ≤ (1 : Int) := (by omega); have q140 : 1 < (l0.length : Int) := of_decide_eq_true (by first | (with_reducible assumption) | assumption); obtain ⟨ad140, e140, hx140_0⟩ := Kd.at_int HR0.out 1 p140 q140; obtain rfl : ad131 = ad140 := (by injection e140); (try simp only [show (1 : Int).toNat = 1 from rfl, Nat.reduceMul, Nat.reduceEqDiff, Go.Addr.add, ↓reduceIte] at hx140_0); have qi140 : (1 < l0.length) = True := eq_true (by omega); (try rw [show ((1 : Int)).toNat = 1 from rfl] at hx140_0); replace p140 := eq_true p140; replace q140 := eq_true q140; have p141 : 0 ≤ (2 : Int) := (by omega); have q141 : 2 < (l0.length : Int) := of_decide_eq_true (by first | (with_reducible assumption) | assumption); obtain ⟨ad141, e141, hx141_0⟩ := Kd.at_int HR0.out 2 p141 q141; obtain rfl : ad131 = ad141 := (by injection e141); (try simp only [show (2 : Int).toNat = 2 from rfl, Nat.reduceMul, Nat.reduceEqDiff, Go.Addr.add, ↓reduceIte] at hx141_0); have qi141 : (2 < l0.length) = True := eq_true (by omega); (try rw [show ((2 : Int)).toNat = 2 from rfl] at hx141_0); replace p141 := eq_true p141; replace q141 := eq_true q141; have p142 : 0 ≤ (3 : Int) := (by omega); have q142 : 3 < (l0.length : Int) := of_decide_eq_true (by first | (with_reducible assumption) | assumption); obtain ⟨ad142, e142, hx142_0⟩ := Kd.at_int HR0.out 3 p142 q142; obtain rfl : ad131 = ad142 := (by injection e142); (try simp only [show (3 : Int).toNat = 3 from rfl, Nat.reduceMul, Nat.reduceEqDiff, Go.Addr.add, ↓reduceIte] at hx142_0); have qi142 : (3 < l0.length) = True := eq_true (by omega); (try rw [show ((3 : Int)).toNat = 3 from rfl] at hx142_0); replace p142 := eq_true p142; replace q142 := eq_true q142)); try go_wp2_with (first | (go_at_call 94; (with_reducible refine (bobbinref01_Need.calls k (rd l0 0) t132 _ A3.out).mono ?_); rintro e w' ⟨rfl, ⟨nd, rfl⟩⟩; (try first | exact ⟨rfl, _, World.drewN_drewN _ _ _⟩ | exact ⟨rfl, _, Eq.trans (World.drewN_drewN _ _ _) (congrArg (World.drewN _) (Nat.add_assoc _ _ _))⟩); have p139 : 0 ≤ (0 : Int) := (by omega); have q139 : 0 < (l0.length : Int) := of_decide_eq_true (by first | (with_reducible assumption) | assumption); obtain ⟨ad139, e139, hx139_0⟩ := Kd.at_int HR0.out 0 p139 q139; obtain rfl : ad131 = ad139 := (by injection e139); have qi139 : (0 < l0.length) = True := eq_true (by omega); (try rw [show ((0 : Int)).toNat = 0 from rfl] at hx139_0); (try rw [Addr.add_zero'] at hx139_0); replace p139 := eq_true p139; replace q139 := eq_true q139; have p140 : 0 ≤ (1 : Int) := (by omega); have q140 : 1 < (l0.length : Int) := of_decide_eq_true (by first | (with_reducible assumption) | assumption); obtain ⟨ad140, e140, hx140_0⟩ := Kd.at_int HR0.out 1 p140 q140; obtain rfl : ad131 = ad140 := (by injection e140); (try simp only [show (1 : Int).toNat = 1 from rfl, Nat.reduceMul, Nat.reduceEqDiff, Go.Addr.add, ↓reduceIte] at hx140_0); have qi140 : (1 < l0.length) = True := eq_true (by omega); (try rw [show ((1 : Int)).toNat = 1 from rfl] at hx140_0); replace p140 := eq_true p140; replace q140 := eq_true q140; have p141 : 0 ≤ (2 : Int) := (by omega); have q141 : 2 < (l0.length : Int) := of_decide_eq_true (by first | (with_reducible assumption) | assumption); obtain ⟨ad141, e141, hx141_0⟩ := Kd.at_int HR0.out 2 p141 q141; obtain rfl : ad131 = ad141 := (by injection e141); (try simp only [show (2 : Int).toNat = 2 from rfl, Nat.reduceMul, Nat.reduceEqDiff, Go.Addr.add, ↓reduceIte] at hx141_0); have qi141 : (2 < l0.length) = True := eq_true (by omega); (try rw [show ((2 : Int)).toNat = 2 from rfl] at hx141_0); replace p141 := eq_true p141; replace q141 := eq_true q141; have p142 : 0 ≤ (3 : Int) := (by omega); have q142 : 3 < (l0.length : Int) := of_decide_eq_true (by first | (with_reducible assumption) | assumption); obtain ⟨ad142, e142, hx142_0⟩ := Kd.at_int HR0.out 3 p142 q142; obtain rfl : ad131 = ad142 := (by injection e142); (try simp only [show (3 : Int).toNat = 3 from rfl, Nat.reduceMul, Nat.reduceEqDiff, Go.Addr.add, ↓reduceIte] at hx142_0); have qi142 : (3 < l0.length) = True := eq_true (by omega); (try rw [show ((3 : Int)).toNat = 3 from rfl] at hx142_0); replace p142 := eq_true p142; replace q142 := eq_true q142)))
                go_ret2
                exact ⟨by first | rfl | (simp; done) | (simp [*]; done), by repeat (first | exact Drawn0.refl _ | apply Drawn0.step)⟩
              · rw [if_neg c12] at H
                exact absurd H (by simp)
            · rw [if_neg c11] at H
              exact absurd H (by simp)
          · rw [if_neg c10] at H
            exact absurd H (by simp)
  · rw [if_neg c2] at H
    exact absurd H (by simp)
def bobbinref01_Runes.l0 : Nat → List Int → List Int → Int → Option (List Int)
  | 0, _, _, _ => none
  | k + 1, x3, x4, x5 => if x5 < (x3.length : Int) then (if 0 ≤ x5 then (if x5 ≤ (x3.length : Int) then ((bobbinref01_Rune.f k (x3.drop (x5 : Int).toNat)).bind fun bt150 => (if x4.length < 17592186044416 then (bobbinref01_Runes.l0 k x3 (x4 ++ [bt150.1]) (wrap64 (x5 + bt150.2))) else (none))) else (none)) else (none)) else (some x4)
def bobbinref01_Runes.f (k : Nat) (l0 : List Int) : Option (List Int) := (bobbinref01_Clean.f k l0).bind fun t143 => (bobbinref01_Runes.l0 k t143 ([] : List Int) 0)
set_option maxHeartbeats 8000000 in
set_option maxRecDepth 100000 in
theorem bobbinref01_Runes.calls (k : Nat) (A0 : Option Addr) (c0 : Nat) (l0 : List Int) (r : List Int) (w : World) (hr0 : Kd.C (Kd.int .u8) w A0 l0.length l0) (hc0 : l0.length ≤ c0) (h : bobbinref01_Runes.f k l0 = some r) :
    Calls Tryd.prog 62 #[.slice A0 l0.length c0] w fun e w' => ∃ v0_ : Value, e = .returned (v0_) ∧ Kd.R (Kd.int .i64) 3 w' w.heap.size (fun _ => True) v0_ r ∧ Below w.heap.size w w' := by
  have HR0 := Aside0.mk hr0
  have HC0 := Aside0.mk hc0
  clear hr0 hc0
  have HB := Aside0.mk (Below.refl w.heap.size w)
  have H : ((bobbinref01_Clean.f k l0).bind fun t143 => (bobbinref01_Runes.l0 k t143 ([] : List Int) 0)) = some r := h
  clear h
  replace H := Option.bind_eq_some_iff.mp H
  obtain ⟨t143, A20, H⟩ := H
  replace H : (bobbinref01_Runes.l0 k t143 ([] : List Int) 0) = some r := H
  have A2 := Aside0.mk A20
  clear A20
  have H' := Aside0.mk H
  clear H
  go_enter Tryd.func62, Tryd.ntmps62
  go_wp2_with (first | ((with_reducible refine gate_callee (f := 36) rfl ?_); refine goesL_ (some 9) rfl rfl Tryd.func36 (by kernel_rfl) rfl #[.slice A0 l0.length c0] rfl (by (try simp only [List.map_toArray, List.map_cons, List.map_nil]); first | done | rfl | (simp only [List.length_drop, List.length_take]; rfl)) ?_; (with_reducible refine (bobbinref01_Clean.calls k _ _ l0 t143 _ ?side1 ?side2 A2.out).mono ?_); (case side1 => repeat (first | exact HR0.out | (with_reducible refine Kd.C_alloc ?_ _) | (with_reducible refine Kd.C_drewN ?_ _) | (with_reducible refine Kd.C_drew ?_))); (case side2 => exact HC0.out); rintro e w3 ⟨v144, rfl, ho0, hb⟩; refine ⟨_, rfl, ?_⟩; have n0_ := Aside0.mk (Kd.R_lower ho0 (below_size (by repeat (first | (with_reducible first | exact HB.out | apply below_alloc | apply pw_below_drewN | apply below_drew1) | exact HB.out)))); have n1_ := Aside0.mk (below_step (by repeat (first | (with_reducible first | exact HB.out | apply below_alloc | apply pw_below_drewN | apply below_drew1) | exact HB.out)) hb); clear HB; have HO145 := n0_; have HB := n1_; clear n0_ n1_; (try clear hb); (try clear hb2); (try clear hk); (try clear hi); (try clear ho0)))
  go_loopg [4, 5] k (fun kq v4 v5 w' => ∃ (x4_1 : List Int) (x5_1 : Int), v5 = .int .i64 x5_1 ∧ Aside0 (bobbinref01_Runes.l0 kq t143 x4_1 x5_1 = some r) ∧ Aside0 (kq ≤ k) ∧ Aside0 (Kd.R (Kd.int .u8) 5 w' w.heap.size (fun _ => True) v144 t143) ∧ Aside0 (Kd.R (Kd.int .i64) 3 w' w.heap.size (fun _ => True) v4 x4_1) ∧ Aside0 (Below w.heap.size w w'))
  case atStart => exact ⟨(([] : List Int)), (0), (by first | rfl | (simp; done) | (simp [*]; done)), H', ⟨Nat.le_refl _⟩, ⟨by (with_reducible repeat (first | apply Kd.R_alloc | apply Kd.R_drewN | apply Kd.R_drew)); exact HO145.out⟩, ⟨by first | exact Kd.R_nil _ _ _ _ _ | exact Kd.N_nil _ _ _ _ _ | exact Kd.V_nil _ _ _ _ _ | exact Kd.Q_nil _ _ _ _ _ | exact Kd.S_nil _ _ _ _ _⟩, ⟨by repeat (first | (with_reducible first | exact HB.out | apply below_alloc | apply pw_below_drewN | apply below_drew1) | exact HB.out)⟩⟩
  case round =>
    clear H'
    try clear p2
    try clear c3
    obtain ⟨x4_1, x5_1, rfl, HA, HK1, HO_3, HO_4, HB⟩ := hrel
    cases gk with
    | zero => exact absurd HA.out (by simp [bobbinref01_Runes.l0])
    | succ k1 =>
      have H := HA.out
      clear HA
      simp only [bobbinref01_Runes.l0] at H
      by_cases c4 : x5_1 < (t143.length : Int)
      · rw [if_pos c4] at H
        have c4b0 : decide (x5_1 < (t143.length : Int)) = true := decide_eq_true c4
        clear c4
        by_cases c5 : 0 ≤ x5_1
        · rw [if_pos c5] at H
          have c5b0 := eq_true c5
          have c5b1 : decide (0 ≤ x5_1) = true := decide_eq_true c5
          clear c5
          by_cases c6 : x5_1 ≤ (t143.length : Int)
          · rw [if_pos c6] at H
            have c6b0 := eq_true c6
            have c6b1 : decide (x5_1 ≤ (t143.length : Int)) = true := decide_eq_true c6
            clear c6
            obtain ⟨y146, hy146⟩ : ∃ y_ : List Int, y_ = (t143.drop (x5_1 : Int).toNat) := ⟨_, rfl⟩
            replace H : ((bobbinref01_Rune.f k1 y146).bind fun bt150 => (if x4_1.length < 17592186044416 then (bobbinref01_Runes.l0 k1 t143 (x4_1 ++ [bt150.1]) (wrap64 (x5_1 + bt150.2))) else (none))) = some r := by first | (rw [hy146]; with_reducible exact H) | (have H2_ := (Option.bind_some _ _).symm.trans H; rw [hy146]; with_reducible exact H2_) | (have H2_ := (Option.bind_some _ _).symm.trans H; with_reducible exact H2_) | with_reducible exact H | (rw [hy146]; exact H) | exact H
            have Ny146 := Aside0.mk hy146
            clear hy146
            replace H := Option.bind_eq_some_iff.mp H
            obtain ⟨⟨t150, t151⟩, A70, H⟩ := H
            replace H : (if x4_1.length < 17592186044416 then (bobbinref01_Runes.l0 k1 t143 (x4_1 ++ [t150]) (wrap64 (x5_1 + t151))) else (none)) = some r := H
            have A7 := Aside0.mk A70
            clear A70
            by_cases c8 : x4_1.length < 17592186044416
            · rw [if_pos c8] at H
              have LMc8 := Aside0.mk c8
              clear c8
              obtain ⟨y152, hy152⟩ : ∃ y_ : List Int, y_ = (x4_1 ++ [t150]) := ⟨_, rfl⟩
              replace H : (bobbinref01_Runes.l0 k1 t143 y152 (wrap64 (x5_1 + t151))) = some r := by first | (rw [hy152]; with_reducible exact H) | (have H2_ := (Option.bind_some _ _).symm.trans H; rw [hy152]; with_reducible exact H2_) | (have H2_ := (Option.bind_some _ _).symm.trans H; with_reducible exact H2_) | with_reducible exact H | (rw [hy152]; exact H) | exact H
              have Ny152 := Aside0.mk hy152
              clear hy152
              have H' := Aside0.mk H
              clear H
              obtain ⟨Ao9, co9, eo9⟩ := Kd.R_slice HO_3.out
              subst eo9
              have q10 : (x5_1 : Int) ≤ ((t143.length : Int) : Int) := of_decide_eq_true (by first | (with_reducible assumption) | assumption)
              obtain ⟨i010, hi010, _, hsz10, _⟩ := info_parts info5
              have hroom10 : t143.length ≤ co9 := (Kd.R_reads' HO_3.out).2.1
              have hC10 : Kd.C (Kd.int .u8) _ Ao9 t143.length t143 := (Kd.R_reads' HO_3.out).2.2
              have q010 : (0 : Int) ≤ (x5_1 : Int) := of_decide_eq_true (by first | (with_reducible assumption) | assumption)
              have hcut10 := cut_from (P := Tryd.prog) 22 5 .i64 Tryd.underlying22 hi010 1 hsz10 Ao9 t143.length co9 x5_1 q010 q10
              have hr10 := Kd.C_drop (m := (x5_1 : Int).toNat) (c := co9) hC10 (by omega) hroom10
              obtain ⟨A10, hA10⟩ : ∃ A1, A1 = (if co9 = (x5_1 : Int).toNat then Ao9 else (Ao9 : Option Addr).map (·.add ((x5_1 : Int).toNat * 1))) := ⟨_, rfl⟩
              obtain ⟨c10, hc10⟩ : ∃ c1, c1 = co9 - (x5_1 : Int).toNat := ⟨_, rfl⟩
              have hy10 : y146.length = t143.length - (x5_1 : Int).toNat := (by rw [Ny146.out, List.length_drop] <;> omega)
              rw [show (t143).drop (x5_1 : Int).toNat = y146 from Ny146.out.symm] at hr10
              replace hr10 : Kd.C (Kd.int .u8) _ A10 y146.length y146 := (by rw [hA10]; exact hr10)
              rw [← hy10, ← hA10, ← hc10] at hcut10
              have HR149 := Aside0.mk hr10
              have HC149 := Aside0.mk (show y146.length ≤ c10 from by rw [hy10, hc10]; exact Nat.sub_le_sub_right hroom10 _)
              clear hr10 hC10 hroom10 hi010 hsz10 hc10
              have KY10 := Aside0.mk hy10
              have KA10 := Aside0.mk hA10
              clear hy10 hA10
              have KL10 := Aside0.mk (show (x5_1 : Int).toNat ≤ t143.length from by omega)
              replace q10 := eq_true q10
              go_wp2_with (first | ((with_reducible refine gate_callee (f := 83) rfl ?_); refine goesL_ (some 18) rfl rfl Tryd.func83 (by kernel_rfl) rfl #[.slice A10 y146.length c10] rfl (by (try simp only [List.map_toArray, List.map_cons, List.map_nil]); first | done | rfl | (simp only [List.length_drop, List.length_take]; rfl)) ?_; (with_reducible refine (bobbinref01_Rune.calls k1 _ _ y146 t150 t151 _ ?side1 ?side2 A7.out).mono ?_); (case side1 => repeat (first | exact (by repeat (first | (with_reducible exact HR149.out) | (with_reducible refine Kd.C_alloc ?_ _) | (with_reducible refine Kd.C_drewN ?_ _) | (with_reducible refine Kd.C_drew ?_) | exact HR149.out)) | (with_reducible refine Kd.C_alloc ?_ _) | (with_reducible refine Kd.C_drewN ?_ _) | (with_reducible refine Kd.C_drew ?_))); (case side2 => exact HC149.out); rintro e w' ⟨rfl, ⟨nd, rfl⟩⟩; refine ⟨_, rfl, ?_⟩) | ((with_reducible refine gate_builtin (b := .append) (xs := #[.tmp 21, .tmp 23]) rfl ?_); at_builtin; refine Kd.R_append (Kd.int .i64) (w0 := w) w.heap.size rfl (.tmp 21) (.tmp 23) 75 3 (.int .i64 0) 8 rfl Tryd.underlying75 info3 rfl (by decide) (by omega) u4 x4_1 t150 [.int .i64 t150] (fun _ => True) (fun _ => False) rfl rfl ?aP (fun _ hk => hk.elim) ?aF ?aO ?aB ?aS ?aL ?_; (case aP => exact rfl); (case aB => exact (by repeat (first | (with_reducible first | exact HB.out | apply below_alloc | apply pw_below_drewN | apply below_drew1) | exact HB.out))); (case aF => exact (fun _ _ => trivial)); (case aO => exact (by (with_reducible repeat (first | apply Kd.R_alloc | apply Kd.R_drewN | apply Kd.R_drew)); exact HO_4.out)); (case aS => exact (below_size (by repeat (first | (with_reducible first | exact HB.out | apply below_alloc | apply pw_below_drewN | apply below_drew1) | exact HB.out)))); (case aL => have := LMc8.out; first | omega | (simp only [ByteArray.size_append]; simp only [ByteArray.size, List.size_toArray, List.length_cons, List.length_nil] at this ⊢; omega)); intro v153 w11 ho hb hg hat; rw [← Ny152.out] at ho; have n0_ := Aside0.mk (Kd.R_over' (by (with_reducible repeat (first | apply Kd.R_alloc | apply Kd.R_drewN | apply Kd.R_drew)); exact HO_3.out) (Kd.R_typed (by (with_reducible repeat (first | apply Kd.R_alloc | apply Kd.R_drewN | apply Kd.R_drew)); exact HO_4.out)) (by decide) hg); have n1_ := Aside0.mk (hb); have n2_ := Aside0.mk ((show Kd.C (Kd.int .u8) w11 A10 y146.length y146 from by rw [Ny146.out, KA10.out]; exact Kd.C_drop (m := (x5_1 : Int).toNat) (c := co9) ((Kd.R_reads' (Kd.R_over' (by (with_reducible repeat (first | apply Kd.R_alloc | apply Kd.R_drewN | apply Kd.R_drew)); exact HO_3.out) (Kd.R_typed (by (with_reducible repeat (first | apply Kd.R_alloc | apply Kd.R_drewN | apply Kd.R_drew)); exact HO_4.out)) (by decide) hg)).2.2) KL10.out ((Kd.R_reads' (Kd.R_over' (by (with_reducible repeat (first | apply Kd.R_alloc | apply Kd.R_drewN | apply Kd.R_drew)); exact HO_3.out) (Kd.R_typed (by (with_reducible repeat (first | apply Kd.R_alloc | apply Kd.R_drewN | apply Kd.R_drew)); exact HO_4.out)) (by decide) hg)).2.1))); have n3_ := Aside0.mk (ho); clear HO_3; clear HB; clear HR149; clear HO_4; have HO_3 := n0_; have HB := n1_; have HR149 := n2_; have HO154 := n3_; clear n0_ n1_ n2_ n3_; clear ho hb hg hat))
              go_roundg k1
              case measure => have := HK1.out; omega
              case rel => exact ⟨(y152), (wrap64 (x5_1 + t151)), (by first | rfl | (simp; done) | (simp [*]; done)), H', ⟨by have := HK1.out; omega⟩, ⟨by (with_reducible repeat (first | apply Kd.R_alloc | apply Kd.R_drewN | apply Kd.R_drew)); exact HO_3.out⟩, ⟨by (with_reducible repeat (first | apply Kd.R_alloc | apply Kd.R_drewN | apply Kd.R_drew)); exact HO154.out⟩, ⟨by repeat (first | (with_reducible first | exact HB.out | apply below_alloc | apply pw_below_drewN | apply below_drew1) | exact HB.out)⟩⟩
            · rw [if_neg c8] at H
              exact absurd H (by simp)
          · rw [if_neg c6] at H
            exact absurd H (by simp)
        · rw [if_neg c5] at H
          exact absurd H (by simp)
      · rw [if_neg c4] at H
        have c4b0 : decide (x5_1 < (t143.length : Int)) = false := decide_eq_false c4
        clear c4
        obtain rfl := Option.some.inj H
        obtain ⟨Ao12, co12, eo12⟩ := Kd.R_slice HO_3.out
        subst eo12
        go_wp2
        go_ret
        exact ⟨_, by first | rfl | (simp [errW_none, errW_some] <;> rfl) | (simp [*, errW_none, errW_some] <;> rfl), by (with_reducible repeat (first | apply Kd.R_alloc | apply Kd.R_drewN | apply Kd.R_drew)); exact HO_4.out, by repeat (first | (with_reducible first | exact HB.out | apply below_alloc | apply pw_below_drewN | apply below_drew1) | exact HB.out)⟩
end Go.Proofs.YtdpnnglfaofjeaaDoor.PUtf
namespace Go.Proofs.YtdpnnglfaofjeaaDoor.V
open Go.RowKit Go.Proofs.YtdpnnglfaofjeaaDoorW.PrintWords
set_option linter.unusedVariables false
def matchLen : List (Int × Int) → List Int → Nat
  | s :: t, x :: l => if x < s.1 then 0 else if s.2 < x then 0 else 1 + matchLen t l
  | _, _ => 0
theorem matchLen_le : ∀ t l, matchLen t l ≤ t.length ∧ matchLen t l ≤ l.length
  | [], l => by simp [matchLen]
  | s :: t, [] => by simp [matchLen]
  | s :: t, x :: l => by
    have := matchLen_le t l
    unfold matchLen
    split
    · simp
    split
    · simp
    · simp; omega
def firstM (x : Int) (l : List Int) : Int × Bool × Bool :=
  if x < 128 then (1, true, false) else
  if tailL x = [] then (1, false, false) else
  if matchLen (tailL x) l = (tailL x).length then (1 + ((tailL x).length : Int), true, false) else
  if matchLen (tailL x) l = l.length then (1 + (l.length : Int), false, true) else (1 + (matchLen (tailL x) l : Int), false, false)
theorem rd_succ (x : Int) (l : List Int) (i : Nat) : rd (x :: l) ((i : Int) + 1) = l.getD i 0 := by
  unfold rd
  rw [show ((i : Int) + 1).toNat = i + 1 from by omega]
  simp
theorem firstGo_eq (x : Int) (l : List Int) (t : List (Int × Int)) (ht : t ≠ []) : ∀ (r : List (Int × Int)) (i : Nat), r = t.drop i → i ≤ t.length → i ≤ l.length →
    firstGo (x :: l) t r i = if i + matchLen r (l.drop i) = t.length then (1 + (t.length : Int), true, false) else if i + matchLen r (l.drop i) = l.length then (1 + (l.length : Int), false, true) else (1 + ((i + matchLen r (l.drop i) : Nat) : Int), false, false)
  | [], i, hr, hi, hl => by
    have h1 : i = t.length := by
      have := congrArg List.length hr
      rw [List.length_drop, List.length_nil] at this
      omega
    simp [firstGo, matchLen, h1, ht]
  | s :: r, i, hr, hi, hl => by
    have hlt : i < t.length := by
      have := congrArg List.length hr
      rw [List.length_drop, List.length_cons] at this
      omega
    have hr' : r = t.drop (i + 1) := by
      rw [← List.drop_drop, ← hr]
      simp
    unfold firstGo
    by_cases h1 : i < l.length
    · have hd : l.drop i = l.getD i 0 :: l.drop (i + 1) := by
        rw [List.drop_eq_getElem_cons h1]
        simp [List.getD_eq_getElem?_getD, h1]
      rw [hd, rd_succ]
      have h2 : ¬ (((x :: l).length : Int) ≤ (i : Int) + 1) := by simp; omega
      rw [if_neg h2]
      unfold matchLen
      by_cases h3 : l.getD i 0 < s.1
      · rw [if_pos h3, if_pos h3]
        have e1 : ¬ (i + 0 = t.length) := by omega
        have e2 : ¬ (i + 0 = l.length) := by omega
        rw [if_neg e1, if_neg e2]
        simp; omega
      · rw [if_neg h3, if_neg h3]
        by_cases h4 : s.2 < l.getD i 0
        · rw [if_pos h4, if_pos h4]
          have e1 : ¬ (i + 0 = t.length) := by omega
          have e2 : ¬ (i + 0 = l.length) := by omega
          rw [if_neg e1, if_neg e2]
          simp; omega
        · rw [if_neg h4, if_neg h4, firstGo_eq x l t ht r (i + 1) hr' (by omega) (by omega)]
          rw [show i + 1 + matchLen r (l.drop (i + 1)) = i + (1 + matchLen r (l.drop (i + 1))) from by omega]
    · have h2 : ((x :: l).length : Int) ≤ (i : Int) + 1 := by simp; omega
      rw [if_pos h2]
      have hd : l.drop i = [] := List.drop_of_length_le (by omega)
      rw [hd]
      have hm : matchLen (s :: r) [] = 0 := by simp [matchLen]
      rw [hm]
      have e1 : ¬ (i + 0 = t.length) := by omega
      have e2 : i + 0 = l.length := by omega
      rw [if_neg e1, if_pos e2]
      simp; omega
theorem firstL_cons (x : Int) (l : List Int) : firstL (x :: l) = firstM x l := by
  have h0 : rd (x :: l) 0 = x := by simp [rd]
  unfold firstL firstM
  rw [h0]
  by_cases h1 : x < 128
  · rw [if_pos h1, if_pos h1]
  · rw [if_neg h1, if_neg h1]
    by_cases h2 : tailL x = []
    · rw [if_pos h2, h2]
      simp [firstGo]
    · rw [if_neg h2, firstGo_eq x l (tailL x) h2 (tailL x) 0 (by simp) (by omega) (by omega)]
      simp
theorem matchLen_append : ∀ t l l', matchLen t l < l.length ∨ matchLen t l = t.length → matchLen t (l ++ l') = matchLen t l
  | [], l, l', _ => by simp [matchLen]
  | s :: t, [], l', h => by simp [matchLen] at h
  | s :: t, x :: l, l', h => by
    unfold matchLen at h ⊢
    simp only [List.cons_append]
    split
    · rfl
    split
    · rfl
    · rename_i h1 h2
      rw [if_neg h1, if_neg h2] at h
      rw [matchLen_append t l l' (by simp at h; omega)]
theorem firstM_append (x : Int) (l l' : List Int) (h : (firstM x l).2.2 = false) : firstM x (l ++ l') = firstM x l := by
  have hle := matchLen_le (tailL x) l
  unfold firstM at h ⊢
  by_cases h1 : x < 128
  · rw [if_pos h1, if_pos h1]
  · rw [if_neg h1] at h ⊢
    rw [if_neg h1]
    by_cases h2 : tailL x = []
    · rw [if_pos h2, if_pos h2]
    · rw [if_neg h2] at h ⊢
      rw [if_neg h2]
      by_cases h3 : matchLen (tailL x) l = (tailL x).length
      · rw [matchLen_append _ _ _ (.inr h3)]
        simp [h3]
      · rw [if_neg h3] at h
        by_cases h4 : matchLen (tailL x) l = l.length
        · rw [if_pos h4] at h
          cases h
        · rw [matchLen_append _ _ _ (.inl (by omega)), if_neg h3, if_neg h3, if_neg h4, if_neg (by rw [List.length_append]; omega)]
theorem firstL_append (l l' : List Int) (hp : 0 < l.length) (h : (firstL l).2.2 = false) : firstL (l ++ l') = firstL l := by
  cases l with
  | nil => simp at hp
  | cons x l =>
    rw [firstL_cons] at h
    rw [List.cons_append, firstL_cons, firstL_cons, firstM_append x l l' h]
theorem run_append (a b : List Int) : run (a ++ b) = ((run a).1 ++ (run ((run a).2 ++ b)).1, (run ((run a).2 ++ b)).2) := by
  induction hn : a.length using Nat.strongRecOn generalizing a with
  | ind n ih =>
    by_cases hp : 0 < a.length
    · have hp' : 0 < (a ++ b).length := by rw [List.length_append]; omega
      have h1 := firstL_pos a hp
      have h2 := firstL_le a hp
      cases ho : (firstL a).2.2
      · have hf := firstL_append a b hp ho
        have hd : (a ++ b).drop (firstL a).1.toNat = a.drop (firstL a).1.toNat ++ b := List.drop_append_of_le_length (by omega)
        have ht : (a ++ b).take (firstL a).1.toNat = a.take (firstL a).1.toNat := List.take_append_of_le_length (by omega)
        have hi := ih (a.drop (firstL a).1.toNat).length (by rw [List.length_drop]; omega) _ rfl
        cases hg : (firstL a).2.1
        · rw [run_bad a hp ho hg, run_bad (a ++ b) hp' (by rw [hf]; exact ho) (by rw [hf]; exact hg), hf, hd, hi]
          simp [List.append_assoc]
        · rw [run_good a hp ho hg, run_good (a ++ b) hp' (by rw [hf]; exact ho) (by rw [hf]; exact hg), hf, hd, ht, hi]
          simp [List.append_assoc]
      · rw [run_open a hp ho]
        simp
    · have : a = [] := List.eq_nil_of_length_eq_zero (by omega)
      subst this
      rw [run_nil]
      simp
theorem run_idem (a : List Int) : run (run a).2 = ([], (run a).2) := by
  induction hn : a.length using Nat.strongRecOn generalizing a with
  | ind n ih =>
    by_cases hp : 0 < a.length
    · have h1 := firstL_pos a hp
      have hi := ih (a.drop (firstL a).1.toNat).length (by rw [List.length_drop]; omega) _ rfl
      cases ho : (firstL a).2.2
      · cases hg : (firstL a).2.1
        · rw [run_bad a hp ho hg]; exact hi
        · rw [run_good a hp ho hg]; exact hi
      · rw [run_open a hp ho]
        exact run_open a hp ho
    · have : a = [] := List.eq_nil_of_length_eq_zero (by omega)
      subst this
      rw [run_nil, run_nil]
theorem matchLen_take : ∀ t l j, matchLen t (l.take j) = min (matchLen t l) j
  | [], l, j => by simp [matchLen]
  | s :: t, [], j => by simp [matchLen]
  | s :: t, x :: l, 0 => by simp [matchLen]
  | s :: t, x :: l, j + 1 => by
    simp only [List.take_succ_cons]
    unfold matchLen
    split
    · simp
    split
    · simp
    · rw [matchLen_take t l j]
      omega
theorem firstM_take (x : Int) (l : List Int) (j : Nat) (hj : j ≤ l.length) (hn : (firstM x l).1 ≤ 1 + (j : Int)) (ho : (firstM x l).2.2 = false) :
    firstM x (l.take j) = firstM x l ∨ ((firstM x l).2.1 = false ∧ (firstM x l).1 = 1 + (j : Int) ∧ firstM x (l.take j) = (1 + (j : Int), false, true)) := by
  have hle := matchLen_le (tailL x) l
  unfold firstM at hn ho ⊢
  by_cases h1 : x < 128
  · rw [if_pos h1, if_pos h1]; exact .inl rfl
  · rw [if_neg h1] at hn ho ⊢
    rw [if_neg h1]
    by_cases h2 : tailL x = []
    · rw [if_pos h2, if_pos h2]; exact .inl rfl
    · rw [if_neg h2] at hn ho ⊢
      rw [if_neg h2, matchLen_take]
      have hl : (l.take j).length = j := by rw [List.length_take]; omega
      by_cases h3 : matchLen (tailL x) l = (tailL x).length
      · rw [if_pos h3] at hn
        simp only at hn
        rw [if_pos h3, if_pos (by omega)]
        exact .inl rfl
      · rw [if_neg h3] at hn ho ⊢
        by_cases h4 : matchLen (tailL x) l = l.length
        · rw [if_pos h4] at ho
          cases ho
        · rw [if_neg h4] at hn ⊢
          simp only at hn
          have hm : min (matchLen (tailL x) l) j = matchLen (tailL x) l := by omega
          rw [hm, if_neg h3, hl]
          by_cases h5 : matchLen (tailL x) l = j
          · rw [if_pos h5]
            exact .inr ⟨rfl, by simp only; omega, rfl⟩
          · rw [if_neg h5]
            exact .inl rfl
theorem firstL_take (a : List Int) (k : Nat) (hk : k ≤ a.length) (h0 : 0 < a.length) (hn : (firstL a).1 ≤ k) (ho : (firstL a).2.2 = false) :
    firstL (a.take k) = firstL a ∨ ((firstL a).2.1 = false ∧ (firstL a).1 = k ∧ firstL (a.take k) = ((k : Int), false, true)) := by
  cases a with
  | nil => simp at h0
  | cons x l =>
    have hp := firstL_pos (x :: l) h0
    rw [firstL_cons] at hn ho hp ⊢
    obtain ⟨j, rfl⟩ : ∃ j, k = j + 1 := ⟨k - 1, by omega⟩
    rw [List.take_succ_cons, firstL_cons]
    have h := firstM_take x l j (by simpa using hk) (by omega) ho
    have e : ((j + 1 : Nat) : Int) = 1 + (j : Int) := by omega
    rw [e]
    exact h
theorem clean_nil : clean [] = [] := by simp [clean, run_nil, rest3]
theorem clean_open (l : List Int) (h : 0 < l.length) (ho : (firstL l).2.2 = true) : clean l = fffd := by simp [clean, run_open l h ho, rest3, h]
theorem clean_good (l : List Int) (h : 0 < l.length) (ho : (firstL l).2.2 = false) (hg : (firstL l).2.1 = true) : clean l = l.take (firstL l).1.toNat ++ clean (l.drop (firstL l).1.toNat) := by
  simp [clean, run_good l h ho hg, List.append_assoc]
theorem clean_bad (l : List Int) (h : 0 < l.length) (ho : (firstL l).2.2 = false) (hg : (firstL l).2.1 = false) : clean l = fffd ++ clean (l.drop (firstL l).1.toNat) := by
  simp [clean, run_bad l h ho hg, List.append_assoc]
theorem run_rest (a : List Int) : (run a).2 = a.drop (a.length - (run a).2.length) := by
  induction hn : a.length using Nat.strongRecOn generalizing a with
  | ind n ih =>
    subst hn
    by_cases hp : 0 < a.length
    · have h1 := firstL_pos a hp
      have h2 := firstL_le a hp
      have hlen := (run_len (a.drop (firstL a).1.toNat)).2
      have hi := ih (a.drop (firstL a).1.toNat).length (by rw [List.length_drop]; omega) _ rfl
      have key : (run (a.drop (firstL a).1.toNat)).2 = a.drop (a.length - (run (a.drop (firstL a).1.toNat)).2.length) := by
        rw [List.length_drop] at hlen
        rw [List.length_drop, List.drop_drop, show (firstL a).1.toNat + (a.length - (firstL a).1.toNat - (run (a.drop (firstL a).1.toNat)).2.length) = a.length - (run (a.drop (firstL a).1.toNat)).2.length from by omega] at hi
        exact hi
      cases ho : (firstL a).2.2
      · cases hg : (firstL a).2.1
        · rw [run_bad a hp ho hg]; exact key
        · rw [run_good a hp ho hg]; exact key
      · rw [run_open a hp ho]; simp
    · have : a = [] := List.eq_nil_of_length_eq_zero (by omega)
      subst this
      rw [run_nil]; rfl
theorem clean_sure (a : List Int) : clean (a.take (a.length - (run a).2.length)) = (run a).1 := by
  induction hn : a.length using Nat.strongRecOn generalizing a with
  | ind n ih =>
    subst hn
    by_cases hp : 0 < a.length
    · have h1 := firstL_pos a hp
      have h2 := firstL_le a hp
      cases ho : (firstL a).2.2
      · have hlen := (run_len (a.drop (firstL a).1.toNat)).2
        rw [List.length_drop] at hlen
        have hi := ih (a.drop (firstL a).1.toNat).length (by rw [List.length_drop]; omega) _ rfl
        rw [List.length_drop] at hi
        have hr2 : (run a).2 = (run (a.drop (firstL a).1.toNat)).2 := by
          cases hg : (firstL a).2.1
          · rw [run_bad a hp ho hg]
          · rw [run_good a hp ho hg]
        rw [hr2]
        generalize hk : a.length - (run (a.drop (firstL a).1.toNat)).2.length = k at *
        have hk1 : (firstL a).1.toNat ≤ k := by omega
        have hk2 : k ≤ a.length := by omega
        have hkl : (a.take k).length = k := by rw [List.length_take]; omega
        have hdt : (a.take k).drop (firstL a).1.toNat = (a.drop (firstL a).1.toNat).take (k - (firstL a).1.toNat) := by rw [List.drop_take]
        have he : a.length - (firstL a).1.toNat - (run (a.drop (firstL a).1.toNat)).2.length = k - (firstL a).1.toNat := by omega
        rw [he] at hi
        rcases firstL_take a k hk2 hp (by omega) ho with h | ⟨hg, hkn, h⟩
        · cases hg : (firstL a).2.1
          · rw [clean_bad (a.take k) (by omega) (by rw [h]; exact ho) (by rw [h]; exact hg), h, hdt, hi, run_bad a hp ho hg]
          · rw [clean_good (a.take k) (by omega) (by rw [h]; exact ho) (by rw [h]; exact hg), h, hdt, hi, run_good a hp ho hg, List.take_take]
            rw [show min (firstL a).1.toNat k = (firstL a).1.toNat from by omega]
        · rw [clean_open (a.take k) (by omega) (by rw [h]), run_bad a hp ho hg]
          rw [show k - (firstL a).1.toNat = 0 from by omega, List.take_zero, clean_nil] at hi
          rw [← hi]
          simp
      · rw [run_open a hp ho]
        simp [clean_nil]
    · have : a = [] := List.eq_nil_of_length_eq_zero (by omega)
      subst this
      rw [run_nil]
      exact clean_nil
end Go.Proofs.YtdpnnglfaofjeaaDoor.V
namespace Go.Proofs.YtdpnnglfaofjeaaDoor.V
open Go.RowKit Go.Proofs.YtdpnnglfaofjeaaDoorW.PrintWords
set_option linter.unusedVariables false
def chars (l : List Int) : List (List Int) :=
  if h : 0 < l.length then
    if (firstL l).2.2 = true then [fffd]
    else (if (firstL l).2.1 = true then l.take (firstL l).1.toNat else fffd) :: chars (l.drop (firstL l).1.toNat)
  else []
termination_by l.length
decreasing_by
  all_goals
    have := firstL_pos l h
    rw [List.length_drop]
    omega
theorem chars_nil : chars [] = [] := by unfold chars; simp
theorem chars_open (l : List Int) (h : 0 < l.length) (ho : (firstL l).2.2 = true) : chars l = [fffd] := by rw [chars, dif_pos h, if_pos ho]
theorem chars_good (l : List Int) (h : 0 < l.length) (ho : (firstL l).2.2 = false) (hg : (firstL l).2.1 = true) : chars l = l.take (firstL l).1.toNat :: chars (l.drop (firstL l).1.toNat) := by
  rw [chars, dif_pos h, if_neg (by simp [ho]), if_pos hg]
theorem chars_bad (l : List Int) (h : 0 < l.length) (ho : (firstL l).2.2 = false) (hg : (firstL l).2.1 = false) : chars l = fffd :: chars (l.drop (firstL l).1.toNat) := by
  rw [chars, dif_pos h, if_neg (by simp [ho]), if_neg (by simp [hg])]
theorem clean_chars (l : List Int) : clean l = (chars l).flatten := by
  induction hn : l.length using Nat.strongRecOn generalizing l with
  | ind n ih =>
    subst hn
    by_cases hp : 0 < l.length
    · have h1 := firstL_pos l hp
      have hi := ih (l.drop (firstL l).1.toNat).length (by rw [List.length_drop]; omega) _ rfl
      cases ho : (firstL l).2.2
      · cases hg : (firstL l).2.1
        · rw [clean_bad l hp ho hg, chars_bad l hp ho hg, hi]; rfl
        · rw [clean_good l hp ho hg, chars_good l hp ho hg, hi]; rfl
      · rw [clean_open l hp ho, chars_open l hp ho]; rfl
    · have : l = [] := List.eq_nil_of_length_eq_zero (by omega)
      subst this
      rw [clean_nil, chars_nil]; rfl
def IsChar (ch : List Int) : Prop := 0 < ch.length ∧ ∀ t, firstL (ch ++ t) = ((ch.length : Int), true, false)
theorem isChar_take (l : List Int) (h : 0 < l.length) (ho : (firstL l).2.2 = false) (hg : (firstL l).2.1 = true) : IsChar (l.take (firstL l).1.toNat) := by
  have h1 := firstL_pos l h
  have h2 := firstL_le l h
  have hlt : (l.take (firstL l).1.toNat).length = (firstL l).1.toNat := by rw [List.length_take]; omega
  have hf : firstL (l.take (firstL l).1.toNat) = firstL l := by
    rcases firstL_take l (firstL l).1.toNat (by omega) h (by omega) ho with h | ⟨hb, _⟩
    · exact h
    · rw [hg] at hb; cases hb
  refine ⟨by omega, fun t => ?_⟩
  rw [firstL_append _ t (by omega) (by rw [hf]; exact ho), hf, hlt]
  have e : ((firstL l).1.toNat : Int) = (firstL l).1 := by omega
  rw [e, ← hg, ← ho]
theorem isChar_fffd : IsChar fffd := by
  refine ⟨by decide, fun t => ?_⟩
  show firstL (239 :: 191 :: 189 :: t) = _
  rw [firstL_cons]
  simp [firstM, tailL, matchLen, fffd]
theorem isChar_chars (l : List Int) : ∀ ch ∈ chars l, IsChar ch := by
  induction hn : l.length using Nat.strongRecOn generalizing l with
  | ind n ih =>
    subst hn
    by_cases hp : 0 < l.length
    · have h1 := firstL_pos l hp
      have hi := ih (l.drop (firstL l).1.toNat).length (by rw [List.length_drop]; omega) _ rfl
      intro ch hc
      cases ho : (firstL l).2.2
      · cases hg : (firstL l).2.1
        · rw [chars_bad l hp ho hg] at hc
          rcases List.mem_cons.1 hc with rfl | hc
          · exact isChar_fffd
          · exact hi ch hc
        · rw [chars_good l hp ho hg] at hc
          rcases List.mem_cons.1 hc with rfl | hc
          · exact isChar_take l hp ho hg
          · exact hi ch hc
      · rw [chars_open l hp ho] at hc
        rw [List.mem_singleton.1 hc]
        exact isChar_fffd
    · have : l = [] := List.eq_nil_of_length_eq_zero (by omega)
      subst this
      rw [chars_nil]
      intro ch hc
      simp at hc
theorem chars_cons (ch t : List Int) (h : IsChar ch) : chars (ch ++ t) = ch :: chars t := by
  have hf := h.2 t
  have hp : 0 < (ch ++ t).length := by have := h.1; rw [List.length_append]; omega
  rw [chars_good _ hp (by rw [hf]) (by rw [hf]), hf]
  simp
theorem chars_valid (chs : List (List Int)) (t : List Int) (h : ∀ ch ∈ chs, IsChar ch) : chars (chs.flatten ++ t) = chs ++ chars t := by
  induction chs with
  | nil => simp
  | cons ch chs ih =>
    simp only [List.flatten_cons, List.append_assoc, List.cons_append]
    rw [chars_cons _ _ (h ch List.mem_cons_self), ih (fun c hc => h c (List.mem_cons_of_mem _ hc))]
theorem chars_clean (l t : List Int) : chars (clean l ++ t) = chars l ++ chars t := by rw [clean_chars, chars_valid _ _ (isChar_chars l)]
theorem clean_clean (l t : List Int) : clean (clean l ++ t) = clean l ++ clean t := by
  rw [clean_chars (clean l ++ t), chars_clean, List.flatten_append, ← clean_chars, ← clean_chars]
theorem clean_idem (l : List Int) : clean (clean l) = clean l := by
  have h := clean_clean l []
  rw [List.append_nil, clean_nil, List.append_nil] at h
  exact h
def IsB (l : List Int) : Prop := ∀ x ∈ l, 0 ≤ x ∧ x ≤ 255
theorem matchLen_all : ∀ t l, matchLen t l = t.length → ∀ (i : Nat) (s : Int × Int) (x : Int), t[i]? = some s → l[i]? = some x → s.1 ≤ x ∧ x ≤ s.2
  | [], l, _, i, s, x, hs, _ => by simp at hs
  | a :: t, [], h, i, s, x, hs, hx => by simp at hx
  | a :: t, b :: l, h, i, s, x, hs, hx => by
    have hle := (matchLen_le t l).1
    unfold matchLen at h
    split at h
    · simp at h
    split at h
    · simp at h
    · rename_i h1 h2
      cases i with
      | zero =>
        simp at hs hx
        subst hs hx
        omega
      | succ i =>
        simp only [List.length_cons] at h
        exact matchLen_all t l (by omega) i s x (by simpa using hs) (by simpa using hx)
def Form (ch : List Int) : Prop :=
  (∃ x, ch = [x] ∧ 0 ≤ x ∧ x < 128) ∨
  (∃ x y, ch = [x, y] ∧ 194 ≤ x ∧ x ≤ 223 ∧ 128 ≤ y ∧ y ≤ 191) ∨
  (∃ x y z, ch = [x, y, z] ∧ 224 ≤ x ∧ x ≤ 239 ∧ 128 ≤ y ∧ y ≤ 191 ∧ 128 ≤ z ∧ z ≤ 191 ∧ (x = 224 → 160 ≤ y) ∧ (x = 237 → y ≤ 159)) ∨
  (∃ x y z u, ch = [x, y, z, u] ∧ 240 ≤ x ∧ x ≤ 244 ∧ 128 ≤ y ∧ y ≤ 191 ∧ 128 ≤ z ∧ z ≤ 191 ∧ 128 ≤ u ∧ u ≤ 191 ∧ (x = 240 → 144 ≤ y) ∧ (x = 244 → y ≤ 143))
theorem form_of (ch : List Int) (h : IsChar ch) (hb : IsB ch) : Form ch := by
  have h1 := h.2 []
  rw [List.append_nil] at h1
  cases ch with
  | nil => have := h.1; simp at this
  | cons x l =>
    rw [firstL_cons] at h1
    unfold firstM at h1
    have hx := hb x List.mem_cons_self
    by_cases hx1 : x < 128
    · rw [if_pos hx1] at h1
      simp only [Prod.mk.injEq, List.length_cons, and_true] at h1
      have : l = [] := List.eq_nil_of_length_eq_zero (by omega)
      subst this
      exact .inl ⟨x, rfl, hx.1, hx1⟩
    · rw [if_neg hx1] at h1
      by_cases h2 : tailL x = []
      · rw [if_pos h2] at h1
        simp at h1
      · rw [if_neg h2] at h1
        by_cases h3 : matchLen (tailL x) l = (tailL x).length
        · rw [if_pos h3] at h1
          simp only [Prod.mk.injEq, List.length_cons, and_true] at h1
          have hm := matchLen_all _ _ h3
          have hll : l.length = (tailL x).length := by omega
          clear h1 h3 h hb
          unfold tailL at hm hll
          split at hm
          · rename_i a; rw [if_pos a] at hll
            match l, hll with
            | [y], _ => have h0 := hm 0 _ y rfl rfl; simp only at h0; exact .inr (.inl ⟨x, y, rfl, by omega⟩)
          split at hm
          · rename_i a b; rw [if_neg a, if_pos b] at hll
            match l, hll with
            | [y, z], _ => have h0 := hm 0 _ y rfl rfl; have h1 := hm 1 _ z rfl rfl; simp only at h0 h1; exact .inr (.inr (.inl ⟨x, y, z, rfl, by omega⟩))
          split at hm
          · rename_i a b c; rw [if_neg a, if_neg b, if_pos c] at hll
            match l, hll with
            | [y, z], _ => have h0 := hm 0 _ y rfl rfl; have h1 := hm 1 _ z rfl rfl; simp only at h0 h1; exact .inr (.inr (.inl ⟨x, y, z, rfl, by omega⟩))
          split at hm
          · rename_i a b c d; rw [if_neg a, if_neg b, if_neg c, if_pos d] at hll
            match l, hll with
            | [y, z], _ => have h0 := hm 0 _ y rfl rfl; have h1 := hm 1 _ z rfl rfl; simp only at h0 h1; exact .inr (.inr (.inl ⟨x, y, z, rfl, by omega⟩))
          split at hm
          · rename_i a b c d e; rw [if_neg a, if_neg b, if_neg c, if_neg d, if_pos e] at hll
            match l, hll with
            | [y, z, u], _ => have h0 := hm 0 _ y rfl rfl; have h1 := hm 1 _ z rfl rfl; have h2 := hm 2 _ u rfl rfl; simp only at h0 h1 h2; exact .inr (.inr (.inr ⟨x, y, z, u, rfl, by omega⟩))
          split at hm
          · rename_i a b c d e f; rw [if_neg a, if_neg b, if_neg c, if_neg d, if_neg e, if_pos f] at hll
            match l, hll with
            | [y, z, u], _ => have h0 := hm 0 _ y rfl rfl; have h1 := hm 1 _ z rfl rfl; have h2 := hm 2 _ u rfl rfl; simp only at h0 h1 h2; exact .inr (.inr (.inr ⟨x, y, z, u, rfl, by omega⟩))
          split at hm
          · rename_i a b c d e f g; rw [if_neg a, if_neg b, if_neg c, if_neg d, if_neg e, if_neg f, if_pos g] at hll
            match l, hll with
            | [y, z, u], _ => have h0 := hm 0 _ y rfl rfl; have h1 := hm 1 _ z rfl rfl; have h2 := hm 2 _ u rfl rfl; simp only at h0 h1 h2; exact .inr (.inr (.inr ⟨x, y, z, u, rfl, by omega⟩))
          · rename_i a b c d e f g
            exact absurd (by unfold tailL; rw [if_neg a, if_neg b, if_neg c, if_neg d, if_neg e, if_neg f, if_neg g]) h2
        · rw [if_neg h3] at h1
          split at h1 <;> simp at h1
theorem isB_fffd : IsB fffd := by intro x hx; simp [fffd] at hx; omega
theorem isB_clean (l : List Int) (h : IsB l) : IsB (clean l) ∧ ∀ ch ∈ chars l, IsB ch := by
  induction hn : l.length using Nat.strongRecOn generalizing l with
  | ind n ih =>
    subst hn
    by_cases hp : 0 < l.length
    · have h1 := firstL_pos l hp
      have hi := ih (l.drop (firstL l).1.toNat).length (by rw [List.length_drop]; omega) _ (fun x hx => h x (List.mem_of_mem_drop hx)) rfl
      have ht : IsB (l.take (firstL l).1.toNat) := fun x hx => h x (List.mem_of_mem_take hx)
      have app : ∀ {a b : List Int}, IsB a → IsB b → IsB (a ++ b) := fun ha hb x hx => (List.mem_append.1 hx).elim (ha x) (hb x)
      cases ho : (firstL l).2.2
      · cases hg : (firstL l).2.1
        · rw [clean_bad l hp ho hg, chars_bad l hp ho hg]
          exact ⟨app isB_fffd hi.1, fun ch hc => (List.mem_cons.1 hc).elim (fun e => e ▸ isB_fffd) (hi.2 ch)⟩
        · rw [clean_good l hp ho hg, chars_good l hp ho hg]
          exact ⟨app ht hi.1, fun ch hc => (List.mem_cons.1 hc).elim (fun e => e ▸ ht) (hi.2 ch)⟩
      · rw [clean_open l hp ho, chars_open l hp ho]
        exact ⟨isB_fffd, fun ch hc => by rw [List.mem_singleton.1 hc]; exact isB_fffd⟩
    · have : l = [] := List.eq_nil_of_length_eq_zero (by omega)
      subst this
      rw [clean_nil, chars_nil]
      exact ⟨fun x hx => by simp at hx, fun x hx => by simp at hx⟩
theorem form_chars (l : List Int) (h : IsB l) : ∀ ch ∈ chars l, Form ch := fun ch hc => form_of ch (isChar_chars l ch hc) ((isB_clean l h).2 ch hc)
def runeOf : List Int → Int
  | [x] => x
  | [x, y] => x % 32 * 64 + y % 64
  | [x, y, z] => x % 16 * 4096 + y % 64 * 64 + z % 64
  | [x, y, z, u] => x % 8 * 262144 + y % 64 * 4096 + z % 64 * 64 + u % 64
  | _ => 0
theorem get_str (l : List Int) (i : Nat) (x : Int) (h : l[i]? = some x) (hx : 0 ≤ x ∧ x ≤ 255) : ((strOfNums l).get! i).toNat = x.toNat := by
  have hi : i < l.length := (List.getElem?_eq_some_iff.1 h).1
  have h2 : (strOfNums l).data.toList[i]? = some (UInt8.ofNat x.toNat) := by rw [strOfNums_data, List.getElem?_map, h]; rfl
  have h3 : (strOfNums l).get! i = UInt8.ofNat x.toNat := by
    show (strOfNums l).data[i]! = _
    rw [Array.getElem!_eq_getD, Array.getD_eq_getD_getElem?, ← Array.getElem?_toList, h2]
    rfl
  rw [h3]
  simp
  omega
theorem str_size (l : List Int) : (strOfNums l).size = l.length := strOfNums_size l
theorem decode_form (a ch t : List Int) (h : Form ch) : Utf8.decode (strOfNums (a ++ ch ++ t)) a.length = ((runeOf ch).toNat, ch.length) := by
  have hsz := str_size (a ++ ch ++ t)
  have get : ∀ (j : Nat) (x : Int), ch[j]? = some x → 0 ≤ x ∧ x ≤ 255 → ((strOfNums (a ++ ch ++ t)).get! (a.length + j)).toNat = x.toNat := fun j x hj hx =>
    get_str _ _ x (by
      have hl : j < ch.length := (List.getElem?_eq_some_iff.1 hj).1
      rw [List.append_assoc, List.getElem?_append_right (by omega), show a.length + j - a.length = j from by omega, List.getElem?_append_left hl]
      exact hj) hx
  generalize strOfNums (a ++ ch ++ t) = s_ at hsz get ⊢
  have hsz' : s_.size = a.length + ch.length + t.length := by rw [hsz]; simp [Nat.add_assoc]
  clear hsz
  rcases h with ⟨x, rfl, h1, h2⟩ | ⟨x, y, rfl, h1, h2, h3, h4⟩ | ⟨x, y, z, rfl, h1, h2, h3, h4, h5, h6, h7, h8⟩ | ⟨x, y, z, u, rfl, h1, h2, h3, h4, h5, h6, h7, h8, h9, h10⟩
  · have g0 := get 0 x rfl (by omega)
    simp only [Utf8.decode, g0, runeOf]
    rw [if_pos (by omega)]
    rfl
  · have g0 := get 0 x rfl (by omega)
    have g1 := get 1 y rfl (by omega)
    have hs : (a.length + 1 < s_.size) := by simp only [List.length_cons, List.length_nil] at hsz'; omega
    simp only [Utf8.decode, g0, g1, runeOf]
    rw [if_neg (by omega)]
    have c1 : (x.toNat / 32 == 6 && (decide (a.length + 1 < s_.size) && y.toNat / 64 == 2)) = true := by simp [hs]; omega
    rw [if_pos c1, if_pos (by omega)]
    simp
    omega
  · have g0 := get 0 x rfl (by omega)
    have g1 := get 1 y rfl (by omega)
    have g2 := get 2 z rfl (by omega)
    have hs1 : (a.length + 1 < s_.size) := by simp only [List.length_cons, List.length_nil] at hsz'; omega
    have hs2 : (a.length + 2 < s_.size) := by simp only [List.length_cons, List.length_nil] at hsz'; omega
    simp only [Utf8.decode, g0, g1, g2, runeOf]
    rw [if_neg (by omega)]
    have c1 : (x.toNat / 32 == 6 && (decide (a.length + 1 < s_.size) && y.toNat / 64 == 2)) = false := by
      have : (x.toNat / 32 == 6) = false := beq_eq_false_iff_ne.2 (by omega)
      rw [this]; rfl
    have c2 : (x.toNat / 16 == 14 && (decide (a.length + 1 < s_.size) && y.toNat / 64 == 2) && (decide (a.length + 2 < s_.size) && z.toNat / 64 == 2)) = true := by simp [hs1, hs2]; omega
    rw [c1, c2]
    have c3 : (decide (x.toNat % 16 * 4096 + y.toNat % 64 * 64 + z.toNat % 64 ≥ 2048) && Utf8.valid ((x.toNat % 16 * 4096 + y.toNat % 64 * 64 + z.toNat % 64 : Nat) : Int)) = true := by
      simp [Utf8.valid]; omega
    rw [if_neg (by decide), if_pos rfl, if_pos c3]
    simp
    omega
  · have g0 := get 0 x rfl (by omega)
    have g1 := get 1 y rfl (by omega)
    have g2 := get 2 z rfl (by omega)
    have g3 := get 3 u rfl (by omega)
    have hs1 : (a.length + 1 < s_.size) := by simp only [List.length_cons, List.length_nil] at hsz'; omega
    have hs2 : (a.length + 2 < s_.size) := by simp only [List.length_cons, List.length_nil] at hsz'; omega
    have hs3 : (a.length + 3 < s_.size) := by simp only [List.length_cons, List.length_nil] at hsz'; omega
    simp only [Utf8.decode, g0, g1, g2, g3, runeOf]
    rw [if_neg (by omega)]
    have e1 : (x.toNat / 32 == 6) = false := beq_eq_false_iff_ne.2 (by omega)
    have e2 : (x.toNat / 16 == 14) = false := beq_eq_false_iff_ne.2 (by omega)
    have c2 : (x.toNat / 8 == 30 && (decide (a.length + 1 < s_.size) && y.toNat / 64 == 2) && (decide (a.length + 2 < s_.size) && z.toNat / 64 == 2) && (decide (a.length + 3 < s_.size) && u.toNat / 64 == 2)) = true := by simp [hs1, hs2, hs3]; omega
    rw [e1, e2, c2]
    have c3 : (decide (x.toNat % 8 * 262144 + y.toNat % 64 * 4096 + z.toNat % 64 * 64 + u.toNat % 64 ≥ 65536) && Utf8.valid ((x.toNat % 8 * 262144 + y.toNat % 64 * 4096 + z.toNat % 64 * 64 + u.toNat % 64 : Nat) : Int)) = true := by
      simp [Utf8.valid]; omega
    simp only [Bool.false_and, Bool.false_eq_true, if_false, if_true]
    rw [if_pos c3]
    simp
    omega
theorem form_pos {ch : List Int} (h : Form ch) : 0 < ch.length := by
  rcases h with ⟨x, rfl, _⟩ | ⟨x, y, rfl, _⟩ | ⟨x, y, z, rfl, _⟩ | ⟨x, y, z, u, rfl, _⟩ <;> simp
end Go.Proofs.YtdpnnglfaofjeaaDoor.V
namespace Go.Proofs.YtdpnnglfaofjeaaDoor.PUtf
open Go.RowKit Go.Proofs.YtdpnnglfaofjeaaDoorW.PrintWords Go.Proofs.YtdpnnglfaofjeaaDoorW.PrintLast Go.Proofs.YtdpnnglfaofjeaaDoorW.PrintMore
open V
set_option linter.unusedVariables false
set_option linter.unusedSimpArgs false
set_option maxRecDepth 100000
theorem clean_len (l : List Int) : (clean l).length ≤ 3 * l.length := by
  have h := run_len l
  unfold clean rest3
  rw [List.length_append]
  split <;> simp [fffd] <;> omega
theorem wrap_small {x : Int} (h : -9223372036854775808 ≤ x) (h2 : x ≤ 9223372036854775807) : wrap64 x = x := by unfold wrap64; omega
def needL (b : Int) : Int := if b < 128 then 1 else if b < 194 then 0 else if 244 < b then 0 else if b < 224 then 2 else if b < 240 then 3 else 4
theorem need_ev (b : Int) : Ev (fun k => bobbinref01_Need.f k b) (needL b) := by
  refine ⟨1, fun k hk => ?_⟩
  obtain ⟨k, rfl⟩ : ∃ m, k = m + 1 := ⟨k - 1, by omega⟩
  show bobbinref01_Need.f (k + 1) b = _
  simp only [bobbinref01_Need.f, bobbinref01_Need.j0, needL, if_true, decide_eq_true_eq]
  repeat' split
  all_goals first | rfl | (exfalso; omega) | (congr 1; omega)
theorem need_tail (b : Int) (h : 128 ≤ b) : needL b = if tailL b = [] then 0 else 1 + ((tailL b).length : Int) := by
  unfold needL tailL
  rw [if_neg (by omega)]
  repeat' split
  all_goals first | (simp at *; done) | (simp; done) | omega | (exfalso; omega)
def withinL (b : Int) (i : Int) (c : Int) : Bool :=
  if needL b ≤ i ∨ c < 128 ∨ 191 < c then false else if 1 < i then true
  else !(decide (b = 224 ∧ c < 160 ∨ b = 237 ∧ 159 < c ∨ b = 240 ∧ c < 144 ∨ b = 244 ∧ 143 < c))
theorem within_ev (b i c : Int) : Ev (fun k => bobbinref01_within.f k b i c) (withinL b i c) := by
  obtain ⟨K, hK⟩ := need_ev b
  refine ⟨K + 1, fun k hk => ?_⟩
  obtain ⟨k, rfl⟩ : ∃ m, k = m + 1 := ⟨k - 1, by omega⟩
  have hn : bobbinref01_Need.f (k + 1) b = some (needL b) := hK _ (by omega)
  show bobbinref01_within.f (k + 1) b i c = _
  simp only [bobbinref01_within.f, hn, Option.bind_some, bobbinref01_within.j0, withinL, if_true, decide_eq_true_eq]
  by_cases h1 : needL b ≤ i
  · rw [if_pos h1, if_pos (.inl h1)]
  · rw [if_neg (show ¬ i ≥ needL b from h1)]
    by_cases h2 : c < 128
    · rw [if_pos h2, if_pos (.inr (.inl h2))]
    · rw [if_neg h2]
      by_cases h3 : 191 < c
      · rw [if_pos h3, if_pos (.inr (.inr h3))]
      · rw [if_neg h3, if_neg (show ¬ (needL b ≤ i ∨ c < 128 ∨ 191 < c) from by omega)]
        by_cases h4 : 1 < i
        · rw [if_pos h4, if_pos h4]
        · rw [if_neg h4, if_neg h4]
          by_cases a1 : b = 224
          · subst a1; by_cases hc : c < 160 <;> simp [hc] <;> omega
          by_cases a2 : b = 237
          · subst a2; by_cases hc : 159 < c <;> simp [hc] <;> omega
          by_cases a3 : b = 240
          · subst a3; by_cases hc : c < 144 <;> simp [hc] <;> omega
          by_cases a4 : b = 244
          · subst a4; simp
          simp [a1, a2, a3, a4]
theorem within_span (x : Int) (i : Nat) (s : Int × Int) (c : Int) (h : (tailL x)[i]? = some s) : withinL x ((i : Int) + 1) c = (!decide (c < s.1) && !decide (s.2 < c)) := by
  have hx : 128 ≤ x := by
    rcases Int.lt_or_le x 128 with h1 | h1
    · have : tailL x = [] := by unfold tailL; repeat' (rw [if_neg (by omega)])
      rw [this] at h; simp at h
    · exact h1
  have hi : i < (tailL x).length := (List.getElem?_eq_some_iff.1 h).1
  have hn := need_tail x hx
  have hne : tailL x ≠ [] := by intro e; rw [e] at hi; simp at hi
  rw [if_neg hne] at hn
  unfold withinL
  rw [hn]
  unfold tailL at h hi ⊢
  split at h
  · rename_i a; rw [if_pos a] at hi ⊢
    match i, hi with
    | 0, _ => simp at h; subst h; rw [Bool.eq_iff_iff]; simp <;> omega
  split at h
  · rename_i a b; rw [if_neg a, if_pos b] at hi ⊢
    match i, hi with
    | 0, _ => simp at h; subst h; rw [Bool.eq_iff_iff]; simp <;> omega
    | 1, _ => simp at h; subst h; rw [Bool.eq_iff_iff]; simp <;> omega
  split at h
  · rename_i a b d; rw [if_neg a, if_neg b, if_pos d] at hi ⊢
    match i, hi with
    | 0, _ => simp at h; subst h; rw [Bool.eq_iff_iff]; simp <;> omega
    | 1, _ => simp at h; subst h; rw [Bool.eq_iff_iff]; simp <;> omega
  split at h
  · rename_i a b d e; rw [if_neg a, if_neg b, if_neg d, if_pos e] at hi ⊢
    match i, hi with
    | 0, _ => simp at h; subst h; rw [Bool.eq_iff_iff]; simp <;> omega
    | 1, _ => simp at h; subst h; rw [Bool.eq_iff_iff]; simp <;> omega
  split at h
  · rename_i a b d e f; rw [if_neg a, if_neg b, if_neg d, if_neg e, if_pos f] at hi ⊢
    match i, hi with
    | 0, _ => simp at h; subst h; rw [Bool.eq_iff_iff]; simp <;> omega
    | 1, _ => simp at h; subst h; rw [Bool.eq_iff_iff]; simp <;> omega
    | 2, _ => simp at h; subst h; rw [Bool.eq_iff_iff]; simp <;> omega
  split at h
  · rename_i a b d e f g; rw [if_neg a, if_neg b, if_neg d, if_neg e, if_neg f, if_pos g] at hi ⊢
    match i, hi with
    | 0, _ => simp at h; subst h; rw [Bool.eq_iff_iff]; simp <;> omega
    | 1, _ => simp at h; subst h; rw [Bool.eq_iff_iff]; simp <;> omega
    | 2, _ => simp at h; subst h; rw [Bool.eq_iff_iff]; simp <;> omega
  split at h
  · rename_i a b d e f g j; rw [if_neg a, if_neg b, if_neg d, if_neg e, if_neg f, if_neg g, if_pos j] at hi ⊢
    match i, hi with
    | 0, _ => simp at h; subst h; rw [Bool.eq_iff_iff]; simp <;> omega
    | 1, _ => simp at h; subst h; rw [Bool.eq_iff_iff]; simp <;> omega
    | 2, _ => simp at h; subst h; rw [Bool.eq_iff_iff]; simp <;> omega
  · simp at h
theorem piece_loop (x : Int) (q : List Int) (hq : q.length ≤ 1099511627776) : ∀ (r : List (Int × Int)) (i : Nat), r = (tailL x).drop i → i ≤ (tailL x).length → i ≤ q.length →
    Ev (fun k => bobbinref01_Piece.l0 k (x :: q) (1 + ((tailL x).length : Int)) (1 + (i : Int)))
      (1 + ((i + matchLen r (q.drop i) : Nat) : Int), decide (i + matchLen r (q.drop i) = (tailL x).length), decide (i + matchLen r (q.drop i) < (tailL x).length ∧ i + matchLen r (q.drop i) = q.length)) := by
  intro r
  have hlen : (((x :: q).length : Nat) : Int) = 1 + (q.length : Int) := by simp; omega
  induction r with
  | nil =>
    intro i hr hi hl
    have h1 : i = (tailL x).length := by
      have := congrArg List.length hr
      rw [List.length_drop, List.length_nil] at this
      omega
    refine ⟨1, fun k hk => ?_⟩
    obtain ⟨k, rfl⟩ : ∃ m, k = m + 1 := ⟨k - 1, by omega⟩
    show bobbinref01_Piece.l0 (k + 1) _ _ _ = _
    simp only [bobbinref01_Piece.l0, matchLen]
    rw [if_neg (by omega)]
    simp [h1]
  | cons s r ih =>
    intro i hr hi hl
    have hlt : i < (tailL x).length := by
      have := congrArg List.length hr
      rw [List.length_drop, List.length_cons] at this
      omega
    have hs : (tailL x)[i]? = some s := by
      have := congrArg (fun z => z[0]?) hr
      simpa using this.symm
    have hr' : r = (tailL x).drop (i + 1) := by
      rw [← List.drop_drop, ← hr]
      simp
    by_cases h1 : i < q.length
    · have hd : q.drop i = q.getD i 0 :: q.drop (i + 1) := by
        rw [List.drop_eq_getElem_cons h1]
        simp [List.getD_eq_getElem?_getD, h1]
      have hrd : rd (x :: q) (1 + (i : Int)) = q.getD i 0 := by rw [show (1 + (i : Int)) = (i : Int) + 1 from by omega]; exact rd_succ x q i
      have hr0 : rd (x :: q) 0 = x := by simp [rd]
      have hw := within_ev x (1 + (i : Int)) (q.getD i 0)
      have hws : withinL x (1 + (i : Int)) (q.getD i 0) = (!decide (q.getD i 0 < s.1) && !decide (s.2 < q.getD i 0)) := by rw [show (1 + (i : Int)) = (i : Int) + 1 from by omega]; exact within_span x i s _ hs
      rw [hws] at hw
      have hi2 := ih (i + 1) hr' (by omega) (by omega)
      refine Ev.step (f := fun k => (bobbinref01_within.f k x (1 + (i : Int)) (q.getD i 0)).bind fun t => if t = true then bobbinref01_Piece.l0 k (x :: q) (1 + ((tailL x).length : Int)) (wrap64 (1 + (i : Int) + 1)) else some (1 + (i : Int), 1 + (i : Int) == 1 + ((tailL x).length : Int), 1 + (i : Int) == ((x :: q).length : Int))) (fun k => ?_) (Ev.bind hw ?_)
      · simp only [bobbinref01_Piece.l0]
        rw [if_pos (by omega), if_pos (by omega), if_pos (by omega), if_pos (by omega), hr0, hrd]
      · rw [hd]
        by_cases h3 : q.getD i 0 < s.1
        · simp only [h3, decide_true, Bool.not_true, Bool.false_and, Bool.false_eq_true, if_false, matchLen, if_true, Nat.add_zero]
          have e1 : (1 + (i : Int) == 1 + ((tailL x).length : Int)) = decide (i = (tailL x).length) := by rw [Bool.eq_iff_iff]; simp <;> omega
          have e2 : (1 + (i : Int) == ((x :: q).length : Int)) = decide (i < (tailL x).length ∧ i = q.length) := by rw [hlen, Bool.eq_iff_iff]; simp <;> omega
          rw [e1, e2]
          exact Ev.now _
        · by_cases h4 : s.2 < q.getD i 0
          · simp only [h3, h4, decide_true, decide_false, Bool.not_true, Bool.and_false, Bool.false_eq_true, if_false, matchLen, if_true, Nat.add_zero]
            have e1 : (1 + (i : Int) == 1 + ((tailL x).length : Int)) = decide (i = (tailL x).length) := by rw [Bool.eq_iff_iff]; simp <;> omega
            have e2 : (1 + (i : Int) == ((x :: q).length : Int)) = decide (i < (tailL x).length ∧ i = q.length) := by rw [hlen, Bool.eq_iff_iff]; simp <;> omega
            rw [e1, e2]
            exact Ev.now _
          · simp only [h3, h4, decide_false, Bool.not_false, Bool.and_true, if_true, matchLen, if_false]
            rw [wrap_small (by omega) (by omega), show 1 + (i : Int) + 1 = 1 + ((i + 1 : Nat) : Int) from by omega]
            rw [show i + (1 + matchLen r (q.drop (i + 1))) = i + 1 + matchLen r (q.drop (i + 1)) from by omega]
            exact hi2
    · have hd : q.drop i = [] := List.drop_of_length_le (by omega)
      rw [hd]
      have hm : matchLen (s :: r) [] = 0 := by simp [matchLen]
      rw [hm]
      refine ⟨1, fun k hk => ?_⟩
      obtain ⟨k, rfl⟩ : ∃ m, k = m + 1 := ⟨k - 1, by omega⟩
      show bobbinref01_Piece.l0 (k + 1) _ _ _ = _
      simp only [bobbinref01_Piece.l0]
      rw [if_pos (by omega), if_neg (by omega)]
      have e1 : (1 + (i : Int) == 1 + ((tailL x).length : Int)) = decide (i + 0 = (tailL x).length) := by rw [Bool.eq_iff_iff]; simp <;> omega
      have e2 : (1 + (i : Int) == ((x :: q).length : Int)) = decide (i + 0 < (tailL x).length ∧ i + 0 = q.length) := by rw [hlen, Bool.eq_iff_iff]; simp <;> omega
      rw [e1, e2]
      rfl
theorem piece_ev (l : List Int) (hp : 0 < l.length) (hl : l.length ≤ 1099511627776) : Ev (fun k => bobbinref01_Piece.f k l) (firstL l) := by
  cases l with
  | nil => simp at hp
  | cons x q =>
    have hr0 : rd (x :: q) 0 = x := by simp [rd]
    simp at hl
    rw [firstL_cons]
    refine Ev.congr (f := fun k => (bobbinref01_Need.f k x).bind fun t => if t = 0 then some (1, false, false) else bobbinref01_Piece.l0 k (x :: q) t 1) (fun k => ?_) (Ev.bind (need_ev x) ?_)
    · unfold bobbinref01_Piece.f
      rw [if_pos (by simp), hr0]
    · unfold firstM
      by_cases h1 : x < 128
      · rw [if_pos h1, show needL x = 1 from by unfold needL; rw [if_pos h1]]
        refine ⟨1, fun k hk => ?_⟩
        obtain ⟨k, rfl⟩ : ∃ m, k = m + 1 := ⟨k - 1, by omega⟩
        simp [bobbinref01_Piece.l0]
      · rw [if_neg h1]
        have hn := need_tail x (by omega)
        by_cases h2 : tailL x = []
        · rw [if_pos h2] at hn ⊢
          rw [hn]
          exact Ev.now _
        · rw [if_neg h2] at hn ⊢
          rw [hn]
          have h := piece_loop x q (by omega) (tailL x) 0 (by simp) (by omega) (by omega)
          refine Ev.congr (f := fun k => bobbinref01_Piece.l0 k (x :: q) (1 + ((tailL x).length : Int)) (1 + ((0 : Nat) : Int))) (fun k => ?_) ?_
          · rw [if_neg (by omega)]; rfl
          · have hm := matchLen_le (tailL x) q
            simp only [Nat.zero_add, List.drop_zero] at h
            by_cases h3 : matchLen (tailL x) q = (tailL x).length
            · rw [if_pos h3]
              simpa [h3] using h
            · rw [if_neg h3]
              by_cases h4 : matchLen (tailL x) q = q.length
              · rw [if_pos h4]
                have h5 : q.length ≠ (tailL x).length := by omega
                have h6 : q.length < (tailL x).length := by omega
                simpa [h4, h5, h6] using h
              · rw [if_neg h4]
                simpa [h3, h4] using h
theorem ev_some {α β : Type} {g : Nat → β → Option α} {v : β} {r : α} (h : Ev (fun k => g k v) r) : Ev (fun k => (some v).bind (g k)) r := h
theorem ev_neg {α : Type} {c : Prop} {_ : Decidable c} {a b : Nat → Option α} {r : α} (hc : ¬ c) (h : Ev b r) : Ev (fun k => if c then a k else b k) r := Ev.congr (fun k => if_neg hc) h
theorem ev_pos {α : Type} {c : Prop} {_ : Decidable c} {a b : Nat → Option α} {r : α} (hc : c) (h : Ev a r) : Ev (fun k => if c then a k else b k) r := Ev.congr (fun k => if_pos hc) h
def placesL : Nat → List (List Int) → List Int
  | _, [] => []
  | n, ch :: t => (n : Int) :: placesL (n + ch.length) t
theorem chars_nil : chars [] = [] := by rw [chars]; simp
theorem run_nil' : (run []).2 = [] := by rw [run]; simp
theorem run_open2 (l : List Int) (h : 0 < l.length) (ho : (firstL l).2.2 = true) : (run l).2 = l := by rw [run_open l h ho]
theorem firstM_open (x : Int) (l : List Int) (ho : (firstM x l).2.2 = true) : (firstM x l).1 = 1 + (l.length : Int) ∧ (firstM x l).2.1 = false := by
  unfold firstM at ho ⊢
  by_cases h1 : x < 128
  · rw [if_pos h1] at ho; simp at ho
  · rw [if_neg h1] at ho ⊢
    by_cases h2 : tailL x = []
    · rw [if_pos h2] at ho; simp at ho
    · rw [if_neg h2] at ho ⊢
      by_cases h3 : matchLen (tailL x) l = (tailL x).length
      · rw [if_pos h3] at ho; simp at ho
      · rw [if_neg h3] at ho ⊢
        by_cases h4 : matchLen (tailL x) l = l.length
        · rw [if_pos h4]; simp
        · rw [if_neg h4] at ho; simp at ho
theorem firstL_open (l : List Int) (h : 0 < l.length) (ho : (firstL l).2.2 = true) : (firstL l).1 = (l.length : Int) ∧ (firstL l).2.1 = false := by
  cases l with
  | nil => simp at h
  | cons x l =>
    rw [firstL_cons] at ho ⊢
    obtain ⟨a, b⟩ := firstM_open x l ho
    exact ⟨by rw [a]; simp; omega, b⟩
theorem pieces_loop (l : List Int) (hl : l.length ≤ 1099511627776) : ∀ (d : Nat) (pos : Nat) (x5 x6 : List Int), pos + d = l.length → x5.length ≤ 3 * pos → x6.length ≤ pos →
    Ev (fun k => bobbinref01_Pieces.l0 k l x5 x6 (pos : Int)) (x5 ++ clean (l.drop pos), x6 ++ placesL x5.length (chars (l.drop pos)), (((run (l.drop pos)).2.length : Nat) : Int)) := by
  intro d
  induction d using Nat.strongRecOn with
  | ind d ih =>
    intro pos x5 x6 hd h5 h6
    by_cases hp : pos < l.length
    · have hpd : 0 < (l.drop pos).length := by simp; omega
      have h1 := firstL_pos _ hpd
      have h2 := firstL_le _ hpd
      have hld : (l.drop pos).length = l.length - pos := by simp
      have pe := piece_ev (l.drop pos) hpd (by omega)
      obtain ⟨n, g, o, e⟩ : ∃ n g o, firstL (l.drop pos) = (n, g, o) := ⟨_, _, _, rfl⟩
      rw [e] at h1 h2 pe
      simp only at h1 h2
      obtain ⟨m, rfl⟩ : ∃ m : Nat, n = (m : Int) := ⟨n.toNat, by omega⟩
      have tk : (l.take ((pos : Int) + (m : Int)).toNat).drop pos = (l.drop pos).take m := by
        rw [show ((pos : Int) + (m : Int)).toNat = pos + m from by omega, List.drop_take]
        congr 1
        omega
      cases o with
      | true =>
        obtain ⟨q1, q2⟩ := firstL_open _ hpd (by rw [e])
        rw [e] at q1 q2
        simp only at q1 q2
        subst q2
        rw [clean_open _ hpd (by rw [e]), chars_open _ hpd (by rw [e]), run_open2 _ hpd (by rw [e])]
        refine Ev.step (fun k => by simp only [bobbinref01_Pieces.l0]; rw [if_pos (by omega), if_pos (by omega), if_pos (by omega), Int.toNat_natCast]) (Ev.bind pe ?_)
        simp only [Bool.false_eq_true, if_false, if_true, Option.bind_some]
        rw [if_pos (by omega), if_pos (by simp; omega)]
        simp only [placesL]
        rw [q1]
        exact Ev.now _
      | false =>
        have rr : (run (l.drop pos)).2 = (run ((l.drop pos).drop m)).2 := by
          cases g with
          | true => rw [run_good _ hpd (by rw [e]) (by rw [e]), e]; rfl
          | false => rw [run_bad _ hpd (by rw [e]) (by rw [e]), e]; rfl
        have dd : (l.drop pos).drop m = l.drop (pos + m) := by rw [List.drop_drop]
        cases g with
        | true =>
          have ih' := ih (d - m) (by omega) (pos + m) (x5 ++ (l.drop pos).take m) (x6 ++ [(x5.length : Int)]) (by omega) (by simp; omega) (by simp; omega)
          rw [rr, dd, clean_good _ hpd (by rw [e]) (by rw [e]), chars_good _ hpd (by rw [e]) (by rw [e]), e]
          simp only [Int.toNat_natCast, dd, placesL]
          refine Ev.step (fun k => by simp only [bobbinref01_Pieces.l0]; rw [if_pos (by omega), if_pos (by omega), if_pos (by omega), Int.toNat_natCast]) (Ev.bind pe ?_)
          have hw : wrap64 ((pos : Int) + (m : Int)) = ((pos + m : Nat) : Int) := by rw [wrap_small (by omega) (by omega)]; omega
          have tk2 : (l.take (((pos + m : Nat) : Int)).toNat).drop pos = (l.drop pos).take m := by rw [Int.toNat_natCast, List.drop_take, show pos + m - pos = m from by omega]
          refine ev_pos (by omega) (ev_some (ev_pos rfl ?_))
          rw [hw, tk2]
          refine ev_pos (by omega) (ev_pos (by omega) (ev_pos (by simp; omega) (ev_some (ev_neg Bool.false_ne_true ?_))))
          simpa [List.append_assoc] using ih'
        | false =>
          have ih' := ih (d - m) (by omega) (pos + m) (x5 ++ fffd) (x6 ++ [(x5.length : Int)]) (by omega) (by simp [fffd]; omega) (by simp; omega)
          rw [rr, dd, clean_bad _ hpd (by rw [e]) (by rw [e]), chars_bad _ hpd (by rw [e]) (by rw [e]), e]
          simp only [Int.toNat_natCast, dd, placesL]
          refine Ev.step (fun k => by simp only [bobbinref01_Pieces.l0]; rw [if_pos (by omega), if_pos (by omega), if_pos (by omega), Int.toNat_natCast]) (Ev.bind pe ?_)
          have hw : wrap64 ((pos : Int) + (m : Int)) = ((pos + m : Nat) : Int) := by rw [wrap_small (by omega) (by omega)]; omega
          refine ev_pos (by omega) (ev_some (ev_neg Bool.false_ne_true ?_))
          rw [hw]
          refine ev_some (ev_pos (by simp; omega) (ev_some (ev_neg Bool.false_ne_true ?_)))
          simpa [fffd, List.append_assoc] using ih'
    · have hd' : l.drop pos = [] := List.drop_of_length_le (by omega)
      rw [hd', clean_nil, chars_nil, run_nil']
      refine ⟨1, fun k hk => ?_⟩
      obtain ⟨k, rfl⟩ : ∃ m, k = m + 1 := ⟨k - 1, by omega⟩
      show bobbinref01_Pieces.l0 (k + 1) l _ _ _ = _
      simp only [bobbinref01_Pieces.l0, placesL, List.append_nil]
      rw [if_neg (by omega)]
      rfl
theorem pieces_ev (l : List Int) (hl : l.length ≤ 1099511627776) : Ev (fun k => bobbinref01_Pieces.f k l) (clean l, placesL 0 (chars l), (((run l).2.length : Nat) : Int)) := by
  have h := pieces_loop l hl l.length 0 [] [] (by omega) (by simp) (by simp)
  exact h
theorem ref_clean_ev (l : List Int) (hl : l.length ≤ 1099511627776) : Ev (fun k => bobbinref01_Clean.f k l) (clean l) :=
  Ev.congr (f := fun k => (bobbinref01_Pieces.f k l).bind fun bt => some bt.1) (fun k => rfl) (Ev.bind (pieces_ev l hl) (Ev.now _))
theorem wraps_i64 (n : Int) (h₀ : 0 ≤ n) (h₁ : n < 2 ^ 63) : IntKind.i64.wrap n = n := by rw [IntKind.wrap_i64]; omega
theorem i64_or6 (x y : Int) (hx₀ : 0 ≤ x) (hx : x % 64 = 0) (hx₁ : x < 2147483648) (h₀ : 0 ≤ y) (h₁ : y < 64) : Go.bits .or .i64 x y = x + y :=
  bits_join .i64 63 (by decide) wraps_i64 6 x y hx₀ hx (by omega) h₀ h₁ (by omega)
theorem i64_or12 (x y : Int) (hx₀ : 0 ≤ x) (hx : x % 4096 = 0) (hx₁ : x < 2147483648) (h₀ : 0 ≤ y) (h₁ : y < 4096) : Go.bits .or .i64 x y = x + y :=
  bits_join .i64 63 (by decide) wraps_i64 12 x y hx₀ hx (by omega) h₀ h₁ (by omega)
theorem i64_or18 (x y : Int) (hx₀ : 0 ≤ x) (hx : x % 262144 = 0) (hx₁ : x < 2147483648) (h₀ : 0 ≤ y) (h₁ : y < 262144) : Go.bits .or .i64 x y = x + y :=
  bits_join .i64 63 (by decide) wraps_i64 18 x y hx₀ hx (by omega) h₀ h₁ (by omega)
theorem rune_ev (ch t : List Int) (h : V.Form ch) : Ev (fun k => bobbinref01_Rune.f k (ch ++ t)) (runeOf ch, (ch.length : Int)) := by
  rcases h with ⟨x, rfl, h1, h2⟩ | ⟨x, y, rfl, h1, h2, h3, h4⟩ | ⟨x, y, z, rfl, h1, h2, h3, h4, h5, h6, h7, h8⟩ | ⟨x, y, z, u, rfl, h1, h2, h3, h4, h5, h6, h7, h8, h9, h10⟩
  · have hn : needL x = 1 := by unfold needL; rw [if_pos h2]
    have hr0 : rd ([x] ++ t) 0 = x := by simp [rd]
    refine Ev.congr (fun k => by unfold bobbinref01_Rune.f; rw [if_pos (by simp)]) (Ev.bind (by rw [hr0]; exact need_ev x) ?_)
    rw [hn, if_pos rfl, hr0, wrap_small (by omega) (by omega)]
    exact Ev.now _
  · have hn : needL x = 2 := by unfold needL; rw [if_neg (by omega), if_neg (by omega), if_neg (by omega), if_pos (by omega)]
    have hr0 : rd ([x, y] ++ t) 0 = x := by simp [rd]
    have hr1 : rd ([x, y] ++ t) 1 = y := by simp [rd]
    refine Ev.congr (fun k => by unfold bobbinref01_Rune.f; rw [if_pos (by simp; omega)]) (Ev.bind (by rw [hr0]; exact need_ev x) ?_)
    rw [hn, if_neg (by omega), if_pos rfl, if_pos (by simp; omega), hr0, hr1, u8_and31 x (by omega) (by omega), u8_and63 y (by omega) (by omega),
      wrap_small (x := x % 32) (by omega) (by omega), wrap_small (x := x % 32 * 64) (by omega) (by omega), wrap_small (x := y % 64) (by omega) (by omega), i64_or6 _ _ (by omega) (by omega) (by omega) (by omega) (by omega)]
    exact Ev.now _
  · have hn : needL x = 3 := by unfold needL; rw [if_neg (by omega), if_neg (by omega), if_neg (by omega), if_neg (by omega), if_pos (by omega)]
    have hr0 : rd ([x, y, z] ++ t) 0 = x := by simp [rd]
    have hr1 : rd ([x, y, z] ++ t) 1 = y := by simp [rd]
    have hr2 : rd ([x, y, z] ++ t) 2 = z := by simp [rd]
    refine Ev.congr (fun k => by unfold bobbinref01_Rune.f; rw [if_pos (by simp; omega)]) (Ev.bind (by rw [hr0]; exact need_ev x) ?_)
    rw [hn, if_neg (by omega), if_neg (by omega), if_pos rfl, if_pos (by simp; omega), if_pos (by simp; omega), hr0, hr1, hr2, u8_and15 x (by omega) (by omega), u8_and63 y (by omega) (by omega), u8_and63 z (by omega) (by omega),
      wrap_small (x := x % 16) (by omega) (by omega), wrap_small (x := x % 16 * 4096) (by omega) (by omega), wrap_small (x := y % 64) (by omega) (by omega), wrap_small (x := y % 64 * 64) (by omega) (by omega), wrap_small (x := z % 64) (by omega) (by omega),
      i64_or12 (x % 16 * 4096) (y % 64 * 64) (by omega) (by omega) (by omega) (by omega) (by omega), i64_or6 (x % 16 * 4096 + y % 64 * 64) (z % 64) (by omega) (by omega) (by omega) (by omega) (by omega)]
    exact Ev.now _
  · have hn : needL x = 4 := by unfold needL; rw [if_neg (by omega), if_neg (by omega), if_neg (by omega), if_neg (by omega), if_neg (by omega)]
    have hr0 : rd ([x, y, z, u] ++ t) 0 = x := by simp [rd]
    have hr1 : rd ([x, y, z, u] ++ t) 1 = y := by simp [rd]
    have hr2 : rd ([x, y, z, u] ++ t) 2 = z := by simp [rd]
    have hr3 : rd ([x, y, z, u] ++ t) 3 = u := by simp [rd]
    refine Ev.congr (fun k => by unfold bobbinref01_Rune.f; rw [if_pos (by simp; omega)]) (Ev.bind (by rw [hr0]; exact need_ev x) ?_)
    rw [hn, if_neg (by omega), if_neg (by omega), if_neg (by omega), if_pos (by simp; omega), if_pos (by simp; omega), if_pos (by simp; omega), hr0, hr1, hr2, hr3, u8_and7 x (by omega) (by omega), u8_and63 y (by omega) (by omega), u8_and63 z (by omega) (by omega), u8_and63 u (by omega) (by omega),
      wrap_small (x := x % 8) (by omega) (by omega), wrap_small (x := x % 8 * 262144) (by omega) (by omega), wrap_small (x := y % 64) (by omega) (by omega), wrap_small (x := y % 64 * 4096) (by omega) (by omega), wrap_small (x := z % 64) (by omega) (by omega), wrap_small (x := z % 64 * 64) (by omega) (by omega), wrap_small (x := u % 64) (by omega) (by omega),
      i64_or18 (x % 8 * 262144) (y % 64 * 4096) (by omega) (by omega) (by omega) (by omega) (by omega), i64_or12 (x % 8 * 262144 + y % 64 * 4096) (z % 64 * 64) (by omega) (by omega) (by omega) (by omega) (by omega), i64_or6 (x % 8 * 262144 + y % 64 * 4096 + z % 64 * 64) (u % 64) (by omega) (by omega) (by omega) (by omega) (by omega)]
    exact Ev.now _
theorem runes_loop : ∀ (chs : List (List Int)) (a acc : List Int), (∀ ch ∈ chs, V.Form ch) → (a ++ chs.flatten).length ≤ 4398046511104 → acc.length ≤ a.length →
    Ev (fun k => bobbinref01_Runes.l0 k (a ++ chs.flatten) acc (a.length : Int)) (acc ++ chs.map runeOf)
  | [], a, acc, h, hl, ha => by
    refine ⟨1, fun k hk => ?_⟩
    obtain ⟨k, rfl⟩ : ∃ m, k = m + 1 := ⟨k - 1, by omega⟩
    simp [bobbinref01_Runes.l0]
  | ch :: chs, a, acc, h, hl, ha => by
    have hf := h ch List.mem_cons_self
    have hpos := form_pos hf
    have e1 : a ++ (ch :: chs).flatten = (a ++ ch) ++ chs.flatten := by simp
    have e2 : (a ++ (ch :: chs).flatten).drop ((a.length : Int)).toNat = ch ++ chs.flatten := by simp
    have hl2 : (a ++ (ch :: chs).flatten).length = a.length + ch.length + chs.flatten.length := by simp [Nat.add_assoc]
    have ih := runes_loop chs (a ++ ch) (acc ++ [runeOf ch]) (fun c hc => h c (List.mem_cons_of_mem _ hc)) (by rw [← e1]; exact hl) (by simp; omega)
    rw [← e1] at ih
    refine Ev.step (fun k => by simp only [bobbinref01_Runes.l0]; rw [if_pos (by rw [hl2]; omega), if_pos (by omega), if_pos (by rw [hl2]; omega), e2]) (Ev.bind (rune_ev ch chs.flatten hf) ?_)
    rw [wrap_small (by omega) (by omega)]
    refine ev_pos (by omega) ?_
    rw [show (a.length : Int) + (ch.length : Int) = ((a ++ ch).length : Int) from by simp]
    simpa [List.append_assoc] using ih
theorem runes_ev (l : List Int) (hl : l.length ≤ 1099511627776) (hB : IsB l) : Ev (fun k => bobbinref01_Runes.f k l) ((chars l).map runeOf) := by
  refine Ev.bind (ref_clean_ev l hl) ?_
  have hc := clean_len l
  have h := runes_loop (chars l) [] [] (fun ch h => form_of ch (isChar_chars l ch h) ((isB_clean l hB).2 ch h)) (by rw [List.nil_append, ← clean_chars]; omega) (by simp)
  rw [List.nil_append, ← clean_chars] at h
  exact h
end Go.Proofs.YtdpnnglfaofjeaaDoor.PUtf
namespace Go.Proofs.YtdpnnglfaofjeaaDoor.PEr
open Go.RowKit Go.Proofs.YtdpnnglfaofjeaaDoorW.PrintWords Go.Proofs.YtdpnnglfaofjeaaDoorW.PrintLast Go.Proofs.YtdpnnglfaofjeaaDoorW.PrintMore
attribute [local go_sem] max2_int min2_int max_two min_two max_three min_three max_four min_four   -- for this text's walks alone
open PUtf PSc PEq
set_option linter.unusedVariables false
set_option linter.unusedSimpArgs false
def errW : Option Int → Value
  | none => .nilIface
  | some c => .iface 0 (.int .i64 c)
theorem errW_none : errW none = .nilIface := rfl
theorem errW_some (c : Int) : errW (some c) = .iface 0 (.int .i64 c) := rfl
theorem info5 : (Tryd.prog.info? 5).map (fun i => (i.zero, i.size, i.bytes)) = some (some (.int .u8 0), 1, 1) := by kernel_rfl
theorem info9 : (Tryd.prog.info? 9).map (fun i => (i.zero, i.size, i.bytes)) = some (some (.string ⟨#[]⟩), 1, 16) := by kernel_rfl
end Go.Proofs.YtdpnnglfaofjeaaDoor.PEr
namespace Go.Proofs.YtdpnnglfaofjeaaDoor.PEr
open Go.RowKit Go.Proofs.YtdpnnglfaofjeaaDoorW.PrintWords Go.Proofs.YtdpnnglfaofjeaaDoorW.PrintLast Go.Proofs.YtdpnnglfaofjeaaDoorW.PrintMore
attribute [local go_sem] max2_int min2_int max_two min_two max_three min_three max_four min_four   -- for this text's walks alone
open PUtf PSc PEq
set_option linter.unusedVariables false
set_option linter.unusedSimpArgs false
def bobbinref07_Text.f (l0 : List Int) : Option (ByteArray) := if l0.length ≤ 1099511627776 ∧ (l0.all fun x => decide (0 ≤ x) && decide (x ≤ 255)) = true then some (strOfNums (U.textL l0)) else none
theorem bobbinref07_Text.calls (A0 : Option Addr) (c0 : Nat) (l0 : List Int) (r : ByteArray) (w : World) (hr0 : Kd.C (Kd.int .u8) w A0 l0.length l0) (hc0 : l0.length ≤ c0) (h : bobbinref07_Text.f l0 = some r) :
    Calls Tryd.prog 28 #[.slice A0 l0.length c0] w fun e w' => e = .returned (.string r) ∧ Below w.heap.size w w' := by
  unfold bobbinref07_Text.f at h
  split at h
  · rename_i hh; injection h with h; subst h; exact U.ref_text_calls l0 A0 c0 w hr0 hc0 (fun x hx => by have := List.all_eq_true.1 hh.2 x hx; simp at this; omega) hh.1
  · cases h
def bobbinref06_Unit.f (a0 : Int) : Option (ByteArray) := if -9223372036854775808 ≤ a0 ∧ a0 ≤ 9223372036854775807 then some (strOfNums (PJh.unitJ a0)) else none
theorem bobbinref06_Unit.calls (a0 : Int) (r : ByteArray) (w : World) (h : bobbinref06_Unit.f a0 = some r) :
    Calls Tryd.prog 34 #[.int .i64 a0] w fun e w' => e = .returned (.string r) ∧ Below w.heap.size w w' := by
  unfold bobbinref06_Unit.f at h
  split at h
  · rename_i hh; injection h with h; subst h; exact PJh.ref_unitj_calls a0 w hh.1 hh.2
  · cases h
def bobbinref06_UTF8.f (a0 : Int) : Option (ByteArray) := some (strOfNums (Lib.encodeRuneZ a0))
theorem bobbinref06_UTF8.calls (a0 : Int) (r : ByteArray) (w : World) (h : bobbinref06_UTF8.f a0 = some r) :
    Calls Tryd.prog 65 #[.int .i64 a0] w fun e w' => e = .returned (.string r) ∧ Below w.heap.size w w' := by
  unfold bobbinref06_UTF8.f at h
  injection h with h; subst h
  obtain ⟨k, hk⟩ := (PJh.utf8_ev a0).rounds
  exact PJh.bobbinref06_UTF8.calls k a0 _ w hk
mutual
def bobbinref08_unit.j0 : Nat → Int → Int → List Int → Int → Bool → Option (ByteArray)
  | 0, _, _, _, _, _ => none
  | k + 1, x0, x1, x5, x9, x10 => if x10 = true then ((bobbinref04_Paths.f k x5).bind fun t105 => (if t105.size < 140737488355328 then ((some (([] : List Int) ++ bytesOf t105 : List Int)).bind fun y106 => (if x0 = 7 then (some (strOfNums y106)) else (if x0 = 9 then (some (strOfNums y106)) else ((bobbinref03_Text.f k y106).bind fun t109 => (some t109))))) else (none))) else (if x9 = 6 then ((bobbinref04_Queries.f k x5).bind fun t110 => (if t110.size < 140737488355328 then ((some (([] : List Int) ++ bytesOf t110 : List Int)).bind fun y111 => (if x0 = 7 then (some (strOfNums y111)) else (if x0 = 9 then (some (strOfNums y111)) else ((bobbinref03_Text.f k y111).bind fun t114 => (some t114))))) else (none))) else (if x9 = 7 then (bobbinref08_unit.j1 k x0 x1 x5 x9 (x9 == 7)) else (bobbinref08_unit.j1 k x0 x1 x5 x9 (x9 == 8))))
def bobbinref08_unit.j1 : Nat → Int → Int → List Int → Int → Bool → Option (ByteArray)
  | 0, _, _, _, _, _ => none
  | k + 1, x0, x1, x5, x9, x21 => if x21 = true then ((bobbinref06_Unit.f x1).bind fun t115 => (if t115.size < 140737488355328 then ((some (([] : List Int) ++ bytesOf t115 : List Int)).bind fun y116 => (if x0 = 7 then (some (strOfNums y116)) else (if x0 = 9 then (some (strOfNums y116)) else ((bobbinref03_Text.f k y116).bind fun t119 => (some t119))))) else (none))) else (if x9 = 9 then (bobbinref08_unit.j2 k x0 x5 (x9 == 9)) else (bobbinref08_unit.j2 k x0 x5 (x9 == 10)))
def bobbinref08_unit.j2 : Nat → Int → List Int → Bool → Option (ByteArray)
  | 0, _, _, _ => none
  | k + 1, x0, x5, x27 => if x27 = true then ((bobbinref07_Text.f x5).bind fun t120 => (if t120.size < 140737488355328 then ((some (([] : List Int) ++ bytesOf t120 : List Int)).bind fun y121 => (if x0 = 7 then (some (strOfNums y121)) else (if x0 = 9 then (some (strOfNums y121)) else ((bobbinref03_Text.f k y121).bind fun t124 => (some t124))))) else (none))) else (if x0 = 7 then (some (strOfNums x5)) else (if x0 = 9 then (some (strOfNums x5)) else ((bobbinref03_Text.f k x5).bind fun t125 => (some t125))))
end
def bobbinref08_unit.f (k : Nat) (a0 : Int) (a1 : Int) : Option (ByteArray) := (bobbinref06_UTF8.f a1).bind fun t101 => (if t101.size < 140737488355328 then ((some (([] : List Int) ++ bytesOf t101 : List Int)).bind fun y102 => (if a0 = 4 then (bobbinref08_unit.j0 k a0 a1 y102 a0 (a0 == 4)) else (bobbinref08_unit.j0 k a0 a1 y102 a0 (a0 == 5)))) else (none))
set_option maxHeartbeats 8000000 in
set_option maxRecDepth 100000 in
theorem bobbinref08_unit.calls (k : Nat) (a0 : Int) (a1 : Int) (r : ByteArray) (w : World) (h : bobbinref08_unit.f k a0 a1 = some r) :
    Calls Tryd.prog 89 #[.int .i64 a0, .int .i64 a1] w fun e w' => e = .returned (.string r) ∧ Below w.heap.size w w' := by
  have HB := Aside0.mk (Below.refl w.heap.size w)
  have H : ((bobbinref06_UTF8.f a1).bind fun t101 => (if t101.size < 140737488355328 then ((some (([] : List Int) ++ bytesOf t101 : List Int)).bind fun y102 => (if a0 = 4 then (bobbinref08_unit.j0 k a0 a1 y102 a0 (a0 == 4)) else (bobbinref08_unit.j0 k a0 a1 y102 a0 (a0 == 5)))) else (none))) = some r := h
  clear h
  replace H := Option.bind_eq_some_iff.mp H
  obtain ⟨t101, A30, H⟩ := H
  replace H : (if t101.size < 140737488355328 then ((some (([] : List Int) ++ bytesOf t101 : List Int)).bind fun y102 => (if a0 = 4 then (bobbinref08_unit.j0 k a0 a1 y102 a0 (a0 == 4)) else (bobbinref08_unit.j0 k a0 a1 y102 a0 (a0 == 5)))) else (none)) = some r := H
  have A3 := Aside0.mk A30
  clear A30
  by_cases c4 : t101.size < 140737488355328
  · rw [if_pos c4] at H
    have LMc4 := Aside0.mk c4
    clear c4
    obtain ⟨y102, hy102⟩ : ∃ y_ : List Int, y_ = (([] : List Int) ++ bytesOf t101) := ⟨_, rfl⟩
    replace H : (if a0 = 4 then (bobbinref08_unit.j0 k a0 a1 y102 a0 (a0 == 4)) else (bobbinref08_unit.j0 k a0 a1 y102 a0 (a0 == 5))) = some r := by first | (rw [hy102]; with_reducible exact H) | (have H2_ := (Option.bind_some _ _).symm.trans H; rw [hy102]; with_reducible exact H2_) | (have H2_ := (Option.bind_some _ _).symm.trans H; with_reducible exact H2_) | with_reducible exact H | (rw [hy102]; exact H) | exact H
    have Ny102 := Aside0.mk hy102
    clear hy102
    have HC5 := Aside0.mk H
    clear H
    go_enter Tryd.func89, Tryd.ntmps89
    go_upto_if 10 with (first | ((with_reducible refine gate_callee (f := 65) rfl ?_); refine goesL_ (some 7) rfl rfl Tryd.func65 (by kernel_rfl) rfl #[.int .i64 a1] rfl (by (try simp only [List.map_toArray, List.map_cons, List.map_nil]); first | done | rfl | (simp only [List.length_drop, List.length_take]; rfl)) ?_; (with_reducible refine (bobbinref06_UTF8.calls a1 t101 _ A3.out).mono ?_); rintro e w6 ⟨rfl, hb⟩; refine ⟨_, rfl, ?_⟩; have n0_ := Aside0.mk (below_step (by repeat (first | (with_reducible first | exact HB.out | apply below_alloc | apply pw_below_drewN | apply below_drew1) | exact HB.out)) hb); clear HB; have HB := n0_; clear n0_; (try clear hb); (try clear hb2); (try clear hk); (try clear hi)) | ((with_reducible refine gate_dst (N := 8) rfl ?_); refine print_conv_str (w0 := w) w.heap.size rfl _ 22 9 5 rfl Tryd.underlying22 Tryd.underlying9 Tryd.underlying5 (fun _ => True) t101 rfl ?aL ?aF ?aB ?aS ?_; (case aB => exact (by repeat (first | (with_reducible first | exact HB.out | apply below_alloc | apply pw_below_drewN | apply below_drew1) | exact HB.out))); (case aF => exact (fun _ _ => trivial)); (case aS => exact (below_size (by repeat (first | (with_reducible first | exact HB.out | apply below_alloc | apply pw_below_drewN | apply below_drew1) | exact HB.out)))); (case aL => have := LMc4.out; first | omega | (simp only [ByteArray.size_append]; simp only [ByteArray.size, List.size_toArray, List.length_cons, List.length_nil] at this ⊢; omega)); intro v103 w7 ho hb hg hat; rw [← Ny102.out] at ho; have n0_ := Aside0.mk (hb); have n1_ := Aside0.mk (ho); clear HB; have HB := n0_; have HO104 := n1_; clear n0_ n1_; clear ho hb hg hat))
    (try simp only [Act.put, List.setIfInBounds_toArray, List.set_cons_zero, List.set_cons_succ])
    go_cut [10] (fun v10 wc => ∃ (kq : Nat) (x10_4 : Bool), v10 = .bool x10_4 ∧ Aside0 (bobbinref08_unit.j0 kq a0 a1 y102 a0 x10_4 = some r) ∧ Aside0 (kq ≤ k) ∧ Aside0 (Kd.V (Kd.int .u8) 5 wc w.heap.size (fun _ => True) v103 y102) ∧ Aside0 (Below w.heap.size w wc))
    case first =>
      have H := HC5.out
      clear HC5
      by_cases c8 : a0 = 4
      · rw [if_pos c8] at H
        have c8b0 : (a0 == 4) = true := beq_iff_eq.mpr c8
        have c8b1 : (a0 != 4) = false := bne_eq_false_iff_eq.mpr c8
        clear c8
        (first | rw [c8b0] | (simp only [i64_w, i32_w]; rw [c8b0]) | skip)
        have H' := Aside0.mk H
        clear H
        go_wp2
        go_meet
        case rel => exact ⟨_, ((a0 == 4)), (by first | rfl | (simp; done) | (simp [*]; done)), H', ⟨by first | omega | exact Nat.le_refl _⟩, ⟨by (with_reducible repeat (first | apply Kd.V_alloc | apply Kd.V_drewN | apply Kd.V_drew)); exact HO104.out⟩, ⟨by repeat (first | (with_reducible first | exact HB.out | apply below_alloc | apply pw_below_drewN | apply below_drew1) | exact HB.out)⟩⟩
      · rw [if_neg c8] at H
        have c8b0 : (a0 == 4) = false := beq_eq_false_iff_ne.mpr c8
        have c8b1 : (a0 != 4) = true := bne_iff_ne.mpr c8
        (first | rw [c8b0] | (simp only [i64_w, i32_w]; rw [c8b0]) | skip)
        have H' := Aside0.mk H
        clear H
        go_wp2
        go_meet
        case rel => exact ⟨_, ((a0 == 5)), (by first | rfl | (simp; done) | (simp [*]; done)), H', ⟨by first | omega | exact Nat.le_refl _⟩, ⟨by (with_reducible repeat (first | apply Kd.V_alloc | apply Kd.V_drewN | apply Kd.V_drew)); exact HO104.out⟩, ⟨by repeat (first | (with_reducible first | exact HB.out | apply below_alloc | apply pw_below_drewN | apply below_drew1) | exact HB.out)⟩⟩
    case rest =>
      clear HC5
      try clear p2
      try clear c4
      try clear c6
      try clear c8
      try clear c8b0
      try clear c8b1
      obtain ⟨kq, x10_4, rfl, HA, HJ4, HO_5, HB⟩ := hcut
      cases kq with
      | zero => exact absurd HA.out (by simp [bobbinref08_unit.j0])
      | succ kj4 =>
        have H := HA.out
        clear HA
        simp only [bobbinref08_unit.j0] at H
        by_cases c9 : x10_4 = true
        · subst c9
          have H1 : ((bobbinref04_Paths.f kj4 y102).bind fun t105 => (if t105.size < 140737488355328 then ((some (([] : List Int) ++ bytesOf t105 : List Int)).bind fun y106 => (if a0 = 7 then (some (strOfNums y106)) else (if a0 = 9 then (some (strOfNums y106)) else ((bobbinref03_Text.f kj4 y106).bind fun t109 => (some t109))))) else (none))) = some r := by rw [if_pos rfl] at H; exact H
          clear H
          have H := H1
          clear H1
          replace H := Option.bind_eq_some_iff.mp H
          obtain ⟨t105, A100, H⟩ := H
          replace H : (if t105.size < 140737488355328 then ((some (([] : List Int) ++ bytesOf t105 : List Int)).bind fun y106 => (if a0 = 7 then (some (strOfNums y106)) else (if a0 = 9 then (some (strOfNums y106)) else ((bobbinref03_Text.f kj4 y106).bind fun t109 => (some t109))))) else (none)) = some r := H
          have A10 := Aside0.mk A100
          clear A100
          by_cases c11 : t105.size < 140737488355328
          · rw [if_pos c11] at H
            have LMc11 := Aside0.mk c11
            clear c11
            obtain ⟨y106, hy106⟩ : ∃ y_ : List Int, y_ = (([] : List Int) ++ bytesOf t105) := ⟨_, rfl⟩
            replace H : (if a0 = 7 then (some (strOfNums y106)) else (if a0 = 9 then (some (strOfNums y106)) else ((bobbinref03_Text.f kj4 y106).bind fun t109 => (some t109)))) = some r := by first | (rw [hy106]; with_reducible exact H) | (have H2_ := (Option.bind_some _ _).symm.trans H; rw [hy106]; with_reducible exact H2_) | (have H2_ := (Option.bind_some _ _).symm.trans H; with_reducible exact H2_) | with_reducible exact H | (rw [hy106]; exact H) | exact H
            have Ny106 := Aside0.mk hy106
            clear hy106
            by_cases c12 : a0 = 7
            · rw [if_pos c12] at H
              have c12b0 : (a0 == 7) = true := beq_iff_eq.mpr c12
              have c12b1 : (a0 != 7) = false := bne_eq_false_iff_eq.mpr c12
              clear c12
              obtain rfl := Option.some.inj H
              obtain ⟨Ao13, co13, eo13⟩ := Kd.V_slice HO_5.out
              subst eo13
              go_wp2_with (first | ((with_reducible refine gate_callee (f := 102) rfl ?_); refine goesL_ (some 14) rfl rfl Tryd.func102 (by kernel_rfl) rfl #[.slice Ao13 y102.length co13] rfl (by (try simp only [List.map_toArray, List.map_cons, List.map_nil]); first | done | rfl | (simp only [List.length_drop, List.length_take]; rfl)) ?_; (with_reducible refine (bobbinref04_Paths.calls kj4 _ _ y102 t105 _ ?side1 ?side2 A10.out).mono ?_); (case side1 => repeat (first | exact (Kd.V_reads' HO_5.out).2.2 | (with_reducible refine Kd.C_alloc ?_ _) | (with_reducible refine Kd.C_drewN ?_ _) | (with_reducible refine Kd.C_drew ?_))); (case side2 => exact (Kd.V_reads' HO_5.out).2.1); rintro e w14 ⟨rfl, hb⟩; refine ⟨_, rfl, ?_⟩; have n0_ := Aside0.mk (Kd.V_below (by (with_reducible repeat (first | apply Kd.V_alloc | apply Kd.V_drewN | apply Kd.V_drew)); exact HO_5.out) hb); have n1_ := Aside0.mk (below_step (by repeat (first | (with_reducible first | exact HB.out | apply below_alloc | apply pw_below_drewN | apply below_drew1) | exact HB.out)) hb); clear HO_5; clear HB; have HO_5 := n0_; have HB := n1_; clear n0_ n1_; (try clear hb); (try clear hb2); (try clear hk); (try clear hi)) | ((with_reducible refine gate_dst (N := 15) rfl ?_); refine print_conv_str (w0 := w) w.heap.size rfl _ 22 9 5 rfl Tryd.underlying22 Tryd.underlying9 Tryd.underlying5 (fun _ => True) t105 rfl ?aL ?aF ?aB ?aS ?_; (case aB => exact (by repeat (first | (with_reducible first | exact HB.out | apply below_alloc | apply pw_below_drewN | apply below_drew1) | exact HB.out))); (case aF => exact (fun _ _ => trivial)); (case aS => exact (below_size (by repeat (first | (with_reducible first | exact HB.out | apply below_alloc | apply pw_below_drewN | apply below_drew1) | exact HB.out)))); (case aL => have := LMc11.out; first | omega | (simp only [ByteArray.size_append]; simp only [ByteArray.size, List.size_toArray, List.length_cons, List.length_nil] at this ⊢; omega)); intro v107 w15 ho hb hg hat; rw [← Ny106.out] at ho; have n0_ := Aside0.mk (Kd.V_grown (by (with_reducible repeat (first | apply Kd.V_alloc | apply Kd.V_drewN | apply Kd.V_drew)); exact HO_5.out) hg (fun _ _ => by simp [Value.ownBlock])); have n1_ := Aside0.mk (hb); have n2_ := Aside0.mk (ho); clear HO_5; clear HB; have HO_5 := n0_; have HB := n1_; have HO108 := n2_; clear n0_ n1_ n2_; clear ho hb hg hat; have hcv16 := V_string (P := Tryd.prog) Tryd.underlying22 Tryd.underlying5 Tryd.underlying9 (HO108.out)))
              go_ret
              exact ⟨by first | rfl | (simp [errW_none, errW_some] <;> rfl) | (simp [*, errW_none, errW_some] <;> rfl), by repeat (first | (with_reducible first | exact HB.out | apply below_alloc | apply pw_below_drewN | apply below_drew1) | exact HB.out)⟩
            · rw [if_neg c12] at H
              have c12b0 : (a0 == 7) = false := beq_eq_false_iff_ne.mpr c12
              have c12b1 : (a0 != 7) = true := bne_iff_ne.mpr c12
              by_cases c17 : a0 = 9
              · rw [if_pos c17] at H
                have c17b0 : (a0 == 9) = true := beq_iff_eq.mpr c17
                have c17b1 : (a0 != 9) = false := bne_eq_false_iff_eq.mpr c17
                clear c17
                obtain rfl := Option.some.inj H
                obtain ⟨Ao18, co18, eo18⟩ := Kd.V_slice HO_5.out
                subst eo18
                go_wp2_with (first | ((with_reducible refine gate_callee (f := 102) rfl ?_); refine goesL_ (some 14) rfl rfl Tryd.func102 (by kernel_rfl) rfl #[.slice Ao18 y102.length co18] rfl (by (try simp only [List.map_toArray, List.map_cons, List.map_nil]); first | done | rfl | (simp only [List.length_drop, List.length_take]; rfl)) ?_; (with_reducible refine (bobbinref04_Paths.calls kj4 _ _ y102 t105 _ ?side1 ?side2 A10.out).mono ?_); (case side1 => repeat (first | exact (Kd.V_reads' HO_5.out).2.2 | (with_reducible refine Kd.C_alloc ?_ _) | (with_reducible refine Kd.C_drewN ?_ _) | (with_reducible refine Kd.C_drew ?_))); (case side2 => exact (Kd.V_reads' HO_5.out).2.1); rintro e w19 ⟨rfl, hb⟩; refine ⟨_, rfl, ?_⟩; have n0_ := Aside0.mk (Kd.V_below (by (with_reducible repeat (first | apply Kd.V_alloc | apply Kd.V_drewN | apply Kd.V_drew)); exact HO_5.out) hb); have n1_ := Aside0.mk (below_step (by repeat (first | (with_reducible first | exact HB.out | apply below_alloc | apply pw_below_drewN | apply below_drew1) | exact HB.out)) hb); clear HO_5; clear HB; have HO_5 := n0_; have HB := n1_; clear n0_ n1_; (try clear hb); (try clear hb2); (try clear hk); (try clear hi)) | ((with_reducible refine gate_dst (N := 15) rfl ?_); refine print_conv_str (w0 := w) w.heap.size rfl _ 22 9 5 rfl Tryd.underlying22 Tryd.underlying9 Tryd.underlying5 (fun _ => True) t105 rfl ?aL ?aF ?aB ?aS ?_; (case aB => exact (by repeat (first | (with_reducible first | exact HB.out | apply below_alloc | apply pw_below_drewN | apply below_drew1) | exact HB.out))); (case aF => exact (fun _ _ => trivial)); (case aS => exact (below_size (by repeat (first | (with_reducible first | exact HB.out | apply below_alloc | apply pw_below_drewN | apply below_drew1) | exact HB.out)))); (case aL => have := LMc11.out; first | omega | (simp only [ByteArray.size_append]; simp only [ByteArray.size, List.size_toArray, List.length_cons, List.length_nil] at this ⊢; omega)); intro v107 w20 ho hb hg hat; rw [← Ny106.out] at ho; have n0_ := Aside0.mk (Kd.V_grown (by (with_reducible repeat (first | apply Kd.V_alloc | apply Kd.V_drewN | apply Kd.V_drew)); exact HO_5.out) hg (fun _ _ => by simp [Value.ownBlock])); have n1_ := Aside0.mk (hb); have n2_ := Aside0.mk (ho); clear HO_5; clear HB; have HO_5 := n0_; have HB := n1_; have HO108 := n2_; clear n0_ n1_ n2_; clear ho hb hg hat; have hcv21 := V_string (P := Tryd.prog) Tryd.underlying22 Tryd.underlying5 Tryd.underlying9 (HO108.out)))
                go_ret
                exact ⟨by first | rfl | (simp [errW_none, errW_some] <;> rfl) | (simp [*, errW_none, errW_some] <;> rfl), by repeat (first | (with_reducible first | exact HB.out | apply below_alloc | apply pw_below_drewN | apply below_drew1) | exact HB.out)⟩
              · rw [if_neg c17] at H
                have c17b0 : (a0 == 9) = false := beq_eq_false_iff_ne.mpr c17
                have c17b1 : (a0 != 9) = true := bne_iff_ne.mpr c17
                replace H := Option.bind_eq_some_iff.mp H
                obtain ⟨t109, A220, H⟩ := H
                replace H : (some t109) = some r := H
                have A22 := Aside0.mk A220
                clear A220
                obtain rfl := Option.some.inj H
                obtain ⟨Ao23, co23, eo23⟩ := Kd.V_slice HO_5.out
                subst eo23
                go_wp2_with (first | ((with_reducible refine gate_callee (f := 102) rfl ?_); refine goesL_ (some 14) rfl rfl Tryd.func102 (by kernel_rfl) rfl #[.slice Ao23 y102.length co23] rfl (by (try simp only [List.map_toArray, List.map_cons, List.map_nil]); first | done | rfl | (simp only [List.length_drop, List.length_take]; rfl)) ?_; (with_reducible refine (bobbinref04_Paths.calls kj4 _ _ y102 t105 _ ?side1 ?side2 A10.out).mono ?_); (case side1 => repeat (first | exact (Kd.V_reads' HO_5.out).2.2 | (with_reducible refine Kd.C_alloc ?_ _) | (with_reducible refine Kd.C_drewN ?_ _) | (with_reducible refine Kd.C_drew ?_))); (case side2 => exact (Kd.V_reads' HO_5.out).2.1); rintro e w24 ⟨rfl, hb⟩; refine ⟨_, rfl, ?_⟩; have n0_ := Aside0.mk (Kd.V_below (by (with_reducible repeat (first | apply Kd.V_alloc | apply Kd.V_drewN | apply Kd.V_drew)); exact HO_5.out) hb); have n1_ := Aside0.mk (below_step (by repeat (first | (with_reducible first | exact HB.out | apply below_alloc | apply pw_below_drewN | apply below_drew1) | exact HB.out)) hb); clear HO_5; clear HB; have HO_5 := n0_; have HB := n1_; clear n0_ n1_; (try clear hb); (try clear hb2); (try clear hk); (try clear hi)) | ((with_reducible refine gate_dst (N := 15) rfl ?_); refine print_conv_str (w0 := w) w.heap.size rfl _ 22 9 5 rfl Tryd.underlying22 Tryd.underlying9 Tryd.underlying5 (fun _ => True) t105 rfl ?aL ?aF ?aB ?aS ?_; (case aB => exact (by repeat (first | (with_reducible first | exact HB.out | apply below_alloc | apply pw_below_drewN | apply below_drew1) | exact HB.out))); (case aF => exact (fun _ _ => trivial)); (case aS => exact (below_size (by repeat (first | (with_reducible first | exact HB.out | apply below_alloc | apply pw_below_drewN | apply below_drew1) | exact HB.out)))); (case aL => have := LMc11.out; first | omega | (simp only [ByteArray.size_append]; simp only [ByteArray.size, List.size_toArray, List.length_cons, List.length_nil] at this ⊢; omega)); intro v107 w25 ho hb hg hat; rw [← Ny106.out] at ho; have n0_ := Aside0.mk (Kd.V_grown (by (with_reducible repeat (first | apply Kd.V_alloc | apply Kd.V_drewN | apply Kd.V_drew)); exact HO_5.out) hg (fun _ _ => by simp [Value.ownBlock])); have n1_ := Aside0.mk (hb); have n2_ := Aside0.mk (ho); clear HO_5; clear HB; have HO_5 := n0_; have HB := n1_; have HO108 := n2_; clear n0_ n1_ n2_; clear ho hb hg hat; obtain ⟨Ao26, co26, eo26⟩ := Kd.V_slice HO108.out; subst eo26) | ((with_reducible refine gate_callee (f := 104) rfl ?_); refine goesL_ (some 42) rfl rfl Tryd.func104 (by kernel_rfl) rfl #[.slice Ao26 y106.length co26] rfl (by (try simp only [List.map_toArray, List.map_cons, List.map_nil]); first | done | rfl | (simp only [List.length_drop, List.length_take]; rfl)) ?_; (with_reducible refine (bobbinref03_Text.calls kj4 _ _ y106 t109 _ ?side1 ?side2 A22.out).mono ?_); (case side1 => repeat (first | exact (Kd.V_reads' HO108.out).2.2 | (with_reducible refine Kd.C_alloc ?_ _) | (with_reducible refine Kd.C_drewN ?_ _) | (with_reducible refine Kd.C_drew ?_))); (case side2 => exact (Kd.V_reads' HO108.out).2.1); rintro e w27 ⟨rfl, hb⟩; refine ⟨_, rfl, ?_⟩; have n0_ := Aside0.mk (Kd.V_below (by (with_reducible repeat (first | apply Kd.V_alloc | apply Kd.V_drewN | apply Kd.V_drew)); exact HO_5.out) hb); have n1_ := Aside0.mk (Kd.V_below (by (with_reducible repeat (first | apply Kd.V_alloc | apply Kd.V_drewN | apply Kd.V_drew)); exact HO108.out) hb); have n2_ := Aside0.mk (below_step (by repeat (first | (with_reducible first | exact HB.out | apply below_alloc | apply pw_below_drewN | apply below_drew1) | exact HB.out)) hb); clear HO_5; clear HO108; clear HB; have HO_5 := n0_; have HO108 := n1_; have HB := n2_; clear n0_ n1_ n2_; (try clear hb); (try clear hb2); (try clear hk); (try clear hi)))
                go_ret
                exact ⟨by first | rfl | (simp [errW_none, errW_some] <;> rfl) | (simp [*, errW_none, errW_some] <;> rfl), by repeat (first | (with_reducible first | exact HB.out | apply below_alloc | apply pw_below_drewN | apply below_drew1) | exact HB.out)⟩
          · rw [if_neg c11] at H
            exact absurd H (by simp)
        · replace c9 := Bool.eq_false_iff.mpr c9
          subst c9
          have H1 : (if a0 = 6 then ((bobbinref04_Queries.f kj4 y102).bind fun t110 => (if t110.size < 140737488355328 then ((some (([] : List Int) ++ bytesOf t110 : List Int)).bind fun y111 => (if a0 = 7 then (some (strOfNums y111)) else (if a0 = 9 then (some (strOfNums y111)) else ((bobbinref03_Text.f kj4 y111).bind fun t114 => (some t114))))) else (none))) else (if a0 = 7 then (bobbinref08_unit.j1 kj4 a0 a1 y102 a0 (a0 == 7)) else (bobbinref08_unit.j1 kj4 a0 a1 y102 a0 (a0 == 8)))) = some r := by rw [if_neg (show ¬ (false = true) by decide)] at H; exact H
          clear H
          have H := H1
          clear H1
          by_cases c28 : a0 = 6
          · rw [if_pos c28] at H
            have c28b0 : (a0 == 6) = true := beq_iff_eq.mpr c28
            have c28b1 : (a0 != 6) = false := bne_eq_false_iff_eq.mpr c28
            clear c28
            replace H := Option.bind_eq_some_iff.mp H
            obtain ⟨t110, A290, H⟩ := H
            replace H : (if t110.size < 140737488355328 then ((some (([] : List Int) ++ bytesOf t110 : List Int)).bind fun y111 => (if a0 = 7 then (some (strOfNums y111)) else (if a0 = 9 then (some (strOfNums y111)) else ((bobbinref03_Text.f kj4 y111).bind fun t114 => (some t114))))) else (none)) = some r := H
            have A29 := Aside0.mk A290
            clear A290
            by_cases c30 : t110.size < 140737488355328
            · rw [if_pos c30] at H
              have LMc30 := Aside0.mk c30
              clear c30
              obtain ⟨y111, hy111⟩ : ∃ y_ : List Int, y_ = (([] : List Int) ++ bytesOf t110) := ⟨_, rfl⟩
              replace H : (if a0 = 7 then (some (strOfNums y111)) else (if a0 = 9 then (some (strOfNums y111)) else ((bobbinref03_Text.f kj4 y111).bind fun t114 => (some t114)))) = some r := by first | (rw [hy111]; with_reducible exact H) | (have H2_ := (Option.bind_some _ _).symm.trans H; rw [hy111]; with_reducible exact H2_) | (have H2_ := (Option.bind_some _ _).symm.trans H; with_reducible exact H2_) | with_reducible exact H | (rw [hy111]; exact H) | exact H
              have Ny111 := Aside0.mk hy111
              clear hy111
              by_cases c31 : a0 = 7
              · rw [if_pos c31] at H
                have c31b0 : (a0 == 7) = true := beq_iff_eq.mpr c31
                have c31b1 : (a0 != 7) = false := bne_eq_false_iff_eq.mpr c31
                clear c31
                obtain rfl := Option.some.inj H
                obtain ⟨Ao32, co32, eo32⟩ := Kd.V_slice HO_5.out
                subst eo32
                go_wp2_with (first | ((with_reducible refine gate_callee (f := 103) rfl ?_); refine goesL_ (some 19) rfl rfl Tryd.func103 (by kernel_rfl) rfl #[.slice Ao32 y102.length co32] rfl (by (try simp only [List.map_toArray, List.map_cons, List.map_nil]); first | done | rfl | (simp only [List.length_drop, List.length_take]; rfl)) ?_; (with_reducible refine (bobbinref04_Queries.calls kj4 _ _ y102 t110 _ ?side1 ?side2 A29.out).mono ?_); (case side1 => repeat (first | exact (Kd.V_reads' HO_5.out).2.2 | (with_reducible refine Kd.C_alloc ?_ _) | (with_reducible refine Kd.C_drewN ?_ _) | (with_reducible refine Kd.C_drew ?_))); (case side2 => exact (Kd.V_reads' HO_5.out).2.1); rintro e w33 ⟨rfl, hb⟩; refine ⟨_, rfl, ?_⟩; have n0_ := Aside0.mk (Kd.V_below (by (with_reducible repeat (first | apply Kd.V_alloc | apply Kd.V_drewN | apply Kd.V_drew)); exact HO_5.out) hb); have n1_ := Aside0.mk (below_step (by repeat (first | (with_reducible first | exact HB.out | apply below_alloc | apply pw_below_drewN | apply below_drew1) | exact HB.out)) hb); clear HO_5; clear HB; have HO_5 := n0_; have HB := n1_; clear n0_ n1_; (try clear hb); (try clear hb2); (try clear hk); (try clear hi)) | ((with_reducible refine gate_dst (N := 20) rfl ?_); refine print_conv_str (w0 := w) w.heap.size rfl _ 22 9 5 rfl Tryd.underlying22 Tryd.underlying9 Tryd.underlying5 (fun _ => True) t110 rfl ?aL ?aF ?aB ?aS ?_; (case aB => exact (by repeat (first | (with_reducible first | exact HB.out | apply below_alloc | apply pw_below_drewN | apply below_drew1) | exact HB.out))); (case aF => exact (fun _ _ => trivial)); (case aS => exact (below_size (by repeat (first | (with_reducible first | exact HB.out | apply below_alloc | apply pw_below_drewN | apply below_drew1) | exact HB.out)))); (case aL => have := LMc30.out; first | omega | (simp only [ByteArray.size_append]; simp only [ByteArray.size, List.size_toArray, List.length_cons, List.length_nil] at this ⊢; omega)); intro v112 w34 ho hb hg hat; rw [← Ny111.out] at ho; have n0_ := Aside0.mk (Kd.V_grown (by (with_reducible repeat (first | apply Kd.V_alloc | apply Kd.V_drewN | apply Kd.V_drew)); exact HO_5.out) hg (fun _ _ => by simp [Value.ownBlock])); have n1_ := Aside0.mk (hb); have n2_ := Aside0.mk (ho); clear HO_5; clear HB; have HO_5 := n0_; have HB := n1_; have HO113 := n2_; clear n0_ n1_ n2_; clear ho hb hg hat; have hcv35 := V_string (P := Tryd.prog) Tryd.underlying22 Tryd.underlying5 Tryd.underlying9 (HO113.out)))
                go_ret
                exact ⟨by first | rfl | (simp [errW_none, errW_some] <;> rfl) | (simp [*, errW_none, errW_some] <;> rfl), by repeat (first | (with_reducible first | exact HB.out | apply below_alloc | apply pw_below_drewN | apply below_drew1) | exact HB.out)⟩
              · rw [if_neg c31] at H
                have c31b0 : (a0 == 7) = false := beq_eq_false_iff_ne.mpr c31
                have c31b1 : (a0 != 7) = true := bne_iff_ne.mpr c31
                by_cases c36 : a0 = 9
                · rw [if_pos c36] at H
                  have c36b0 : (a0 == 9) = true := beq_iff_eq.mpr c36
                  have c36b1 : (a0 != 9) = false := bne_eq_false_iff_eq.mpr c36
                  clear c36
                  obtain rfl := Option.some.inj H
                  obtain ⟨Ao37, co37, eo37⟩ := Kd.V_slice HO_5.out
                  subst eo37
                  go_wp2_with (first | ((with_reducible refine gate_callee (f := 103) rfl ?_); refine goesL_ (some 19) rfl rfl Tryd.func103 (by kernel_rfl) rfl #[.slice Ao37 y102.length co37] rfl (by (try simp only [List.map_toArray, List.map_cons, List.map_nil]); first | done | rfl | (simp only [List.length_drop, List.length_take]; rfl)) ?_; (with_reducible refine (bobbinref04_Queries.calls kj4 _ _ y102 t110 _ ?side1 ?side2 A29.out).mono ?_); (case side1 => repeat (first | exact (Kd.V_reads' HO_5.out).2.2 | (with_reducible refine Kd.C_alloc ?_ _) | (with_reducible refine Kd.C_drewN ?_ _) | (with_reducible refine Kd.C_drew ?_))); (case side2 => exact (Kd.V_reads' HO_5.out).2.1); rintro e w38 ⟨rfl, hb⟩; refine ⟨_, rfl, ?_⟩; have n0_ := Aside0.mk (Kd.V_below (by (with_reducible repeat (first | apply Kd.V_alloc | apply Kd.V_drewN | apply Kd.V_drew)); exact HO_5.out) hb); have n1_ := Aside0.mk (below_step (by repeat (first | (with_reducible first | exact HB.out | apply below_alloc | apply pw_below_drewN | apply below_drew1) | exact HB.out)) hb); clear HO_5; clear HB; have HO_5 := n0_; have HB := n1_; clear n0_ n1_; (try clear hb); (try clear hb2); (try clear hk); (try clear hi)) | ((with_reducible refine gate_dst (N := 20) rfl ?_); refine print_conv_str (w0 := w) w.heap.size rfl _ 22 9 5 rfl Tryd.underlying22 Tryd.underlying9 Tryd.underlying5 (fun _ => True) t110 rfl ?aL ?aF ?aB ?aS ?_; (case aB => exact (by repeat (first | (with_reducible first | exact HB.out | apply below_alloc | apply pw_below_drewN | apply below_drew1) | exact HB.out))); (case aF => exact (fun _ _ => trivial)); (case aS => exact (below_size (by repeat (first | (with_reducible first | exact HB.out | apply below_alloc | apply pw_below_drewN | apply below_drew1) | exact HB.out)))); (case aL => have := LMc30.out; first | omega | (simp only [ByteArray.size_append]; simp only [ByteArray.size, List.size_toArray, List.length_cons, List.length_nil] at this ⊢; omega)); intro v112 w39 ho hb hg hat; rw [← Ny111.out] at ho; have n0_ := Aside0.mk (Kd.V_grown (by (with_reducible repeat (first | apply Kd.V_alloc | apply Kd.V_drewN | apply Kd.V_drew)); exact HO_5.out) hg (fun _ _ => by simp [Value.ownBlock])); have n1_ := Aside0.mk (hb); have n2_ := Aside0.mk (ho); clear HO_5; clear HB; have HO_5 := n0_; have HB := n1_; have HO113 := n2_; clear n0_ n1_ n2_; clear ho hb hg hat; have hcv40 := V_string (P := Tryd.prog) Tryd.underlying22 Tryd.underlying5 Tryd.underlying9 (HO113.out)))
                  go_ret
                  exact ⟨by first | rfl | (simp [errW_none, errW_some] <;> rfl) | (simp [*, errW_none, errW_some] <;> rfl), by repeat (first | (with_reducible first | exact HB.out | apply below_alloc | apply pw_below_drewN | apply below_drew1) | exact HB.out)⟩
                · rw [if_neg c36] at H
                  have c36b0 : (a0 == 9) = false := beq_eq_false_iff_ne.mpr c36
                  have c36b1 : (a0 != 9) = true := bne_iff_ne.mpr c36
                  replace H := Option.bind_eq_some_iff.mp H
                  obtain ⟨t114, A410, H⟩ := H
                  replace H : (some t114) = some r := H
                  have A41 := Aside0.mk A410
                  clear A410
                  obtain rfl := Option.some.inj H
                  obtain ⟨Ao42, co42, eo42⟩ := Kd.V_slice HO_5.out
                  subst eo42
                  go_wp2_with (first | ((with_reducible refine gate_callee (f := 103) rfl ?_); refine goesL_ (some 19) rfl rfl Tryd.func103 (by kernel_rfl) rfl #[.slice Ao42 y102.length co42] rfl (by (try simp only [List.map_toArray, List.map_cons, List.map_nil]); first | done | rfl | (simp only [List.length_drop, List.length_take]; rfl)) ?_; (with_reducible refine (bobbinref04_Queries.calls kj4 _ _ y102 t110 _ ?side1 ?side2 A29.out).mono ?_); (case side1 => repeat (first | exact (Kd.V_reads' HO_5.out).2.2 | (with_reducible refine Kd.C_alloc ?_ _) | (with_reducible refine Kd.C_drewN ?_ _) | (with_reducible refine Kd.C_drew ?_))); (case side2 => exact (Kd.V_reads' HO_5.out).2.1); rintro e w43 ⟨rfl, hb⟩; refine ⟨_, rfl, ?_⟩; have n0_ := Aside0.mk (Kd.V_below (by (with_reducible repeat (first | apply Kd.V_alloc | apply Kd.V_drewN | apply Kd.V_drew)); exact HO_5.out) hb); have n1_ := Aside0.mk (below_step (by repeat (first | (with_reducible first | exact HB.out | apply below_alloc | apply pw_below_drewN | apply below_drew1) | exact HB.out)) hb); clear HO_5; clear HB; have HO_5 := n0_; have HB := n1_; clear n0_ n1_; (try clear hb); (try clear hb2); (try clear hk); (try clear hi)) | ((with_reducible refine gate_dst (N := 20) rfl ?_); refine print_conv_str (w0 := w) w.heap.size rfl _ 22 9 5 rfl Tryd.underlying22 Tryd.underlying9 Tryd.underlying5 (fun _ => True) t110 rfl ?aL ?aF ?aB ?aS ?_; (case aB => exact (by repeat (first | (with_reducible first | exact HB.out | apply below_alloc | apply pw_below_drewN | apply below_drew1) | exact HB.out))); (case aF => exact (fun _ _ => trivial)); (case aS => exact (below_size (by repeat (first | (with_reducible first | exact HB.out | apply below_alloc | apply pw_below_drewN | apply below_drew1) | exact HB.out)))); (case aL => have := LMc30.out; first | omega | (simp only [ByteArray.size_append]; simp only [ByteArray.size, List.size_toArray, List.length_cons, List.length_nil] at this ⊢; omega)); intro v112 w44 ho hb hg hat; rw [← Ny111.out] at ho; have n0_ := Aside0.mk (Kd.V_grown (by (with_reducible repeat (first | apply Kd.V_alloc | apply Kd.V_drewN | apply Kd.V_drew)); exact HO_5.out) hg (fun _ _ => by simp [Value.ownBlock])); have n1_ := Aside0.mk (hb); have n2_ := Aside0.mk (ho); clear HO_5; clear HB; have HO_5 := n0_; have HB := n1_; have HO113 := n2_; clear n0_ n1_ n2_; clear ho hb hg hat; obtain ⟨Ao45, co45, eo45⟩ := Kd.V_slice HO113.out; subst eo45) | ((with_reducible refine gate_callee (f := 104) rfl ?_); refine goesL_ (some 42) rfl rfl Tryd.func104 (by kernel_rfl) rfl #[.slice Ao45 y111.length co45] rfl (by (try simp only [List.map_toArray, List.map_cons, List.map_nil]); first | done | rfl | (simp only [List.length_drop, List.length_take]; rfl)) ?_; (with_reducible refine (bobbinref03_Text.calls kj4 _ _ y111 t114 _ ?side1 ?side2 A41.out).mono ?_); (case side1 => repeat (first | exact (Kd.V_reads' HO113.out).2.2 | (with_reducible refine Kd.C_alloc ?_ _) | (with_reducible refine Kd.C_drewN ?_ _) | (with_reducible refine Kd.C_drew ?_))); (case side2 => exact (Kd.V_reads' HO113.out).2.1); rintro e w46 ⟨rfl, hb⟩; refine ⟨_, rfl, ?_⟩; have n0_ := Aside0.mk (Kd.V_below (by (with_reducible repeat (first | apply Kd.V_alloc | apply Kd.V_drewN | apply Kd.V_drew)); exact HO_5.out) hb); have n1_ := Aside0.mk (Kd.V_below (by (with_reducible repeat (first | apply Kd.V_alloc | apply Kd.V_drewN | apply Kd.V_drew)); exact HO113.out) hb); have n2_ := Aside0.mk (below_step (by repeat (first | (with_reducible first | exact HB.out | apply below_alloc | apply pw_below_drewN | apply below_drew1) | exact HB.out)) hb); clear HO_5; clear HO113; clear HB; have HO_5 := n0_; have HO113 := n1_; have HB := n2_; clear n0_ n1_ n2_; (try clear hb); (try clear hb2); (try clear hk); (try clear hi)))
                  go_ret
                  exact ⟨by first | rfl | (simp [errW_none, errW_some] <;> rfl) | (simp [*, errW_none, errW_some] <;> rfl), by repeat (first | (with_reducible first | exact HB.out | apply below_alloc | apply pw_below_drewN | apply below_drew1) | exact HB.out)⟩
            · rw [if_neg c30] at H
              exact absurd H (by simp)
          · rw [if_neg c28] at H
            have c28b0 : (a0 == 6) = false := beq_eq_false_iff_ne.mpr c28
            have c28b1 : (a0 != 6) = true := bne_iff_ne.mpr c28
            have HC47 := Aside0.mk H
            clear H
            go_upto_if 21 with (fail)
            go_cut [21] (fun v21 wc => ∃ (kq : Nat) (x21_46 : Bool), v21 = .bool x21_46 ∧ Aside0 (bobbinref08_unit.j1 kq a0 a1 y102 a0 x21_46 = some r) ∧ Aside0 (kq ≤ kj4) ∧ Aside0 (Kd.V (Kd.int .u8) 5 wc w.heap.size (fun _ => True) v103 y102) ∧ Aside0 (Below w.heap.size w wc))
            case first =>
              have H := HC47.out
              clear HC47
              by_cases c48 : a0 = 7
              · rw [if_pos c48] at H
                have c48b0 : (a0 == 7) = true := beq_iff_eq.mpr c48
                have c48b1 : (a0 != 7) = false := bne_eq_false_iff_eq.mpr c48
                clear c48
                (first | rw [c48b0] | (simp only [i64_w, i32_w]; rw [c48b0]) | skip)
                have H' := Aside0.mk H
                clear H
                go_wp2
                go_meet
                case rel => exact ⟨_, ((a0 == 7)), (by first | rfl | (simp; done) | (simp [*]; done)), H', ⟨by have := HJ4.out; first | omega | exact Nat.le_refl _⟩, ⟨by (with_reducible repeat (first | apply Kd.V_alloc | apply Kd.V_drewN | apply Kd.V_drew)); exact HO_5.out⟩, ⟨by repeat (first | (with_reducible first | exact HB.out | apply below_alloc | apply pw_below_drewN | apply below_drew1) | exact HB.out)⟩⟩
              · rw [if_neg c48] at H
                have c48b0 : (a0 == 7) = false := beq_eq_false_iff_ne.mpr c48
                have c48b1 : (a0 != 7) = true := bne_iff_ne.mpr c48
                (first | rw [c48b0] | (simp only [i64_w, i32_w]; rw [c48b0]) | skip)
                have H' := Aside0.mk H
                clear H
                go_wp2
                go_meet
                case rel => exact ⟨_, ((a0 == 8)), (by first | rfl | (simp; done) | (simp [*]; done)), H', ⟨by have := HJ4.out; first | omega | exact Nat.le_refl _⟩, ⟨by (with_reducible repeat (first | apply Kd.V_alloc | apply Kd.V_drewN | apply Kd.V_drew)); exact HO_5.out⟩, ⟨by repeat (first | (with_reducible first | exact HB.out | apply below_alloc | apply pw_below_drewN | apply below_drew1) | exact HB.out)⟩⟩
            case rest =>
              clear HC47
              try clear c1
              try clear hcv1
              try clear c2
              try clear p2
              try clear hcv2
              try clear c3
              try clear hcv3
              try clear c4
              try clear hcv4
              try clear c6
              try clear c8
              try clear c8b0
              try clear c8b1
              try clear c9
              try clear c10
              try clear c11
              try clear c12
              try clear c12b0
              try clear c12b1
              try clear hcv16
              try clear c17
              try clear c17b0
              try clear c17b1
              try clear hcv21
              try clear c28
              try clear c28b0
              try clear c28b1
              try clear c30
              try clear c31
              try clear c31b0
              try clear c31b1
              try clear hcv35
              try clear c36
              try clear c36b0
              try clear c36b1
              try clear hcv40
              try clear c48
              try clear c48b0
              try clear c48b1
              try clear p2
              obtain ⟨kq, x21_46, rfl, HA, HJ46, HO_5, HB⟩ := hcut
              cases kq with
              | zero => exact absurd HA.out (by simp [bobbinref08_unit.j1])
              | succ kj46 =>
                have H := HA.out
                clear HA
                simp only [bobbinref08_unit.j1] at H
                by_cases c49 : x21_46 = true
                · subst c49
                  have H1 : ((bobbinref06_Unit.f a1).bind fun t115 => (if t115.size < 140737488355328 then ((some (([] : List Int) ++ bytesOf t115 : List Int)).bind fun y116 => (if a0 = 7 then (some (strOfNums y116)) else (if a0 = 9 then (some (strOfNums y116)) else ((bobbinref03_Text.f kj46 y116).bind fun t119 => (some t119))))) else (none))) = some r := by rw [if_pos rfl] at H; exact H
                  clear H
                  have H := H1
                  clear H1
                  replace H := Option.bind_eq_some_iff.mp H
                  obtain ⟨t115, A500, H⟩ := H
                  replace H : (if t115.size < 140737488355328 then ((some (([] : List Int) ++ bytesOf t115 : List Int)).bind fun y116 => (if a0 = 7 then (some (strOfNums y116)) else (if a0 = 9 then (some (strOfNums y116)) else ((bobbinref03_Text.f kj46 y116).bind fun t119 => (some t119))))) else (none)) = some r := H
                  have A50 := Aside0.mk A500
                  clear A500
                  by_cases c51 : t115.size < 140737488355328
                  · rw [if_pos c51] at H
                    have LMc51 := Aside0.mk c51
                    clear c51
                    obtain ⟨y116, hy116⟩ : ∃ y_ : List Int, y_ = (([] : List Int) ++ bytesOf t115) := ⟨_, rfl⟩
                    replace H : (if a0 = 7 then (some (strOfNums y116)) else (if a0 = 9 then (some (strOfNums y116)) else ((bobbinref03_Text.f kj46 y116).bind fun t119 => (some t119)))) = some r := by first | (rw [hy116]; with_reducible exact H) | (have H2_ := (Option.bind_some _ _).symm.trans H; rw [hy116]; with_reducible exact H2_) | (have H2_ := (Option.bind_some _ _).symm.trans H; with_reducible exact H2_) | with_reducible exact H | (rw [hy116]; exact H) | exact H
                    have Ny116 := Aside0.mk hy116
                    clear hy116
                    by_cases c52 : a0 = 7
                    · rw [if_pos c52] at H
                      have c52b0 : (a0 == 7) = true := beq_iff_eq.mpr c52
                      have c52b1 : (a0 != 7) = false := bne_eq_false_iff_eq.mpr c52
                      clear c52
                      obtain rfl := Option.some.inj H
                      go_wp2_with (first | ((with_reducible refine gate_callee (f := 34) rfl ?_); refine goesL_ (some 25) rfl rfl Tryd.func34 (by kernel_rfl) rfl #[.int .i64 a1] rfl (by (try simp only [List.map_toArray, List.map_cons, List.map_nil]); first | done | rfl | (simp only [List.length_drop, List.length_take]; rfl)) ?_; (with_reducible refine (bobbinref06_Unit.calls a1 t115 _ A50.out).mono ?_); rintro e w53 ⟨rfl, hb⟩; refine ⟨_, rfl, ?_⟩; have n0_ := Aside0.mk (Kd.V_below (by (with_reducible repeat (first | apply Kd.V_alloc | apply Kd.V_drewN | apply Kd.V_drew)); exact HO_5.out) hb); have n1_ := Aside0.mk (below_step (by repeat (first | (with_reducible first | exact HB.out | apply below_alloc | apply pw_below_drewN | apply below_drew1) | exact HB.out)) hb); clear HO_5; clear HB; have HO_5 := n0_; have HB := n1_; clear n0_ n1_; (try clear hb); (try clear hb2); (try clear hk); (try clear hi)) | ((with_reducible refine gate_dst (N := 26) rfl ?_); refine print_conv_str (w0 := w) w.heap.size rfl _ 22 9 5 rfl Tryd.underlying22 Tryd.underlying9 Tryd.underlying5 (fun _ => True) t115 rfl ?aL ?aF ?aB ?aS ?_; (case aB => exact (by repeat (first | (with_reducible first | exact HB.out | apply below_alloc | apply pw_below_drewN | apply below_drew1) | exact HB.out))); (case aF => exact (fun _ _ => trivial)); (case aS => exact (below_size (by repeat (first | (with_reducible first | exact HB.out | apply below_alloc | apply pw_below_drewN | apply below_drew1) | exact HB.out)))); (case aL => have := LMc51.out; first | omega | (simp only [ByteArray.size_append]; simp only [ByteArray.size, List.size_toArray, List.length_cons, List.length_nil] at this ⊢; omega)); intro v117 w54 ho hb hg hat; rw [← Ny116.out] at ho; have n0_ := Aside0.mk (Kd.V_grown (by (with_reducible repeat (first | apply Kd.V_alloc | apply Kd.V_drewN | apply Kd.V_drew)); exact HO_5.out) hg (fun _ _ => by simp [Value.ownBlock])); have n1_ := Aside0.mk (hb); have n2_ := Aside0.mk (ho); clear HO_5; clear HB; have HO_5 := n0_; have HB := n1_; have HO118 := n2_; clear n0_ n1_ n2_; clear ho hb hg hat; have hcv55 := V_string (P := Tryd.prog) Tryd.underlying22 Tryd.underlying5 Tryd.underlying9 (HO118.out)))
                      go_ret
                      exact ⟨by first | rfl | (simp [errW_none, errW_some] <;> rfl) | (simp [*, errW_none, errW_some] <;> rfl), by repeat (first | (with_reducible first | exact HB.out | apply below_alloc | apply pw_below_drewN | apply below_drew1) | exact HB.out)⟩
                    · rw [if_neg c52] at H
                      have c52b0 : (a0 == 7) = false := beq_eq_false_iff_ne.mpr c52
                      have c52b1 : (a0 != 7) = true := bne_iff_ne.mpr c52
                      by_cases c56 : a0 = 9
                      · rw [if_pos c56] at H
                        have c56b0 : (a0 == 9) = true := beq_iff_eq.mpr c56
                        have c56b1 : (a0 != 9) = false := bne_eq_false_iff_eq.mpr c56
                        clear c56
                        obtain rfl := Option.some.inj H
                        go_wp2_with (first | ((with_reducible refine gate_callee (f := 34) rfl ?_); refine goesL_ (some 25) rfl rfl Tryd.func34 (by kernel_rfl) rfl #[.int .i64 a1] rfl (by (try simp only [List.map_toArray, List.map_cons, List.map_nil]); first | done | rfl | (simp only [List.length_drop, List.length_take]; rfl)) ?_; (with_reducible refine (bobbinref06_Unit.calls a1 t115 _ A50.out).mono ?_); rintro e w57 ⟨rfl, hb⟩; refine ⟨_, rfl, ?_⟩; have n0_ := Aside0.mk (Kd.V_below (by (with_reducible repeat (first | apply Kd.V_alloc | apply Kd.V_drewN | apply Kd.V_drew)); exact HO_5.out) hb); have n1_ := Aside0.mk (below_step (by repeat (first | (with_reducible first | exact HB.out | apply below_alloc | apply pw_below_drewN | apply below_drew1) | exact HB.out)) hb); clear HO_5; clear HB; have HO_5 := n0_; have HB := n1_; clear n0_ n1_; (try clear hb); (try clear hb2); (try clear hk); (try clear hi)) | ((with_reducible refine gate_dst (N := 26) rfl ?_); refine print_conv_str (w0 := w) w.heap.size rfl _ 22 9 5 rfl Tryd.underlying22 Tryd.underlying9 Tryd.underlying5 (fun _ => True) t115 rfl ?aL ?aF ?aB ?aS ?_; (case aB => exact (by repeat (first | (with_reducible first | exact HB.out | apply below_alloc | apply pw_below_drewN | apply below_drew1) | exact HB.out))); (case aF => exact (fun _ _ => trivial)); (case aS => exact (below_size (by repeat (first | (with_reducible first | exact HB.out | apply below_alloc | apply pw_below_drewN | apply below_drew1) | exact HB.out)))); (case aL => have := LMc51.out; first | omega | (simp only [ByteArray.size_append]; simp only [ByteArray.size, List.size_toArray, List.length_cons, List.length_nil] at this ⊢; omega)); intro v117 w58 ho hb hg hat; rw [← Ny116.out] at ho; have n0_ := Aside0.mk (Kd.V_grown (by (with_reducible repeat (first | apply Kd.V_alloc | apply Kd.V_drewN | apply Kd.V_drew)); exact HO_5.out) hg (fun _ _ => by simp [Value.ownBlock])); have n1_ := Aside0.mk (hb); have n2_ := Aside0.mk (ho); clear HO_5; clear HB; have HO_5 := n0_; have HB := n1_; have HO118 := n2_; clear n0_ n1_ n2_; clear ho hb hg hat; have hcv59 := V_string (P := Tryd.prog) Tryd.underlying22 Tryd.underlying5 Tryd.underlying9 (HO118.out)))
                        go_ret
                        exact ⟨by first | rfl | (simp [errW_none, errW_some] <;> rfl) | (simp [*, errW_none, errW_some] <;> rfl), by repeat (first | (with_reducible first | exact HB.out | apply below_alloc | apply pw_below_drewN | apply below_drew1) | exact HB.out)⟩
                      · rw [if_neg c56] at H
                        have c56b0 : (a0 == 9) = false := beq_eq_false_iff_ne.mpr c56
                        have c56b1 : (a0 != 9) = true := bne_iff_ne.mpr c56
                        replace H := Option.bind_eq_some_iff.mp H
                        obtain ⟨t119, A600, H⟩ := H
                        replace H : (some t119) = some r := H
                        have A60 := Aside0.mk A600
                        clear A600
                        obtain rfl := Option.some.inj H
                        go_wp2_with (first | ((with_reducible refine gate_callee (f := 34) rfl ?_); refine goesL_ (some 25) rfl rfl Tryd.func34 (by kernel_rfl) rfl #[.int .i64 a1] rfl (by (try simp only [List.map_toArray, List.map_cons, List.map_nil]); first | done | rfl | (simp only [List.length_drop, List.length_take]; rfl)) ?_; (with_reducible refine (bobbinref06_Unit.calls a1 t115 _ A50.out).mono ?_); rintro e w61 ⟨rfl, hb⟩; refine ⟨_, rfl, ?_⟩; have n0_ := Aside0.mk (Kd.V_below (by (with_reducible repeat (first | apply Kd.V_alloc | apply Kd.V_drewN | apply Kd.V_drew)); exact HO_5.out) hb); have n1_ := Aside0.mk (below_step (by repeat (first | (with_reducible first | exact HB.out | apply below_alloc | apply pw_below_drewN | apply below_drew1) | exact HB.out)) hb); clear HO_5; clear HB; have HO_5 := n0_; have HB := n1_; clear n0_ n1_; (try clear hb); (try clear hb2); (try clear hk); (try clear hi)) | ((with_reducible refine gate_dst (N := 26) rfl ?_); refine print_conv_str (w0 := w) w.heap.size rfl _ 22 9 5 rfl Tryd.underlying22 Tryd.underlying9 Tryd.underlying5 (fun _ => True) t115 rfl ?aL ?aF ?aB ?aS ?_; (case aB => exact (by repeat (first | (with_reducible first | exact HB.out | apply below_alloc | apply pw_below_drewN | apply below_drew1) | exact HB.out))); (case aF => exact (fun _ _ => trivial)); (case aS => exact (below_size (by repeat (first | (with_reducible first | exact HB.out | apply below_alloc | apply pw_below_drewN | apply below_drew1) | exact HB.out)))); (case aL => have := LMc51.out; first | omega | (simp only [ByteArray.size_append]; simp only [ByteArray.size, List.size_toArray, List.length_cons, List.length_nil] at this ⊢; omega)); intro v117 w62 ho hb hg hat; rw [← Ny116.out] at ho; have n0_ := Aside0.mk (Kd.V_grown (by (with_reducible repeat (first | apply Kd.V_alloc | apply Kd.V_drewN | apply Kd.V_drew)); exact HO_5.out) hg (fun _ _ => by simp [Value.ownBlock])); have n1_ := Aside0.mk (hb); have n2_ := Aside0.mk (ho); clear HO_5; clear HB; have HO_5 := n0_; have HB := n1_; have HO118 := n2_; clear n0_ n1_ n2_; clear ho hb hg hat; obtain ⟨Ao63, co63, eo63⟩ := Kd.V_slice HO118.out; subst eo63) | ((with_reducible refine gate_callee (f := 104) rfl ?_); refine goesL_ (some 42) rfl rfl Tryd.func104 (by kernel_rfl) rfl #[.slice Ao63 y116.length co63] rfl (by (try simp only [List.map_toArray, List.map_cons, List.map_nil]); first | done | rfl | (simp only [List.length_drop, List.length_take]; rfl)) ?_; (with_reducible refine (bobbinref03_Text.calls kj46 _ _ y116 t119 _ ?side1 ?side2 A60.out).mono ?_); (case side1 => repeat (first | exact (Kd.V_reads' HO118.out).2.2 | (with_reducible refine Kd.C_alloc ?_ _) | (with_reducible refine Kd.C_drewN ?_ _) | (with_reducible refine Kd.C_drew ?_))); (case side2 => exact (Kd.V_reads' HO118.out).2.1); rintro e w64 ⟨rfl, hb⟩; refine ⟨_, rfl, ?_⟩; have n0_ := Aside0.mk (Kd.V_below (by (with_reducible repeat (first | apply Kd.V_alloc | apply Kd.V_drewN | apply Kd.V_drew)); exact HO_5.out) hb); have n1_ := Aside0.mk (Kd.V_below (by (with_reducible repeat (first | apply Kd.V_alloc | apply Kd.V_drewN | apply Kd.V_drew)); exact HO118.out) hb); have n2_ := Aside0.mk (below_step (by repeat (first | (with_reducible first | exact HB.out | apply below_alloc | apply pw_below_drewN | apply below_drew1) | exact HB.out)) hb); clear HO_5; clear HO118; clear HB; have HO_5 := n0_; have HO118 := n1_; have HB := n2_; clear n0_ n1_ n2_; (try clear hb); (try clear hb2); (try clear hk); (try clear hi)))
                        go_ret
                        exact ⟨by first | rfl | (simp [errW_none, errW_some] <;> rfl) | (simp [*, errW_none, errW_some] <;> rfl), by repeat (first | (with_reducible first | exact HB.out | apply below_alloc | apply pw_below_drewN | apply below_drew1) | exact HB.out)⟩
                  · rw [if_neg c51] at H
                    exact absurd H (by simp)
                · replace c49 := Bool.eq_false_iff.mpr c49
                  subst c49
                  have H1 : (if a0 = 9 then (bobbinref08_unit.j2 kj46 a0 y102 (a0 == 9)) else (bobbinref08_unit.j2 kj46 a0 y102 (a0 == 10))) = some r := by rw [if_neg (show ¬ (false = true) by decide)] at H; exact H
                  clear H
                  have H := H1
                  clear H1
                  have HC65 := Aside0.mk H
                  clear H
                  go_upto_if 27 with (fail)
                  go_cut [27] (fun v27 wc => ∃ (kq : Nat) (x27_64 : Bool), v27 = .bool x27_64 ∧ Aside0 (bobbinref08_unit.j2 kq a0 y102 x27_64 = some r) ∧ Aside0 (kq ≤ kj46) ∧ Aside0 (Kd.V (Kd.int .u8) 5 wc w.heap.size (fun _ => True) v103 y102) ∧ Aside0 (Below w.heap.size w wc))
                  case first =>
                    have H := HC65.out
                    clear HC65
                    by_cases c66 : a0 = 9
                    · rw [if_pos c66] at H
                      have c66b0 : (a0 == 9) = true := beq_iff_eq.mpr c66
                      have c66b1 : (a0 != 9) = false := bne_eq_false_iff_eq.mpr c66
                      clear c66
                      (first | rw [c66b0] | (simp only [i64_w, i32_w]; rw [c66b0]) | skip)
                      have H' := Aside0.mk H
                      clear H
                      go_wp2
                      go_meet
                      case rel => exact ⟨_, ((a0 == 9)), (by first | rfl | (simp; done) | (simp [*]; done)), H', ⟨by have := HJ4.out; have := HJ46.out; first | omega | exact Nat.le_refl _⟩, ⟨by (with_reducible repeat (first | apply Kd.V_alloc | apply Kd.V_drewN | apply Kd.V_drew)); exact HO_5.out⟩, ⟨by repeat (first | (with_reducible first | exact HB.out | apply below_alloc | apply pw_below_drewN | apply below_drew1) | exact HB.out)⟩⟩
                    · rw [if_neg c66] at H
                      have c66b0 : (a0 == 9) = false := beq_eq_false_iff_ne.mpr c66
                      have c66b1 : (a0 != 9) = true := bne_iff_ne.mpr c66
                      (first | rw [c66b0] | (simp only [i64_w, i32_w]; rw [c66b0]) | skip)
                      have H' := Aside0.mk H
                      clear H
                      go_wp2
                      go_meet
                      case rel => exact ⟨_, ((a0 == 10)), (by first | rfl | (simp; done) | (simp [*]; done)), H', ⟨by have := HJ4.out; have := HJ46.out; first | omega | exact Nat.le_refl _⟩, ⟨by (with_reducible repeat (first | apply Kd.V_alloc | apply Kd.V_drewN | apply Kd.V_drew)); exact HO_5.out⟩, ⟨by repeat (first | (with_reducible first | exact HB.out | apply below_alloc | apply pw_below_drewN | apply below_drew1) | exact HB.out)⟩⟩
                  case rest =>
                    clear HC65
                    try clear c1
                    try clear hcv1
                    try clear c2
                    try clear p2
                    try clear hcv2
                    try clear c3
                    try clear hcv3
                    try clear c4
                    try clear hcv4
                    try clear c5
                    try clear hcv5
                    try clear c6
                    try clear c8
                    try clear c8b0
                    try clear c8b1
                    try clear c9
                    try clear c10
                    try clear c11
                    try clear c12
                    try clear c12b0
                    try clear c12b1
                    try clear hcv16
                    try clear c17
                    try clear c17b0
                    try clear c17b1
                    try clear hcv21
                    try clear c28
                    try clear c28b0
                    try clear c28b1
                    try clear c30
                    try clear c31
                    try clear c31b0
                    try clear c31b1
                    try clear c34
                    try clear hcv35
                    try clear c36
                    try clear c36b0
                    try clear c36b1
                    try clear hcv40
                    try clear c48
                    try clear c48b0
                    try clear c48b1
                    try clear c49
                    try clear c51
                    try clear c52
                    try clear c52b0
                    try clear c52b1
                    try clear hcv55
                    try clear c56
                    try clear c56b0
                    try clear c56b1
                    try clear hcv59
                    try clear c65
                    try clear c66
                    try clear c66b0
                    try clear c66b1
                    try clear p2
                    obtain ⟨kq, x27_64, rfl, HA, HJ64, HO_5, HB⟩ := hcut
                    cases kq with
                    | zero => exact absurd HA.out (by simp [bobbinref08_unit.j2])
                    | succ kj64 =>
                      have H := HA.out
                      clear HA
                      simp only [bobbinref08_unit.j2] at H
                      by_cases c67 : x27_64 = true
                      · subst c67
                        have H1 : ((bobbinref07_Text.f y102).bind fun t120 => (if t120.size < 140737488355328 then ((some (([] : List Int) ++ bytesOf t120 : List Int)).bind fun y121 => (if a0 = 7 then (some (strOfNums y121)) else (if a0 = 9 then (some (strOfNums y121)) else ((bobbinref03_Text.f kj64 y121).bind fun t124 => (some t124))))) else (none))) = some r := by rw [if_pos rfl] at H; exact H
                        clear H
                        have H := H1
                        clear H1
                        replace H := Option.bind_eq_some_iff.mp H
                        obtain ⟨t120, A680, H⟩ := H
                        replace H : (if t120.size < 140737488355328 then ((some (([] : List Int) ++ bytesOf t120 : List Int)).bind fun y121 => (if a0 = 7 then (some (strOfNums y121)) else (if a0 = 9 then (some (strOfNums y121)) else ((bobbinref03_Text.f kj64 y121).bind fun t124 => (some t124))))) else (none)) = some r := H
                        have A68 := Aside0.mk A680
                        clear A680
                        by_cases c69 : t120.size < 140737488355328
                        · rw [if_pos c69] at H
                          have LMc69 := Aside0.mk c69
                          clear c69
                          obtain ⟨y121, hy121⟩ : ∃ y_ : List Int, y_ = (([] : List Int) ++ bytesOf t120) := ⟨_, rfl⟩
                          replace H : (if a0 = 7 then (some (strOfNums y121)) else (if a0 = 9 then (some (strOfNums y121)) else ((bobbinref03_Text.f kj64 y121).bind fun t124 => (some t124)))) = some r := by first | (rw [hy121]; with_reducible exact H) | (have H2_ := (Option.bind_some _ _).symm.trans H; rw [hy121]; with_reducible exact H2_) | (have H2_ := (Option.bind_some _ _).symm.trans H; with_reducible exact H2_) | with_reducible exact H | (rw [hy121]; exact H) | exact H
                          have Ny121 := Aside0.mk hy121
                          clear hy121
                          by_cases c70 : a0 = 7
                          · rw [if_pos c70] at H
                            have c70b0 : (a0 == 7) = true := beq_iff_eq.mpr c70
                            have c70b1 : (a0 != 7) = false := bne_eq_false_iff_eq.mpr c70
                            clear c70
                            obtain rfl := Option.some.inj H
                            obtain ⟨Ao71, co71, eo71⟩ := Kd.V_slice HO_5.out
                            subst eo71
                            go_wp2_with (first | ((with_reducible refine gate_callee (f := 28) rfl ?_); refine goesL_ (some 31) rfl rfl Tryd.func28 (by kernel_rfl) rfl #[.slice Ao71 y102.length co71] rfl (by (try simp only [List.map_toArray, List.map_cons, List.map_nil]); first | done | rfl | (simp only [List.length_drop, List.length_take]; rfl)) ?_; (with_reducible refine (bobbinref07_Text.calls _ _ y102 t120 _ ?side1 ?side2 A68.out).mono ?_); (case side1 => repeat (first | exact (Kd.V_reads' HO_5.out).2.2 | (with_reducible refine Kd.C_alloc ?_ _) | (with_reducible refine Kd.C_drewN ?_ _) | (with_reducible refine Kd.C_drew ?_))); (case side2 => exact (Kd.V_reads' HO_5.out).2.1); rintro e w72 ⟨rfl, hb⟩; refine ⟨_, rfl, ?_⟩; have n0_ := Aside0.mk (Kd.V_below (by (with_reducible repeat (first | apply Kd.V_alloc | apply Kd.V_drewN | apply Kd.V_drew)); exact HO_5.out) hb); have n1_ := Aside0.mk (below_step (by repeat (first | (with_reducible first | exact HB.out | apply below_alloc | apply pw_below_drewN | apply below_drew1) | exact HB.out)) hb); clear HO_5; clear HB; have HO_5 := n0_; have HB := n1_; clear n0_ n1_; (try clear hb); (try clear hb2); (try clear hk); (try clear hi)) | ((with_reducible refine gate_dst (N := 32) rfl ?_); refine print_conv_str (w0 := w) w.heap.size rfl _ 22 9 5 rfl Tryd.underlying22 Tryd.underlying9 Tryd.underlying5 (fun _ => True) t120 rfl ?aL ?aF ?aB ?aS ?_; (case aB => exact (by repeat (first | (with_reducible first | exact HB.out | apply below_alloc | apply pw_below_drewN | apply below_drew1) | exact HB.out))); (case aF => exact (fun _ _ => trivial)); (case aS => exact (below_size (by repeat (first | (with_reducible first | exact HB.out | apply below_alloc | apply pw_below_drewN | apply below_drew1) | exact HB.out)))); (case aL => have := LMc69.out; first | omega | (simp only [ByteArray.size_append]; simp only [ByteArray.size, List.size_toArray, List.length_cons, List.length_nil] at this ⊢; omega)); intro v122 w73 ho hb hg hat; rw [← Ny121.out] at ho; have n0_ := Aside0.mk (Kd.V_grown (by (with_reducible repeat (first | apply Kd.V_alloc | apply Kd.V_drewN | apply Kd.V_drew)); exact HO_5.out) hg (fun _ _ => by simp [Value.ownBlock])); have n1_ := Aside0.mk (hb); have n2_ := Aside0.mk (ho); clear HO_5; clear HB; have HO_5 := n0_; have HB := n1_; have HO123 := n2_; clear n0_ n1_ n2_; clear ho hb hg hat; have hcv74 := V_string (P := Tryd.prog) Tryd.underlying22 Tryd.underlying5 Tryd.underlying9 (HO123.out)))
                            go_ret
                            exact ⟨by first | rfl | (simp [errW_none, errW_some] <;> rfl) | (simp [*, errW_none, errW_some] <;> rfl), by repeat (first | (with_reducible first | exact HB.out | apply below_alloc | apply pw_below_drewN | apply below_drew1) | exact HB.out)⟩
                          · rw [if_neg c70] at H
                            have c70b0 : (a0 == 7) = false := beq_eq_false_iff_ne.mpr c70
                            have c70b1 : (a0 != 7) = true := bne_iff_ne.mpr c70
                            by_cases c75 : a0 = 9
                            · rw [if_pos c75] at H
                              have c75b0 : (a0 == 9) = true := beq_iff_eq.mpr c75
                              have c75b1 : (a0 != 9) = false := bne_eq_false_iff_eq.mpr c75
                              clear c75
                              obtain rfl := Option.some.inj H
                              obtain ⟨Ao76, co76, eo76⟩ := Kd.V_slice HO_5.out
                              subst eo76
                              go_wp2_with (first | ((with_reducible refine gate_callee (f := 28) rfl ?_); refine goesL_ (some 31) rfl rfl Tryd.func28 (by kernel_rfl) rfl #[.slice Ao76 y102.length co76] rfl (by (try simp only [List.map_toArray, List.map_cons, List.map_nil]); first | done | rfl | (simp only [List.length_drop, List.length_take]; rfl)) ?_; (with_reducible refine (bobbinref07_Text.calls _ _ y102 t120 _ ?side1 ?side2 A68.out).mono ?_); (case side1 => repeat (first | exact (Kd.V_reads' HO_5.out).2.2 | (with_reducible refine Kd.C_alloc ?_ _) | (with_reducible refine Kd.C_drewN ?_ _) | (with_reducible refine Kd.C_drew ?_))); (case side2 => exact (Kd.V_reads' HO_5.out).2.1); rintro e w77 ⟨rfl, hb⟩; refine ⟨_, rfl, ?_⟩; have n0_ := Aside0.mk (Kd.V_below (by (with_reducible repeat (first | apply Kd.V_alloc | apply Kd.V_drewN | apply Kd.V_drew)); exact HO_5.out) hb); have n1_ := Aside0.mk (below_step (by repeat (first | (with_reducible first | exact HB.out | apply below_alloc | apply pw_below_drewN | apply below_drew1) | exact HB.out)) hb); clear HO_5; clear HB; have HO_5 := n0_; have HB := n1_; clear n0_ n1_; (try clear hb); (try clear hb2); (try clear hk); (try clear hi)) | ((with_reducible refine gate_dst (N := 32) rfl ?_); refine print_conv_str (w0 := w) w.heap.size rfl _ 22 9 5 rfl Tryd.underlying22 Tryd.underlying9 Tryd.underlying5 (fun _ => True) t120 rfl ?aL ?aF ?aB ?aS ?_; (case aB => exact (by repeat (first | (with_reducible first | exact HB.out | apply below_alloc | apply pw_below_drewN | apply below_drew1) | exact HB.out))); (case aF => exact (fun _ _ => trivial)); (case aS => exact (below_size (by repeat (first | (with_reducible first | exact HB.out | apply below_alloc | apply pw_below_drewN | apply below_drew1) | exact HB.out)))); (case aL => have := LMc69.out; first | omega | (simp only [ByteArray.size_append]; simp only [ByteArray.size, List.size_toArray, List.length_cons, List.length_nil] at this ⊢; omega)); intro v122 w78 ho hb hg hat; rw [← Ny121.out] at ho; have n0_ := Aside0.mk (Kd.V_grown (by (with_reducible repeat (first | apply Kd.V_alloc | apply Kd.V_drewN | apply Kd.V_drew)); exact HO_5.out) hg (fun _ _ => by simp [Value.ownBlock])); have n1_ := Aside0.mk (hb); have n2_ := Aside0.mk (ho); clear HO_5; clear HB; have HO_5 := n0_; have HB := n1_; have HO123 := n2_; clear n0_ n1_ n2_; clear ho hb hg hat; have hcv79 := V_string (P := Tryd.prog) Tryd.underlying22 Tryd.underlying5 Tryd.underlying9 (HO123.out)))
                              go_ret
                              exact ⟨by first | rfl | (simp [errW_none, errW_some] <;> rfl) | (simp [*, errW_none, errW_some] <;> rfl), by repeat (first | (with_reducible first | exact HB.out | apply below_alloc | apply pw_below_drewN | apply below_drew1) | exact HB.out)⟩
                            · rw [if_neg c75] at H
                              have c75b0 : (a0 == 9) = false := beq_eq_false_iff_ne.mpr c75
                              have c75b1 : (a0 != 9) = true := bne_iff_ne.mpr c75
                              replace H := Option.bind_eq_some_iff.mp H
                              obtain ⟨t124, A800, H⟩ := H
                              replace H : (some t124) = some r := H
                              have A80 := Aside0.mk A800
                              clear A800
                              obtain rfl := Option.some.inj H
                              obtain ⟨Ao81, co81, eo81⟩ := Kd.V_slice HO_5.out
                              subst eo81
                              go_wp2_with (first | ((with_reducible refine gate_callee (f := 28) rfl ?_); refine goesL_ (some 31) rfl rfl Tryd.func28 (by kernel_rfl) rfl #[.slice Ao81 y102.length co81] rfl (by (try simp only [List.map_toArray, List.map_cons, List.map_nil]); first | done | rfl | (simp only [List.length_drop, List.length_take]; rfl)) ?_; (with_reducible refine (bobbinref07_Text.calls _ _ y102 t120 _ ?side1 ?side2 A68.out).mono ?_); (case side1 => repeat (first | exact (Kd.V_reads' HO_5.out).2.2 | (with_reducible refine Kd.C_alloc ?_ _) | (with_reducible refine Kd.C_drewN ?_ _) | (with_reducible refine Kd.C_drew ?_))); (case side2 => exact (Kd.V_reads' HO_5.out).2.1); rintro e w82 ⟨rfl, hb⟩; refine ⟨_, rfl, ?_⟩; have n0_ := Aside0.mk (Kd.V_below (by (with_reducible repeat (first | apply Kd.V_alloc | apply Kd.V_drewN | apply Kd.V_drew)); exact HO_5.out) hb); have n1_ := Aside0.mk (below_step (by repeat (first | (with_reducible first | exact HB.out | apply below_alloc | apply pw_below_drewN | apply below_drew1) | exact HB.out)) hb); clear HO_5; clear HB; have HO_5 := n0_; have HB := n1_; clear n0_ n1_; (try clear hb); (try clear hb2); (try clear hk); (try clear hi)) | ((with_reducible refine gate_dst (N := 32) rfl ?_); refine print_conv_str (w0 := w) w.heap.size rfl _ 22 9 5 rfl Tryd.underlying22 Tryd.underlying9 Tryd.underlying5 (fun _ => True) t120 rfl ?aL ?aF ?aB ?aS ?_; (case aB => exact (by repeat (first | (with_reducible first | exact HB.out | apply below_alloc | apply pw_below_drewN | apply below_drew1) | exact HB.out))); (case aF => exact (fun _ _ => trivial)); (case aS => exact (below_size (by repeat (first | (with_reducible first | exact HB.out | apply below_alloc | apply pw_below_drewN | apply below_drew1) | exact HB.out)))); (case aL => have := LMc69.out; first | omega | (simp only [ByteArray.size_append]; simp only [ByteArray.size, List.size_toArray, List.length_cons, List.length_nil] at this ⊢; omega)); intro v122 w83 ho hb hg hat; rw [← Ny121.out] at ho; have n0_ := Aside0.mk (Kd.V_grown (by (with_reducible repeat (first | apply Kd.V_alloc | apply Kd.V_drewN | apply Kd.V_drew)); exact HO_5.out) hg (fun _ _ => by simp [Value.ownBlock])); have n1_ := Aside0.mk (hb); have n2_ := Aside0.mk (ho); clear HO_5; clear HB; have HO_5 := n0_; have HB := n1_; have HO123 := n2_; clear n0_ n1_ n2_; clear ho hb hg hat; obtain ⟨Ao84, co84, eo84⟩ := Kd.V_slice HO123.out; subst eo84) | ((with_reducible refine gate_callee (f := 104) rfl ?_); refine goesL_ (some 42) rfl rfl Tryd.func104 (by kernel_rfl) rfl #[.slice Ao84 y121.length co84] rfl (by (try simp only [List.map_toArray, List.map_cons, List.map_nil]); first | done | rfl | (simp only [List.length_drop, List.length_take]; rfl)) ?_; (with_reducible refine (bobbinref03_Text.calls kj64 _ _ y121 t124 _ ?side1 ?side2 A80.out).mono ?_); (case side1 => repeat (first | exact (Kd.V_reads' HO123.out).2.2 | (with_reducible refine Kd.C_alloc ?_ _) | (with_reducible refine Kd.C_drewN ?_ _) | (with_reducible refine Kd.C_drew ?_))); (case side2 => exact (Kd.V_reads' HO123.out).2.1); rintro e w85 ⟨rfl, hb⟩; refine ⟨_, rfl, ?_⟩; have n0_ := Aside0.mk (Kd.V_below (by (with_reducible repeat (first | apply Kd.V_alloc | apply Kd.V_drewN | apply Kd.V_drew)); exact HO_5.out) hb); have n1_ := Aside0.mk (Kd.V_below (by (with_reducible repeat (first | apply Kd.V_alloc | apply Kd.V_drewN | apply Kd.V_drew)); exact HO123.out) hb); have n2_ := Aside0.mk (below_step (by repeat (first | (with_reducible first | exact HB.out | apply below_alloc | apply pw_below_drewN | apply below_drew1) | exact HB.out)) hb); clear HO_5; clear HO123; clear HB; have HO_5 := n0_; have HO123 := n1_; have HB := n2_; clear n0_ n1_ n2_; (try clear hb); (try clear hb2); (try clear hk); (try clear hi)))
                              go_ret
                              exact ⟨by first | rfl | (simp [errW_none, errW_some] <;> rfl) | (simp [*, errW_none, errW_some] <;> rfl), by repeat (first | (with_reducible first | exact HB.out | apply below_alloc | apply pw_below_drewN | apply below_drew1) | exact HB.out)⟩
                        · rw [if_neg c69] at H
                          exact absurd H (by simp)
                      · replace c67 := Bool.eq_false_iff.mpr c67
                        subst c67
                        have H1 : (if a0 = 7 then (some (strOfNums y102)) else (if a0 = 9 then (some (strOfNums y102)) else ((bobbinref03_Text.f kj64 y102).bind fun t125 => (some t125)))) = some r := by rw [if_neg (show ¬ (false = true) by decide)] at H; exact H
                        clear H
                        have H := H1
                        clear H1
                        by_cases c86 : a0 = 7
                        · rw [if_pos c86] at H
                          have c86b0 : (a0 == 7) = true := beq_iff_eq.mpr c86
                          have c86b1 : (a0 != 7) = false := bne_eq_false_iff_eq.mpr c86
                          clear c86
                          obtain rfl := Option.some.inj H
                          have hcv87 := V_string (P := Tryd.prog) Tryd.underlying22 Tryd.underlying5 Tryd.underlying9 (HO_5.out)
                          go_wp2
                          go_ret
                          exact ⟨by first | rfl | (simp [errW_none, errW_some] <;> rfl) | (simp [*, errW_none, errW_some] <;> rfl), by repeat (first | (with_reducible first | exact HB.out | apply below_alloc | apply pw_below_drewN | apply below_drew1) | exact HB.out)⟩
                        · rw [if_neg c86] at H
                          have c86b0 : (a0 == 7) = false := beq_eq_false_iff_ne.mpr c86
                          have c86b1 : (a0 != 7) = true := bne_iff_ne.mpr c86
                          by_cases c88 : a0 = 9
                          · rw [if_pos c88] at H
                            have c88b0 : (a0 == 9) = true := beq_iff_eq.mpr c88
                            have c88b1 : (a0 != 9) = false := bne_eq_false_iff_eq.mpr c88
                            clear c88
                            obtain rfl := Option.some.inj H
                            have hcv89 := V_string (P := Tryd.prog) Tryd.underlying22 Tryd.underlying5 Tryd.underlying9 (HO_5.out)
                            go_wp2
                            go_ret
                            exact ⟨by first | rfl | (simp [errW_none, errW_some] <;> rfl) | (simp [*, errW_none, errW_some] <;> rfl), by repeat (first | (with_reducible first | exact HB.out | apply below_alloc | apply pw_below_drewN | apply below_drew1) | exact HB.out)⟩
                          · rw [if_neg c88] at H
                            have c88b0 : (a0 == 9) = false := beq_eq_false_iff_ne.mpr c88
                            have c88b1 : (a0 != 9) = true := bne_iff_ne.mpr c88
                            replace H := Option.bind_eq_some_iff.mp H
                            obtain ⟨t125, A900, H⟩ := H
                            replace H : (some t125) = some r := H
                            have A90 := Aside0.mk A900
                            clear A900
                            obtain rfl := Option.some.inj H
                            obtain ⟨Ao91, co91, eo91⟩ := Kd.V_slice HO_5.out
                            subst eo91
                            go_wp2_with (first | ((with_reducible refine gate_callee (f := 104) rfl ?_); refine goesL_ (some 42) rfl rfl Tryd.func104 (by kernel_rfl) rfl #[.slice Ao91 y102.length co91] rfl (by (try simp only [List.map_toArray, List.map_cons, List.map_nil]); first | done | rfl | (simp only [List.length_drop, List.length_take]; rfl)) ?_; (with_reducible refine (bobbinref03_Text.calls kj64 _ _ y102 t125 _ ?side1 ?side2 A90.out).mono ?_); (case side1 => repeat (first | exact (Kd.V_reads' HO_5.out).2.2 | (with_reducible refine Kd.C_alloc ?_ _) | (with_reducible refine Kd.C_drewN ?_ _) | (with_reducible refine Kd.C_drew ?_))); (case side2 => exact (Kd.V_reads' HO_5.out).2.1); rintro e w92 ⟨rfl, hb⟩; refine ⟨_, rfl, ?_⟩; have n0_ := Aside0.mk (Kd.V_below (by (with_reducible repeat (first | apply Kd.V_alloc | apply Kd.V_drewN | apply Kd.V_drew)); exact HO_5.out) hb); have n1_ := Aside0.mk (below_step (by repeat (first | (with_reducible first | exact HB.out | apply below_alloc | apply pw_below_drewN | apply below_drew1) | exact HB.out)) hb); clear HO_5; clear HB; have HO_5 := n0_; have HB := n1_; clear n0_ n1_; (try clear hb); (try clear hb2); (try clear hk); (try clear hi)))
                            go_ret
                            exact ⟨by first | rfl | (simp [errW_none, errW_some] <;> rfl) | (simp [*, errW_none, errW_some] <;> rfl), by repeat (first | (with_reducible first | exact HB.out | apply below_alloc | apply pw_below_drewN | apply below_drew1) | exact HB.out)⟩
  · rw [if_neg c4] at H
    exact absurd H (by simp)
def bobbinref08_Written.l0 : Nat → Int → List Int → List ByteArray → Int → Option (List ByteArray)
  | 0, _, _, _, _ => none
  | k + 1, x0, x5, x6, x7 => if x7 < (x5.length : Int) then (if 0 ≤ x7 then ((bobbinref08_unit.f k x0 (rd x5 x7)).bind fun t130 => (if x6.length < 8796093022208 then (bobbinref08_Written.l0 k x0 x5 (x6 ++ [t130]) (wrap64 (x7 + 1))) else (none))) else (none)) else (some x6)
def bobbinref08_Written.f (k : Nat) (a0 : Int) (l1 : List Int) : Option (List ByteArray) := (bobbinref01_Runes.f k l1).bind fun t126 => (bobbinref08_Written.l0 k a0 t126 ([] : List ByteArray) 0)
set_option maxHeartbeats 8000000 in
set_option maxRecDepth 100000 in
theorem bobbinref08_Written.calls (k : Nat) (a0 : Int) (A1 : Option Addr) (c1 : Nat) (l1 : List Int) (r : List ByteArray) (w : World) (hr1 : Kd.C (Kd.int .u8) w A1 l1.length l1) (hc1 : l1.length ≤ c1) (h : bobbinref08_Written.f k a0 l1 = some r) :
    Calls Tryd.prog 78 #[.int .i64 a0, .slice A1 l1.length c1] w fun e w' => ∃ v0_ : Value, e = .returned (v0_) ∧ Kd.R Kd.string 9 w' w.heap.size (fun _ => True) v0_ r ∧ Below w.heap.size w w' := by
  have HR1 := Aside0.mk hr1
  have HC1 := Aside0.mk hc1
  clear hr1 hc1
  have HB := Aside0.mk (Below.refl w.heap.size w)
  have H : ((bobbinref01_Runes.f k l1).bind fun t126 => (bobbinref08_Written.l0 k a0 t126 ([] : List ByteArray) 0)) = some r := h
  clear h
  replace H := Option.bind_eq_some_iff.mp H
  obtain ⟨t126, A30, H⟩ := H
  replace H : (bobbinref08_Written.l0 k a0 t126 ([] : List ByteArray) 0) = some r := H
  have A3 := Aside0.mk A30
  clear A30
  have H' := Aside0.mk H
  clear H
  go_enter Tryd.func78, Tryd.ntmps78
  go_wp2_with (first | ((with_reducible refine gate_callee (f := 62) rfl ?_); refine goesL_ (some 9) rfl rfl Tryd.func62 (by kernel_rfl) rfl #[.slice A1 l1.length c1] rfl (by (try simp only [List.map_toArray, List.map_cons, List.map_nil]); first | done | rfl | (simp only [List.length_drop, List.length_take]; rfl)) ?_; (with_reducible refine (bobbinref01_Runes.calls k _ _ l1 t126 _ ?side1 ?side2 A3.out).mono ?_); (case side1 => repeat (first | exact HR1.out | (with_reducible refine Kd.C_alloc ?_ _) | (with_reducible refine Kd.C_drewN ?_ _) | (with_reducible refine Kd.C_drew ?_))); (case side2 => exact HC1.out); rintro e w4 ⟨v127, rfl, ho0, hb⟩; refine ⟨_, rfl, ?_⟩; have n0_ := Aside0.mk (Kd.R_lower ho0 (below_size (by repeat (first | (with_reducible first | exact HB.out | apply below_alloc | apply pw_below_drewN | apply below_drew1) | exact HB.out)))); have n1_ := Aside0.mk (below_step (by repeat (first | (with_reducible first | exact HB.out | apply below_alloc | apply pw_below_drewN | apply below_drew1) | exact HB.out)) hb); clear HB; have HO128 := n0_; have HB := n1_; clear n0_ n1_; (try clear hb); (try clear hb2); (try clear hk); (try clear hi); (try clear ho0)))
  go_loopg [6, 7] k (fun kq v6 v7 w' => ∃ (x6_1 : List ByteArray) (x7_1 : Int), v7 = .int .i64 x7_1 ∧ Aside0 (bobbinref08_Written.l0 kq a0 t126 x6_1 x7_1 = some r) ∧ Aside0 (kq ≤ k) ∧ Aside0 (Kd.R (Kd.int .i64) 3 w' w.heap.size (fun _ => True) v127 t126) ∧ Aside0 (Kd.R Kd.string 9 w' w.heap.size (fun _ => True) v6 x6_1) ∧ Aside0 (Below w.heap.size w w'))
  case atStart => exact ⟨(([] : List ByteArray)), (0), (by first | rfl | (simp; done) | (simp [*]; done)), H', ⟨Nat.le_refl _⟩, ⟨by (with_reducible repeat (first | apply Kd.R_alloc | apply Kd.R_drewN | apply Kd.R_drew)); exact HO128.out⟩, ⟨by first | exact Kd.R_nil _ _ _ _ _ | exact Kd.N_nil _ _ _ _ _ | exact Kd.V_nil _ _ _ _ _ | exact Kd.Q_nil _ _ _ _ _ | exact Kd.S_nil _ _ _ _ _⟩, ⟨by repeat (first | (with_reducible first | exact HB.out | apply below_alloc | apply pw_below_drewN | apply below_drew1) | exact HB.out)⟩⟩
  case round =>
    clear H'
    try clear c1
    try clear p2
    obtain ⟨x6_1, x7_1, rfl, HA, HK1, HO_5, HO_6, HB⟩ := hrel
    cases gk with
    | zero => exact absurd HA.out (by simp [bobbinref08_Written.l0])
    | succ k1 =>
      have H := HA.out
      clear HA
      simp only [bobbinref08_Written.l0] at H
      by_cases c5 : x7_1 < (t126.length : Int)
      · rw [if_pos c5] at H
        have c5b0 : decide (x7_1 < (t126.length : Int)) = true := decide_eq_true c5
        clear c5
        by_cases c6 : 0 ≤ x7_1
        · rw [if_pos c6] at H
          have c6b0 : decide (0 ≤ x7_1) = true := decide_eq_true c6
          clear c6
          replace H := Option.bind_eq_some_iff.mp H
          obtain ⟨t130, A70, H⟩ := H
          replace H : (if x6_1.length < 8796093022208 then (bobbinref08_Written.l0 k1 a0 t126 (x6_1 ++ [t130]) (wrap64 (x7_1 + 1))) else (none)) = some r := H
          have A7 := Aside0.mk A70
          clear A70
          by_cases c8 : x6_1.length < 8796093022208
          · rw [if_pos c8] at H
            have LMc8 := Aside0.mk c8
            clear c8
            obtain ⟨y131, hy131⟩ : ∃ y_ : List ByteArray, y_ = (x6_1 ++ [t130]) := ⟨_, rfl⟩
            replace H : (bobbinref08_Written.l0 k1 a0 t126 y131 (wrap64 (x7_1 + 1))) = some r := by first | (rw [hy131]; with_reducible exact H) | (have H2_ := (Option.bind_some _ _).symm.trans H; rw [hy131]; with_reducible exact H2_) | (have H2_ := (Option.bind_some _ _).symm.trans H; with_reducible exact H2_) | with_reducible exact H | (rw [hy131]; exact H) | exact H
            have Ny131 := Aside0.mk hy131
            clear hy131
            have H' := Aside0.mk H
            clear H
            obtain ⟨Ao9, co9, eo9⟩ := Kd.R_slice HO_5.out
            subst eo9
            have p129 : 0 ≤ (x7_1 : Int) := of_decide_eq_true (by first | (with_reducible assumption) | assumption)
            have q129 : x7_1 < (t126.length : Int) := of_decide_eq_true (by first | (with_reducible assumption) | assumption)
            obtain ⟨ad129, e129, hx129_0⟩ := Kd.at_int (Kd.R_reads' HO_5.out).2.2 x7_1 p129 q129
            cases e129
            replace p129 := eq_true p129
            replace q129 := eq_true q129
            go_wp2_with (first | ((with_reducible refine gate_callee (f := 89) rfl ?_); refine goesL_ (some 22) rfl rfl Tryd.func89 (by kernel_rfl) rfl #[.int .i64 a0, .int .i64 (rd t126 x7_1)] rfl (by (try simp only [List.map_toArray, List.map_cons, List.map_nil]); first | done | rfl | (simp only [List.length_drop, List.length_take]; rfl)) ?_; (with_reducible refine (bobbinref08_unit.calls k1 a0 (rd t126 x7_1) t130 _ A7.out).mono ?_); rintro e w10 ⟨rfl, hb⟩; refine ⟨_, rfl, ?_⟩; have n0_ := Aside0.mk (Kd.R_below (by (with_reducible repeat (first | apply Kd.R_alloc | apply Kd.R_drewN | apply Kd.R_drew)); exact HO_5.out) hb); have n1_ := Aside0.mk (Kd.R_below (by (with_reducible repeat (first | apply Kd.R_alloc | apply Kd.R_drewN | apply Kd.R_drew)); exact HO_6.out) hb); have n2_ := Aside0.mk (below_step (by repeat (first | (with_reducible first | exact HB.out | apply below_alloc | apply pw_below_drewN | apply below_drew1) | exact HB.out)) hb); clear HO_5; clear HO_6; clear HB; have HO_5 := n0_; have HO_6 := n1_; have HB := n2_; clear n0_ n1_ n2_; (try clear hb); (try clear hb2); (try clear hk); (try clear hi)) | ((with_reducible refine gate_builtin (b := .append) (xs := #[.tmp 16, .tmp 23]) rfl ?_); at_builtin; refine Kd.R_append Kd.string (w0 := w) w.heap.size rfl (.tmp 16) (.tmp 23) 60 9 (.string ⟨#[]⟩) 16 rfl Tryd.underlying60 info9 rfl (by decide) (by omega) u6 x6_1 t130 [.string t130] (fun _ => True) (fun _ => False) rfl rfl ?aP (fun _ hk => hk.elim) ?aF ?aO ?aB ?aS ?aL ?_; (case aP => exact rfl); (case aB => exact (by repeat (first | (with_reducible first | exact HB.out | apply below_alloc | apply pw_below_drewN | apply below_drew1) | exact HB.out))); (case aF => exact (fun _ _ => trivial)); (case aO => exact (by (with_reducible repeat (first | apply Kd.R_alloc | apply Kd.R_drewN | apply Kd.R_drew)); exact HO_6.out)); (case aS => exact (below_size (by repeat (first | (with_reducible first | exact HB.out | apply below_alloc | apply pw_below_drewN | apply below_drew1) | exact HB.out)))); (case aL => have := LMc8.out; first | omega | (simp only [ByteArray.size_append]; simp only [ByteArray.size, List.size_toArray, List.length_cons, List.length_nil] at this ⊢; omega)); intro v132 w11 ho hb hg hat; rw [← Ny131.out] at ho; have n0_ := Aside0.mk (Kd.R_over' (by (with_reducible repeat (first | apply Kd.R_alloc | apply Kd.R_drewN | apply Kd.R_drew)); exact HO_5.out) (Kd.R_typed (by (with_reducible repeat (first | apply Kd.R_alloc | apply Kd.R_drewN | apply Kd.R_drew)); exact HO_6.out)) (by decide) hg); have n1_ := Aside0.mk (hb); have n2_ := Aside0.mk (ho); clear HO_5; clear HB; clear HO_6; have HO_5 := n0_; have HB := n1_; have HO133 := n2_; clear n0_ n1_ n2_; clear ho hb hg hat))
            go_roundg k1
            case measure => have := HK1.out; omega
            case rel => exact ⟨(y131), (wrap64 (x7_1 + 1)), (by first | rfl | (simp; done) | (simp [*]; done)), H', ⟨by have := HK1.out; omega⟩, ⟨by (with_reducible repeat (first | apply Kd.R_alloc | apply Kd.R_drewN | apply Kd.R_drew)); exact HO_5.out⟩, ⟨by (with_reducible repeat (first | apply Kd.R_alloc | apply Kd.R_drewN | apply Kd.R_drew)); exact HO133.out⟩, ⟨by repeat (first | (with_reducible first | exact HB.out | apply below_alloc | apply pw_below_drewN | apply below_drew1) | exact HB.out)⟩⟩
          · rw [if_neg c8] at H
            exact absurd H (by simp)
        · rw [if_neg c6] at H
          exact absurd H (by simp)
      · rw [if_neg c5] at H
        have c5b0 : decide (x7_1 < (t126.length : Int)) = false := decide_eq_false c5
        clear c5
        obtain rfl := Option.some.inj H
        obtain ⟨Ao12, co12, eo12⟩ := Kd.R_slice HO_5.out
        subst eo12
        go_wp2
        go_ret
        exact ⟨_, by first | rfl | (simp [errW_none, errW_some] <;> rfl) | (simp [*, errW_none, errW_some] <;> rfl), by (with_reducible repeat (first | apply Kd.R_alloc | apply Kd.R_drewN | apply Kd.R_drew)); exact HO_6.out, by repeat (first | (with_reducible first | exact HB.out | apply below_alloc | apply pw_below_drewN | apply below_drew1) | exact HB.out)⟩
end Go.Proofs.YtdpnnglfaofjeaaDoor.PEr
namespace Go.Proofs.YtdpnnglfaofjeaaDoor.PEr
open Go.RowKit Go.Proofs.YtdpnnglfaofjeaaDoorW.PrintWords Go.Proofs.YtdpnnglfaofjeaaDoorW.PrintLast Go.Proofs.YtdpnnglfaofjeaaDoorW.PrintMore
attribute [local go_sem] max2_int min2_int max_two min_two max_three min_three max_four min_four   -- for this text's walks alone
open PUtf PSc PEq
set_option linter.unusedVariables false
set_option linter.unusedSimpArgs false
def bobbinref08_Units.f (k : Nat) (a0 : Int) (l1 : List Int) : Option (List ByteArray) := (bobbinref01_Clean.f k l1).bind fun t134 => (if a0 = 4 then ((bobbinref05_Pass.f k t134).bind fun t137 => (if t137.size < 140737488355328 then ((bobbinref08_Written.f k a0 (([] : List Int) ++ bytesOf t137)).bind fun t141 => (some t141)) else (none))) else ((bobbinref08_Written.f k a0 t134).bind fun t144 => (some t144)))
set_option maxHeartbeats 8000000 in
set_option maxRecDepth 100000 in
theorem bobbinref08_Units.calls (k : Nat) (a0 : Int) (A1 : Option Addr) (c1 : Nat) (l1 : List Int) (r : List ByteArray) (w : World) (hr1 : Kd.C (Kd.int .u8) w A1 l1.length l1) (hc1 : l1.length ≤ c1) (h : bobbinref08_Units.f k a0 l1 = some r) :
    Calls Tryd.prog 58 #[.int .i64 a0, .slice A1 l1.length c1] w fun e w' => ∃ v0_ : Value, e = .returned (v0_) ∧ Kd.R Kd.string 9 w' w.heap.size (fun _ => True) v0_ r ∧ Below w.heap.size w w' := by
  have HR1 := Aside0.mk hr1
  have HC1 := Aside0.mk hc1
  clear hr1 hc1
  have HB := Aside0.mk (Below.refl w.heap.size w)
  have H : ((bobbinref01_Clean.f k l1).bind fun t134 => (if a0 = 4 then ((bobbinref05_Pass.f k t134).bind fun t137 => (if t137.size < 140737488355328 then ((bobbinref08_Written.f k a0 (([] : List Int) ++ bytesOf t137)).bind fun t141 => (some t141)) else (none))) else ((bobbinref08_Written.f k a0 t134).bind fun t144 => (some t144)))) = some r := h
  clear h
  replace H := Option.bind_eq_some_iff.mp H
  obtain ⟨t134, A30, H⟩ := H
  replace H : (if a0 = 4 then ((bobbinref05_Pass.f k t134).bind fun t137 => (if t137.size < 140737488355328 then ((bobbinref08_Written.f k a0 (([] : List Int) ++ bytesOf t137)).bind fun t141 => (some t141)) else (none))) else ((bobbinref08_Written.f k a0 t134).bind fun t144 => (some t144))) = some r := H
  have A3 := Aside0.mk A30
  clear A30
  by_cases c4 : a0 = 4
  · rw [if_pos c4] at H
    have c4b0 : (a0 == 4) = true := beq_iff_eq.mpr c4
    have c4b1 : (a0 != 4) = false := bne_eq_false_iff_eq.mpr c4
    clear c4
    replace H := Option.bind_eq_some_iff.mp H
    obtain ⟨t137, A50, H⟩ := H
    replace H : (if t137.size < 140737488355328 then ((bobbinref08_Written.f k a0 (([] : List Int) ++ bytesOf t137)).bind fun t141 => (some t141)) else (none)) = some r := H
    have A5 := Aside0.mk A50
    clear A50
    by_cases c6 : t137.size < 140737488355328
    · rw [if_pos c6] at H
      have LMc6 := Aside0.mk c6
      clear c6
      obtain ⟨y138, hy138⟩ : ∃ y_ : List Int, y_ = (([] : List Int) ++ bytesOf t137) := ⟨_, rfl⟩
      replace H : ((bobbinref08_Written.f k a0 y138).bind fun t141 => (some t141)) = some r := by first | (rw [hy138]; with_reducible exact H) | (have H2_ := (Option.bind_some _ _).symm.trans H; rw [hy138]; with_reducible exact H2_) | (have H2_ := (Option.bind_some _ _).symm.trans H; with_reducible exact H2_) | with_reducible exact H | (rw [hy138]; exact H) | exact H
      have Ny138 := Aside0.mk hy138
      clear hy138
      replace H := Option.bind_eq_some_iff.mp H
      obtain ⟨t141, A70, H⟩ := H
      replace H : (some t141) = some r := H
      have A7 := Aside0.mk A70
      clear A70
      obtain rfl := Option.some.inj H
      go_enter Tryd.func58, Tryd.ntmps58
      go_wp2_with (first | ((with_reducible refine gate_callee (f := 36) rfl ?_); refine goesL_ (some 7) rfl rfl Tryd.func36 (by kernel_rfl) rfl #[.slice A1 l1.length c1] rfl (by (try simp only [List.map_toArray, List.map_cons, List.map_nil]); first | done | rfl | (simp only [List.length_drop, List.length_take]; rfl)) ?_; (with_reducible refine (bobbinref01_Clean.calls k _ _ l1 t134 _ ?side1 ?side2 A3.out).mono ?_); (case side1 => repeat (first | exact HR1.out | (with_reducible refine Kd.C_alloc ?_ _) | (with_reducible refine Kd.C_drewN ?_ _) | (with_reducible refine Kd.C_drew ?_))); (case side2 => exact HC1.out); rintro e w8 ⟨v135, rfl, ho0, hb⟩; refine ⟨_, rfl, ?_⟩; have n0_ := Aside0.mk (Kd.R_lower ho0 (below_size (by repeat (first | (with_reducible first | exact HB.out | apply below_alloc | apply pw_below_drewN | apply below_drew1) | exact HB.out)))); have n1_ := Aside0.mk (below_step (by repeat (first | (with_reducible first | exact HB.out | apply below_alloc | apply pw_below_drewN | apply below_drew1) | exact HB.out)) hb); clear HB; have HO136 := n0_; have HB := n1_; clear n0_ n1_; (try clear hb); (try clear hb2); (try clear hk); (try clear hi); (try clear ho0); obtain ⟨Ao9, co9, eo9⟩ := Kd.R_slice HO136.out; subst eo9) | ((with_reducible refine gate_callee (f := 39) rfl ?_); refine goesL_ (some 11) rfl rfl Tryd.func39 (by kernel_rfl) rfl #[.slice Ao9 t134.length co9] rfl (by (try simp only [List.map_toArray, List.map_cons, List.map_nil]); first | done | rfl | (simp only [List.length_drop, List.length_take]; rfl)) ?_; (with_reducible refine (bobbinref05_Pass.calls k _ _ t134 t137 _ ?side1 ?side2 A5.out).mono ?_); (case side1 => repeat (first | exact (Kd.R_reads' HO136.out).2.2 | (with_reducible refine Kd.C_alloc ?_ _) | (with_reducible refine Kd.C_drewN ?_ _) | (with_reducible refine Kd.C_drew ?_))); (case side2 => exact (Kd.R_reads' HO136.out).2.1); rintro e w10 ⟨rfl, hb⟩; refine ⟨_, rfl, ?_⟩; have n0_ := Aside0.mk (Kd.R_below (by (with_reducible repeat (first | apply Kd.R_alloc | apply Kd.R_drewN | apply Kd.R_drew)); exact HO136.out) hb); have n1_ := Aside0.mk (below_step (by repeat (first | (with_reducible first | exact HB.out | apply below_alloc | apply pw_below_drewN | apply below_drew1) | exact HB.out)) hb); clear HO136; clear HB; have HO136 := n0_; have HB := n1_; clear n0_ n1_; (try clear hb); (try clear hb2); (try clear hk); (try clear hi)) | ((with_reducible refine gate_dst (N := 12) rfl ?_); refine print_conv_str (w0 := w) w.heap.size rfl _ 22 9 5 rfl Tryd.underlying22 Tryd.underlying9 Tryd.underlying5 (fun k_ => some k_ ≠ (.slice Ao9 t134.length co9 : Value).ownBlock) t137 rfl ?aL ?aF ?aB ?aS ?_; (case aB => exact (by repeat (first | (with_reducible first | exact HB.out | apply below_alloc | apply pw_below_drewN | apply below_drew1) | exact HB.out))); (case aF => exact (fun k_ hk => Kd.fresh' (Kd.R_lt (by (with_reducible repeat (first | apply Kd.R_alloc | apply Kd.R_drewN | apply Kd.R_drew)); exact HO136.out)) k_ hk)); (case aS => exact (below_size (by repeat (first | (with_reducible first | exact HB.out | apply below_alloc | apply pw_below_drewN | apply below_drew1) | exact HB.out)))); (case aL => have := LMc6.out; first | omega | (simp only [ByteArray.size_append]; simp only [ByteArray.size, List.size_toArray, List.length_cons, List.length_nil] at this ⊢; omega)); intro v139 w11 ho hb hg hat; rw [← Ny138.out] at ho; have n0_ := Aside0.mk (Kd.R_grown (by (with_reducible repeat (first | apply Kd.R_alloc | apply Kd.R_drewN | apply Kd.R_drew)); exact HO136.out) hg (fun _ _ => by simp [Value.ownBlock])); have n1_ := Aside0.mk (hb); have n2_ := Aside0.mk (ho); clear HO136; clear HB; have HO136 := n0_; have HB := n1_; have HO140 := n2_; clear n0_ n1_ n2_; clear ho hb hg hat; obtain ⟨Ao12, co12, eo12⟩ := Kd.V_slice HO140.out; subst eo12) | ((with_reducible refine gate_callee (f := 78) rfl ?_); refine goesL_ (some 15) rfl rfl Tryd.func78 (by kernel_rfl) rfl #[.int .i64 a0, .slice Ao12 y138.length co12] rfl (by (try simp only [List.map_toArray, List.map_cons, List.map_nil]); first | done | rfl | (simp only [List.length_drop, List.length_take]; rfl)) ?_; (with_reducible refine (bobbinref08_Written.calls k a0 _ _ y138 t141 _ ?side1 ?side2 A7.out).mono ?_); (case side1 => repeat (first | exact (Kd.V_reads' HO140.out).2.2 | (with_reducible refine Kd.C_alloc ?_ _) | (with_reducible refine Kd.C_drewN ?_ _) | (with_reducible refine Kd.C_drew ?_))); (case side2 => exact (Kd.V_reads' HO140.out).2.1); rintro e w13 ⟨v142, rfl, ho0, hb⟩; refine ⟨_, rfl, ?_⟩; have n0_ := Aside0.mk (Kd.R_below (by (with_reducible repeat (first | apply Kd.R_alloc | apply Kd.R_drewN | apply Kd.R_drew)); exact HO136.out) hb); have n1_ := Aside0.mk (Kd.V_elder' (by (with_reducible repeat (first | apply Kd.V_alloc | apply Kd.V_drewN | apply Kd.V_drew)); exact HO140.out) (Kd.R_base ho0) hb); have n2_ := Aside0.mk (Kd.R_lower ho0 (below_size (by repeat (first | (with_reducible first | exact HB.out | apply below_alloc | apply pw_below_drewN | apply below_drew1) | exact HB.out)))); have n3_ := Aside0.mk (below_step (by repeat (first | (with_reducible first | exact HB.out | apply below_alloc | apply pw_below_drewN | apply below_drew1) | exact HB.out)) hb); clear HO136; clear HO140; clear HB; have HO136 := n0_; have HO140 := n1_; have HO143 := n2_; have HB := n3_; clear n0_ n1_ n2_ n3_; (try clear hb); (try clear hb2); (try clear hk); (try clear hi); (try clear ho0)))
      go_ret
      exact ⟨_, by first | rfl | (simp [errW_none, errW_some] <;> rfl) | (simp [*, errW_none, errW_some] <;> rfl), by (with_reducible repeat (first | apply Kd.R_alloc | apply Kd.R_drewN | apply Kd.R_drew)); exact HO143.out, by repeat (first | (with_reducible first | exact HB.out | apply below_alloc | apply pw_below_drewN | apply below_drew1) | exact HB.out)⟩
    · rw [if_neg c6] at H
      exact absurd H (by simp)
  · rw [if_neg c4] at H
    have c4b0 : (a0 == 4) = false := beq_eq_false_iff_ne.mpr c4
    have c4b1 : (a0 != 4) = true := bne_iff_ne.mpr c4
    replace H := Option.bind_eq_some_iff.mp H
    obtain ⟨t144, A140, H⟩ := H
    replace H : (some t144) = some r := H
    have A14 := Aside0.mk A140
    clear A140
    obtain rfl := Option.some.inj H
    go_enter Tryd.func58, Tryd.ntmps58
    go_wp2_with (first | ((with_reducible refine gate_callee (f := 36) rfl ?_); refine goesL_ (some 7) rfl rfl Tryd.func36 (by kernel_rfl) rfl #[.slice A1 l1.length c1] rfl (by (try simp only [List.map_toArray, List.map_cons, List.map_nil]); first | done | rfl | (simp only [List.length_drop, List.length_take]; rfl)) ?_; (with_reducible refine (bobbinref01_Clean.calls k _ _ l1 t134 _ ?side1 ?side2 A3.out).mono ?_); (case side1 => repeat (first | exact HR1.out | (with_reducible refine Kd.C_alloc ?_ _) | (with_reducible refine Kd.C_drewN ?_ _) | (with_reducible refine Kd.C_drew ?_))); (case side2 => exact HC1.out); rintro e w15 ⟨v135, rfl, ho0, hb⟩; refine ⟨_, rfl, ?_⟩; have n0_ := Aside0.mk (Kd.R_lower ho0 (below_size (by repeat (first | (with_reducible first | exact HB.out | apply below_alloc | apply pw_below_drewN | apply below_drew1) | exact HB.out)))); have n1_ := Aside0.mk (below_step (by repeat (first | (with_reducible first | exact HB.out | apply below_alloc | apply pw_below_drewN | apply below_drew1) | exact HB.out)) hb); clear HB; have HO136 := n0_; have HB := n1_; clear n0_ n1_; (try clear hb); (try clear hb2); (try clear hk); (try clear hi); (try clear ho0); obtain ⟨Ao16, co16, eo16⟩ := Kd.R_slice HO136.out; subst eo16) | ((with_reducible refine gate_callee (f := 78) rfl ?_); refine goesL_ (some 15) rfl rfl Tryd.func78 (by kernel_rfl) rfl #[.int .i64 a0, .slice Ao16 t134.length co16] rfl (by (try simp only [List.map_toArray, List.map_cons, List.map_nil]); first | done | rfl | (simp only [List.length_drop, List.length_take]; rfl)) ?_; (with_reducible refine (bobbinref08_Written.calls k a0 _ _ t134 t144 _ ?side1 ?side2 A14.out).mono ?_); (case side1 => repeat (first | exact (Kd.R_reads' HO136.out).2.2 | (with_reducible refine Kd.C_alloc ?_ _) | (with_reducible refine Kd.C_drewN ?_ _) | (with_reducible refine Kd.C_drew ?_))); (case side2 => exact (Kd.R_reads' HO136.out).2.1); rintro e w17 ⟨v145, rfl, ho0, hb⟩; refine ⟨_, rfl, ?_⟩; have n0_ := Aside0.mk (Kd.R_below (by (with_reducible repeat (first | apply Kd.R_alloc | apply Kd.R_drewN | apply Kd.R_drew)); exact HO136.out) hb); have n1_ := Aside0.mk (Kd.R_lower ho0 (below_size (by repeat (first | (with_reducible first | exact HB.out | apply below_alloc | apply pw_below_drewN | apply below_drew1) | exact HB.out)))); have n2_ := Aside0.mk (below_step (by repeat (first | (with_reducible first | exact HB.out | apply below_alloc | apply pw_below_drewN | apply below_drew1) | exact HB.out)) hb); clear HO136; clear HB; have HO136 := n0_; have HO146 := n1_; have HB := n2_; clear n0_ n1_ n2_; (try clear hb); (try clear hb2); (try clear hk); (try clear hi); (try clear ho0)))
    go_ret
    exact ⟨_, by first | rfl | (simp [errW_none, errW_some] <;> rfl) | (simp [*, errW_none, errW_some] <;> rfl), by (with_reducible repeat (first | apply Kd.R_alloc | apply Kd.R_drewN | apply Kd.R_drew)); exact HO146.out, by repeat (first | (with_reducible first | exact HB.out | apply below_alloc | apply pw_below_drewN | apply below_drew1) | exact HB.out)⟩
end Go.Proofs.YtdpnnglfaofjeaaDoor.PEr
namespace Go.Proofs.YtdpnnglfaofjeaaDoor.Y
open Go.RowKit Go.Proofs.YtdpnnglfaofjeaaDoorW.PrintWords Go.Proofs.YtdpnnglfaofjeaaDoorW.PrintLast Go.Proofs.YtdpnnglfaofjeaaDoorW.PrintMore
open Go.Proofs.YtdpnnglfaofjeaaDoor.V (RB RB.of_OB RB.lit info5)
set_option linter.unusedVariables false
set_option linter.unusedSimpArgs false
set_option maxRecDepth 100000
theorem y_snoc (l : List Int) (i : Nat) (h : i < l.length) : l.take (i + 1) = l.take i ++ [l.getD i 0] := by
  rw [List.take_add_one, List.getElem?_eq_getElem h]
  simp [List.getD_eq_getElem?_getD, List.getElem?_eq_getElem h]
theorem flat_le {u : Int → List Int} (hu : IsU u) : ∀ (l : List Int), (∀ x ∈ l, 0 ≤ x ∧ x ≤ 255) → (l.flatMap u).length ≤ 6 * l.length ∧ ∀ x ∈ l.flatMap u, 0 ≤ x ∧ x ≤ 255
  | [], _ => by simp
  | a :: t, h => by
    have ih := flat_le hu t (fun x hx => h x (List.mem_cons_of_mem _ hx))
    have ha := hu a (h a List.mem_cons_self)
    rw [List.flatMap_cons, List.length_append, List.length_cons]
    refine ⟨by omega, fun x hx => ?_⟩
    rcases List.mem_append.1 hx with h1 | h1
    · exact ha.1 x h1
    · exact ih.2 x h1
theorem flat_cap {u : Int → List Int} (hu : IsU u) (l : List Int) (hB : ∀ x ∈ l, 0 ≤ x ∧ x ≤ 255) (i : Nat) (hi : i < l.length) : ((l.take i).flatMap u).length + (u (l.getD i 0)).length ≤ 6 * l.length := by
  have h1 := (flat_le hu (l.take i) (fun x hx => hB x (List.mem_of_mem_take hx))).1
  have h2 := (hu (l.getD i 0) (hB _ (by rw [List.getD_eq_getElem?_getD, List.getElem?_eq_getElem hi]; exact List.getElem_mem hi))).2
  rw [List.length_take] at h1
  omega
theorem flat_next (u : Int → List Int) (l : List Int) (i : Nat) (hi : i < l.length) : (l.take (i + 1)).flatMap u = (l.take i).flatMap u ++ u (l.getD i 0) := by rw [y_snoc l i hi, List.flatMap_append]; simp
set_option maxHeartbeats 4000000 in
theorem each_98 (u : Int → List Int) (hu : IsU u) (l : List Int) (A : Option Addr) (c : Nat) (w : World) (hp : Kd.C (Kd.int .u8) w A l.length l) (hc : l.length ≤ c) (hB : ∀ x ∈ l, 0 ≤ x ∧ x ≤ 255) (hN : l.length ≤ 4398046511104)
    (hcall : ∀ (b : Int) (W : World), 0 ≤ b ∧ b ≤ 255 → Below w.heap.size w W → Calls Tryd.prog 98 #[.int .u8 b] W (UnitIs W (u b))) :
    Calls Tryd.prog 97 #[.slice A l.length c, .func (.func 98) #[] #[]] w fun e w' => ∃ v, e = .returned v ∧ Kd.R (Kd.int .u8) 5 w' w.heap.size (fun _ => True) v (l.flatMap u) ∧ Below w.heap.size w w' := by
  have HP := Lib.hid hp
  have HU := Lib.hid hu
  have HB := Lib.hid hB
  have HC := Lib.hid hcall
  clear hp hu hB hcall
  go_enter Tryd.func97, Tryd.ntmps97
  go_wp2_with fail
  go_loopw [5, 10] (fun v5 v10 wr => ∃ i : Nat, v10 = .int .i64 (i : Int) ∧ i ≤ l.length ∧ Kd.R (Kd.int .u8) 5 wr w.heap.size (fun _ => True) v5 ((l.take i).flatMap u) ∧ Below w.heap.size w wr) (fun _ v10 _ => match v10 with | .int _ i => l.length - i.toNat | _ => 0)
  case atStart => exact ⟨0, rfl, Nat.zero_le _, Kd.R_nil _ _ _ _ _, Below.refl _ _⟩
  case round =>
    obtain ⟨i, rfl, hi, ho, hb⟩ := hrel
    by_cases hlt : i < l.length
    · have hlt' : (i : Int) < (l.length : Int) := by omega
      have hcap := flat_cap HU.out l HB.out i hlt
      have hbx : 0 ≤ l.getD i 0 ∧ l.getD i 0 ≤ 255 := HB.out _ (by rw [List.getD_eq_getElem?_getD, List.getElem?_eq_getElem hlt]; exact List.getElem_mem hlt)
      obtain ⟨ad, rfl, hx⟩ := Kd.at_int (Kd.C_below HP.out hb) (i : Int) (by omega) (by omega)
      rw [Int.toNat_natCast, show rd l (i : Int) = l.getD i 0 by simp [rd, rdOf]] at hx
      have HNX := Lib.hid (flat_next u l i hlt)
      have cU := HC.out (l.getD i 0) wr hbx hb
      generalize l.getD i 0 = x at hcap hx HNX cU
      generalize u x = ux at hcap HNX cU
      generalize (l.take i).flatMap u = acc at ho hcap HNX
      go_wp2_with fail
      refine cU.mono ?_
      rintro e w3 ⟨v, rfl, hrb, hb3⟩
      obtain ⟨A3, c3, rfl, hc3, hC3⟩ := hrb.reads
      have ho3 := Kd.R_below ho hb3
      have hb3' := below_then hb hb.size hb3
      clear hx cU ho hrb
      go_wp2_with (at_builtin; refine V.appB (w0 := w) rfl _ _ rfl u5 _ _ _ _ _ rfl rfl ho3 hC3 hb3' (by omega) ?_; intro v4 w4 ho4 hb4 _ _)
      go_roundw
      case rel => exact ⟨i + 1, by first | rfl | simp, by omega, by rw [HNX.out]; exact ho4, hb4⟩
      case measure => simp; omega
    · have hip : i = l.length := by omega
      subst hip
      rw [List.take_length] at ho
      have hlt' : ¬ ((l.length : Int) < (l.length : Int)) := by omega
      go_wp2_with fail
      go_ret
      exact ⟨_, rfl, ho, hb⟩
set_option maxHeartbeats 4000000 in
theorem each_99 (u : Int → List Int) (hu : IsU u) (l : List Int) (A : Option Addr) (c : Nat) (w : World) (hp : Kd.C (Kd.int .u8) w A l.length l) (hc : l.length ≤ c) (hB : ∀ x ∈ l, 0 ≤ x ∧ x ≤ 255) (hN : l.length ≤ 4398046511104)
    (hcall : ∀ (b : Int) (W : World), 0 ≤ b ∧ b ≤ 255 → Below w.heap.size w W → Calls Tryd.prog 99 #[.int .u8 b] W (UnitIs W (u b))) :
    Calls Tryd.prog 97 #[.slice A l.length c, .func (.func 99) #[] #[]] w fun e w' => ∃ v, e = .returned v ∧ Kd.R (Kd.int .u8) 5 w' w.heap.size (fun _ => True) v (l.flatMap u) ∧ Below w.heap.size w w' := by
  have HP := Lib.hid hp
  have HU := Lib.hid hu
  have HB := Lib.hid hB
  have HC := Lib.hid hcall
  clear hp hu hB hcall
  go_enter Tryd.func97, Tryd.ntmps97
  go_wp2_with fail
  go_loopw [5, 10] (fun v5 v10 wr => ∃ i : Nat, v10 = .int .i64 (i : Int) ∧ i ≤ l.length ∧ Kd.R (Kd.int .u8) 5 wr w.heap.size (fun _ => True) v5 ((l.take i).flatMap u) ∧ Below w.heap.size w wr) (fun _ v10 _ => match v10 with | .int _ i => l.length - i.toNat | _ => 0)
  case atStart => exact ⟨0, rfl, Nat.zero_le _, Kd.R_nil _ _ _ _ _, Below.refl _ _⟩
  case round =>
    obtain ⟨i, rfl, hi, ho, hb⟩ := hrel
    by_cases hlt : i < l.length
    · have hlt' : (i : Int) < (l.length : Int) := by omega
      have hcap := flat_cap HU.out l HB.out i hlt
      have hbx : 0 ≤ l.getD i 0 ∧ l.getD i 0 ≤ 255 := HB.out _ (by rw [List.getD_eq_getElem?_getD, List.getElem?_eq_getElem hlt]; exact List.getElem_mem hlt)
      obtain ⟨ad, rfl, hx⟩ := Kd.at_int (Kd.C_below HP.out hb) (i : Int) (by omega) (by omega)
      rw [Int.toNat_natCast, show rd l (i : Int) = l.getD i 0 by simp [rd, rdOf]] at hx
      have HNX := Lib.hid (flat_next u l i hlt)
      have cU := HC.out (l.getD i 0) wr hbx hb
      generalize l.getD i 0 = x at hcap hx HNX cU
      generalize u x = ux at hcap HNX cU
      generalize (l.take i).flatMap u = acc at ho hcap HNX
      go_wp2_with fail
      refine cU.mono ?_
      rintro e w3 ⟨v, rfl, hrb, hb3⟩
      obtain ⟨A3, c3, rfl, hc3, hC3⟩ := hrb.reads
      have ho3 := Kd.R_below ho hb3
      have hb3' := below_then hb hb.size hb3
      clear hx cU ho hrb
      go_wp2_with (at_builtin; refine V.appB (w0 := w) rfl _ _ rfl u5 _ _ _ _ _ rfl rfl ho3 hC3 hb3' (by omega) ?_; intro v4 w4 ho4 hb4 _ _)
      go_roundw
      case rel => exact ⟨i + 1, by first | rfl | simp, by omega, by rw [HNX.out]; exact ho4, hb4⟩
      case measure => simp; omega
    · have hip : i = l.length := by omega
      subst hip
      rw [List.take_length] at ho
      have hlt' : ¬ ((l.length : Int) < (l.length : Int)) := by omega
      go_wp2_with fail
      go_ret
      exact ⟨_, rfl, ho, hb⟩
set_option maxHeartbeats 4000000 in
theorem each_24 (u : Int → List Int) (hu : IsU u) (l : List Int) (A : Option Addr) (c : Nat) (w : World) (hp : Kd.C (Kd.int .u8) w A l.length l) (hc : l.length ≤ c) (hB : ∀ x ∈ l, 0 ≤ x ∧ x ≤ 255) (hN : l.length ≤ 4398046511104)
    (hcall : ∀ (b : Int) (W : World), 0 ≤ b ∧ b ≤ 255 → Below w.heap.size w W → Calls Tryd.prog 24 #[.int .u8 b] W (UnitIs W (u b))) :
    Calls Tryd.prog 97 #[.slice A l.length c, .func (.func 24) #[] #[]] w fun e w' => ∃ v, e = .returned v ∧ Kd.R (Kd.int .u8) 5 w' w.heap.size (fun _ => True) v (l.flatMap u) ∧ Below w.heap.size w w' := by
  have HP := Lib.hid hp
  have HU := Lib.hid hu
  have HB := Lib.hid hB
  have HC := Lib.hid hcall
  clear hp hu hB hcall
  go_enter Tryd.func97, Tryd.ntmps97
  go_wp2_with fail
  go_loopw [5, 10] (fun v5 v10 wr => ∃ i : Nat, v10 = .int .i64 (i : Int) ∧ i ≤ l.length ∧ Kd.R (Kd.int .u8) 5 wr w.heap.size (fun _ => True) v5 ((l.take i).flatMap u) ∧ Below w.heap.size w wr) (fun _ v10 _ => match v10 with | .int _ i => l.length - i.toNat | _ => 0)
  case atStart => exact ⟨0, rfl, Nat.zero_le _, Kd.R_nil _ _ _ _ _, Below.refl _ _⟩
  case round =>
    obtain ⟨i, rfl, hi, ho, hb⟩ := hrel
    by_cases hlt : i < l.length
    · have hlt' : (i : Int) < (l.length : Int) := by omega
      have hcap := flat_cap HU.out l HB.out i hlt
      have hbx : 0 ≤ l.getD i 0 ∧ l.getD i 0 ≤ 255 := HB.out _ (by rw [List.getD_eq_getElem?_getD, List.getElem?_eq_getElem hlt]; exact List.getElem_mem hlt)
      obtain ⟨ad, rfl, hx⟩ := Kd.at_int (Kd.C_below HP.out hb) (i : Int) (by omega) (by omega)
      rw [Int.toNat_natCast, show rd l (i : Int) = l.getD i 0 by simp [rd, rdOf]] at hx
      have HNX := Lib.hid (flat_next u l i hlt)
      have cU := HC.out (l.getD i 0) wr hbx hb
      generalize l.getD i 0 = x at hcap hx HNX cU
      generalize u x = ux at hcap HNX cU
      generalize (l.take i).flatMap u = acc at ho hcap HNX
      go_wp2_with fail
      refine cU.mono ?_
      rintro e w3 ⟨v, rfl, hrb, hb3⟩
      obtain ⟨A3, c3, rfl, hc3, hC3⟩ := hrb.reads
      have ho3 := Kd.R_below ho hb3
      have hb3' := below_then hb hb.size hb3
      clear hx cU ho hrb
      go_wp2_with (at_builtin; refine V.appB (w0 := w) rfl _ _ rfl u5 _ _ _ _ _ rfl rfl ho3 hC3 hb3' (by omega) ?_; intro v4 w4 ho4 hb4 _ _)
      go_roundw
      case rel => exact ⟨i + 1, by first | rfl | simp, by omega, by rw [HNX.out]; exact ho4, hb4⟩
      case measure => simp; omega
    · have hip : i = l.length := by omega
      subst hip
      rw [List.take_length] at ho
      have hlt' : ¬ ((l.length : Int) < (l.length : Int)) := by omega
      go_wp2_with fail
      go_ret
      exact ⟨_, rfl, ho, hb⟩
set_option maxHeartbeats 4000000 in
theorem each_100 (u : Int → List Int) (hu : IsU u) (l : List Int) (A : Option Addr) (c : Nat) (w : World) (hp : Kd.C (Kd.int .u8) w A l.length l) (hc : l.length ≤ c) (hB : ∀ x ∈ l, 0 ≤ x ∧ x ≤ 255) (hN : l.length ≤ 4398046511104)
    (hcall : ∀ (b : Int) (W : World), 0 ≤ b ∧ b ≤ 255 → Below w.heap.size w W → Calls Tryd.prog 100 #[.int .u8 b] W (UnitIs W (u b))) :
    Calls Tryd.prog 97 #[.slice A l.length c, .func (.func 100) #[] #[]] w fun e w' => ∃ v, e = .returned v ∧ Kd.R (Kd.int .u8) 5 w' w.heap.size (fun _ => True) v (l.flatMap u) ∧ Below w.heap.size w w' := by
  have HP := Lib.hid hp
  have HU := Lib.hid hu
  have HB := Lib.hid hB
  have HC := Lib.hid hcall
  clear hp hu hB hcall
  go_enter Tryd.func97, Tryd.ntmps97
  go_wp2_with fail
  go_loopw [5, 10] (fun v5 v10 wr => ∃ i : Nat, v10 = .int .i64 (i : Int) ∧ i ≤ l.length ∧ Kd.R (Kd.int .u8) 5 wr w.heap.size (fun _ => True) v5 ((l.take i).flatMap u) ∧ Below w.heap.size w wr) (fun _ v10 _ => match v10 with | .int _ i => l.length - i.toNat | _ => 0)
  case atStart => exact ⟨0, rfl, Nat.zero_le _, Kd.R_nil _ _ _ _ _, Below.refl _ _⟩
  case round =>
    obtain ⟨i, rfl, hi, ho, hb⟩ := hrel
    by_cases hlt : i < l.length
    · have hlt' : (i : Int) < (l.length : Int) := by omega
      have hcap := flat_cap HU.out l HB.out i hlt
      have hbx : 0 ≤ l.getD i 0 ∧ l.getD i 0 ≤ 255 := HB.out _ (by rw [List.getD_eq_getElem?_getD, List.getElem?_eq_getElem hlt]; exact List.getElem_mem hlt)
      obtain ⟨ad, rfl, hx⟩ := Kd.at_int (Kd.C_below HP.out hb) (i : Int) (by omega) (by omega)
      rw [Int.toNat_natCast, show rd l (i : Int) = l.getD i 0 by simp [rd, rdOf]] at hx
      have HNX := Lib.hid (flat_next u l i hlt)
      have cU := HC.out (l.getD i 0) wr hbx hb
      generalize l.getD i 0 = x at hcap hx HNX cU
      generalize u x = ux at hcap HNX cU
      generalize (l.take i).flatMap u = acc at ho hcap HNX
      go_wp2_with fail
      refine cU.mono ?_
      rintro e w3 ⟨v, rfl, hrb, hb3⟩
      obtain ⟨A3, c3, rfl, hc3, hC3⟩ := hrb.reads
      have ho3 := Kd.R_below ho hb3
      have hb3' := below_then hb hb.size hb3
      clear hx cU ho hrb
      go_wp2_with (at_builtin; refine V.appB (w0 := w) rfl _ _ rfl u5 _ _ _ _ _ rfl rfl ho3 hC3 hb3' (by omega) ?_; intro v4 w4 ho4 hb4 _ _)
      go_roundw
      case rel => exact ⟨i + 1, by first | rfl | simp, by omega, by rw [HNX.out]; exact ho4, hb4⟩
      case measure => simp; omega
    · have hip : i = l.length := by omega
      subst hip
      rw [List.take_length] at ho
      have hlt' : ¬ ((l.length : Int) < (l.length : Int)) := by omega
      go_wp2_with fail
      go_ret
      exact ⟨_, rfl, ho, hb⟩
end Go.Proofs.YtdpnnglfaofjeaaDoor.Y
namespace Go.Proofs.YtdpnnglfaofjeaaDoor.V
open Go.RowKit Go.Shelf Go.Proofs.YtdpnnglfaofjeaaDoorW.PrintWords Go.Proofs.YtdpnnglfaofjeaaDoorW.PrintLast Go.Proofs.YtdpnnglfaofjeaaDoorW.PrintMore
set_option linter.unusedVariables false
set_option linter.unusedSimpArgs false
set_option maxRecDepth 100000
attribute [local go_sem] Oper.semAt_some
def placeN (chs : List (List Int)) (k : Nat) : Nat := (chs.take k).flatten.length
abbrev Nth (chs : List (List Int)) := { k : Nat // k < chs.length }
def InOrder {chs : List (List Int)} (pre : List (Nth chs)) : Prop := pre.map (·.1) = List.range pre.length
theorem InOrder.snoc {chs : List (List Int)} {pre : List (Nth chs)} (h : InOrder pre) (x : Nth chs) (hx : x.1 = pre.length) : InOrder (pre ++ [x]) := by
  unfold InOrder at h ⊢
  rw [List.map_append, h, List.length_append, List.length_singleton, List.range_succ]
  simp [hx]
theorem placeN_succ (chs : List (List Int)) (k : Nat) (h : k < chs.length) : placeN chs (k + 1) = placeN chs k + (chs.getD k []).length := by
  have e : chs.take (k + 1) = chs.take k ++ [chs.getD k []] := by
    have : chs.getD k [] = chs[k] := by simp [List.getD_eq_getElem?_getD, h]
    rw [this, List.take_append_getElem]
  unfold placeN
  rw [e, List.flatten_append, List.length_append]
  simp
theorem decode_nth (chs : List (List Int)) (hf : ∀ ch ∈ chs, Form ch) (k : Nat) (h : k < chs.length) : Utf8.decode (strOfNums chs.flatten) (placeN chs k) = ((runeOf (chs.getD k [])).toNat, (chs.getD k []).length) := by
  have e : chs.flatten = (chs.take k).flatten ++ chs.getD k [] ++ (chs.drop (k + 1)).flatten := by
    have h1 : chs = chs.take k ++ (chs.getD k [] :: chs.drop (k + 1)) := by
      have : chs.getD k [] = chs[k] := by simp [List.getD_eq_getElem?_getD, h]
      rw [this, ← List.drop_eq_getElem_cons h, List.take_append_drop]
    conv => lhs; rw [h1]
    simp [List.flatten_append, List.append_assoc]
  have hm : Form (chs.getD k []) := hf _ (by simp [List.getD_eq_getElem?_getD, h])
  rw [e]
  exact decode_form _ _ _ hm
theorem rune_pos {ch : List Int} (h : Form ch) : 0 ≤ runeOf ch := by
  rcases h with ⟨x, rfl, h1, h2⟩ | ⟨x, y, rfl, h1, h2, h3, h4⟩ | ⟨x, y, z, rfl, h1, h2, h3, h4, h5, h6, h7, h8⟩ | ⟨x, y, z, u, rfl, h1, h2, h3, h4, h5, h6, h7, h8, h9, h10⟩ <;> simp only [runeOf] <;> omega
theorem placeN_le (chs : List (List Int)) (hf : ∀ ch ∈ chs, Form ch) (k : Nat) (h : k < chs.length) : placeN chs k < chs.flatten.length := by
  have e : chs.flatten.length = (chs.take k).flatten.length + (chs.drop k).flatten.length := by rw [← List.length_append, ← List.flatten_append, List.take_append_drop]
  rw [List.drop_eq_getElem_cons h, List.flatten_cons, List.length_append] at e
  have := form_pos (hf _ (List.getElem_mem h))
  unfold placeN
  omega
theorem grown_iterAt (W : World) (k : Nat) (s : ByteArray) (pos : Nat) : W.grownBy (W.iterAt k s pos) (some k) :=
  ⟨rfl, rfl, rfl, by rw [Lib.iterAt_size]; exact Nat.le_refl _, fun i _ hi => Lib.iterAt_other W k i s pos (fun e => hi (by rw [e]))⟩
end Go.Proofs.YtdpnnglfaofjeaaDoor.V
namespace Go.Proofs.YtdpnnglfaofjeaaDoor.V
open Go.RowKit Go.Shelf Go.Proofs.YtdpnnglfaofjeaaDoorW.PrintWords Go.Proofs.YtdpnnglfaofjeaaDoorW.PrintLast Go.Proofs.YtdpnnglfaofjeaaDoorW.PrintMore
set_option linter.unusedVariables false
set_option linter.unusedSimpArgs false
set_option maxRecDepth 100000
attribute [local go_sem] Oper.semAt_some
section
variable {F : Fence} {n : Nat} {ops : Array Oper} {rest : List Oper} {o : Oper} {a : Act} {Q : Exit → Act → World → Prop}
end
end Go.Proofs.YtdpnnglfaofjeaaDoor.V
namespace Go.Proofs.YtdpnnglfaofjeaaDoor.V
open Go.RowKit Go.Shelf Go.Proofs.YtdpnnglfaofjeaaDoorW.PrintWords Go.Proofs.YtdpnnglfaofjeaaDoorW.PrintLast Go.Proofs.YtdpnnglfaofjeaaDoorW.PrintMore
set_option linter.unusedVariables false
set_option linter.unusedSimpArgs false
set_option maxRecDepth 100000
attribute [local go_sem] Oper.semAt_some
theorem Boxed.below {W W' : World} {B : Nat} {t : TypeId} {v : Value} (h : Boxed W B t v) (hb : Below W.heap.size W W') : Boxed W' B t v := (hb.block B h.lt).trans h
theorem clean_len' (l : List Int) : (clean l).length ≤ 3 * l.length := by
  have h := run_len l
  unfold clean rest3
  rw [List.length_append]
  split <;> simp [fffd] <;> omega
theorem flatten_ge (chs : List (List Int)) (h : ∀ ch ∈ chs, Form ch) : chs.length ≤ chs.flatten.length := by
  induction chs with
  | nil => simp
  | cons a t ih =>
    have h1 := ih (fun ch hc => h ch (List.mem_cons_of_mem _ hc))
    have h2 := form_pos (h a List.mem_cons_self)
    rw [List.flatten_cons, List.length_append, List.length_cons]
    omega
end Go.Proofs.YtdpnnglfaofjeaaDoor.V
namespace Go.Proofs.YtdpnnglfaofjeaaDoor.V
open Go.RowKit Go.Shelf Go.Proofs.YtdpnnglfaofjeaaDoorW.PrintWords Go.Proofs.YtdpnnglfaofjeaaDoorW.PrintLast Go.Proofs.YtdpnnglfaofjeaaDoorW.PrintMore
open PJh (unitJ)
set_option linter.unusedVariables false
set_option linter.unusedSimpArgs false
set_option maxRecDepth 100000
attribute [local go_sem] Oper.semAt_some
theorem ite_len {c : Prop} {_ : Decidable c} {a b : List Int} (ha : 0 < a.length ∧ a.length ≤ 6) (hb : 0 < b.length ∧ b.length ≤ 6) : 0 < (if c then a else b).length ∧ (if c then a else b).length ≤ 6 := by
  split
  · exact ha
  · exact hb
theorem encode_len (r : Int) : 0 < (Lib.encodeRuneZ r).length ∧ (Lib.encodeRuneZ r).length ≤ 6 := by
  unfold Lib.encodeRuneZ
  exact ite_len (by simp) (ite_len (by simp) (ite_len (by simp) (ite_len (by simp) (by simp))))
theorem unitJ_len (r : Int) : 0 < (unitJ r).length ∧ (unitJ r).length ≤ 6 := by
  unfold unitJ
  exact ite_len (by simp) (ite_len (by simp) (ite_len (by simp) (ite_len (by simp) (ite_len (by simp) (ite_len (by simp) (ite_len (by simp) (ite_len (by simp) (encode_len r))))))))
theorem rune_le {ch : List Int} (h : Form ch) : 0 ≤ runeOf ch ∧ runeOf ch ≤ 2097151 := by
  refine ⟨rune_pos h, ?_⟩
  rcases h with ⟨x, rfl, h1, h2⟩ | ⟨x, y, rfl, h1, h2, h3, h4⟩ | ⟨x, y, z, rfl, h1, h2, h3, h4, h5, h6, h7, h8⟩ | ⟨x, y, z, u, rfl, h1, h2, h3, h4, h5, h6, h7, h8, h9, h10⟩ <;> simp only [runeOf] <;> omega
def UnitIs (w : World) (l : List Int) (e : Ending) (w' : World) : Prop := ∃ A c, e = .returned (.slice A l.length c) ∧ Kd.C (Kd.int .u8) w' A l.length l ∧ Below w.heap.size w w'
section
variable {F : Fence} {n : Nat} {P : Program} {ops : Array Oper} {o : Oper} {a : Act} {Q : Exit → Act → World → Prop} {K : Act → World → Prop}
end
end Go.Proofs.YtdpnnglfaofjeaaDoor.V
namespace Go.Proofs.YtdpnnglfaofjeaaDoor.Y
open Go.RowKit Go.Proofs.YtdpnnglfaofjeaaDoorW.PrintWords Go.Proofs.YtdpnnglfaofjeaaDoorW.PrintLast Go.Proofs.YtdpnnglfaofjeaaDoorW.PrintMore
open Go.Proofs.YtdpnnglfaofjeaaDoor.V (RB RB.of_OB RB.lit info5)
open PJh (unitJ)
set_option linter.unusedVariables false
set_option linter.unusedSimpArgs false
set_option maxRecDepth 100000
def encZ (r : Int) : List Int := Lib.encodeRuneZ r
def baseE (k r : Int) : List Int := if k = 4 ∨ k = 5 then (encZ r).flatMap pathU else if k = 6 then (encZ r).flatMap queryU else if k = 7 ∨ k = 8 then unitJ r else if k = 9 ∨ k = 10 then (encZ r).flatMap U.unitL else encZ r
def unitE (k r : Int) : List Int := if k = 7 ∨ k = 9 then baseE k r else (baseE k r).flatMap htmlU
theorem u8m (x : Int) (n : Nat) (h : n = x.toNat) (hx : 0 ≤ x ∧ x ≤ 255) : ((UInt8.ofNat n).toNat : Int) = x := by
  subst h
  simp
  omega
theorem bytes_encode (R : Int) (h0 : 0 ≤ R) : bytesOf (Utf8.encode R) = encZ R := by
  unfold encZ Lib.encodeRuneZ
  by_cases c1 : R ≤ 127
  · have hv : Utf8.valid R = true := by simp [Utf8.valid]; omega
    rw [if_pos ⟨h0, c1⟩]
    simp only [Utf8.encode, hv, if_true]
    rw [if_pos (by omega)]
    simp only [bytesOf, List.map_cons, List.map_nil]
    rw [u8m R _ rfl (by omega)]
  rw [if_neg (by omega)]
  by_cases c2 : R ≤ 2047
  · have hv : Utf8.valid R = true := by simp [Utf8.valid]; omega
    rw [if_pos (by omega)]
    simp only [Utf8.encode, hv, if_true]
    rw [if_neg (by omega), if_pos (by omega)]
    simp only [bytesOf, List.map_cons, List.map_nil]
    rw [u8m (192 + R / 64) _ (by omega) (by omega), u8m (128 + R % 64) _ (by omega) (by omega)]
  rw [if_neg (by omega)]
  by_cases c3 : R < 55296 ∨ (57343 < R ∧ R ≤ 65535)
  · have hv : Utf8.valid R = true := by simp [Utf8.valid]; omega
    rw [if_pos (by omega)]
    simp only [Utf8.encode, hv, if_true]
    rw [if_neg (by omega), if_neg (by omega), if_pos (by omega)]
    simp only [bytesOf, List.map_cons, List.map_nil]
    rw [u8m (224 + R / 4096) _ (by omega) (by omega), u8m (128 + R / 64 % 64) _ (by omega) (by omega), u8m (128 + R % 64) _ (by omega) (by omega)]
  rw [if_neg (by omega)]
  by_cases c4 : 65536 ≤ R ∧ R ≤ 1114111
  · have hv : Utf8.valid R = true := by simp [Utf8.valid]; omega
    rw [if_pos c4]
    simp only [Utf8.encode, hv, if_true]
    rw [if_neg (by omega), if_neg (by omega), if_neg (by omega)]
    simp only [bytesOf, List.map_cons, List.map_nil]
    rw [u8m (240 + R / 262144) _ (by omega) (by omega), u8m (128 + R / 4096 % 64) _ (by omega) (by omega), u8m (128 + R / 64 % 64) _ (by omega) (by omega), u8m (128 + R % 64) _ (by omega) (by omega)]
  · rw [if_neg c4]
    have hv : Utf8.valid R = false := by
      cases h : Utf8.valid R
      · rfl
      · simp [Utf8.valid] at h; omega
    simp only [Utf8.encode, hv, Bool.false_eq_true, if_false]
    decide
theorem encZ_ok (r : Int) : (∀ x ∈ encZ r, 0 ≤ x ∧ x ≤ 255) ∧ 0 < (encZ r).length ∧ (encZ r).length ≤ 4 := by
  unfold encZ Lib.encodeRuneZ
  repeat' split
  all_goals simp
  all_goals omega
theorem isU_css : IsU U.unitL := fun b hb => by
  have h : ∀ b : Int, 0 ≤ b ∧ b ≤ 255 → ((U.unitL b).all (fun x => decide (0 ≤ x) && decide (x ≤ 255)) && decide ((U.unitL b).length ≤ 6)) = true := of_bytes (by decide +kernel)
  exact isU_of h b hb
theorem unitJ_ok (r : Int) : (∀ x ∈ unitJ r, 0 ≤ x ∧ x ≤ 255) ∧ (unitJ r).length ≤ 6 := by
  refine ⟨?_, (V.unitJ_len r).2⟩
  have he := (encZ_ok r).1
  intro x hx
  unfold unitJ at hx
  split at hx
  · simp at hx; omega
  split at hx
  · simp at hx; omega
  split at hx
  · simp at hx; omega
  split at hx
  · simp at hx; omega
  split at hx
  · simp at hx; omega
  split at hx
  · simp at hx; omega
  split at hx
  · simp at hx; omega
  split at hx
  · rename_i h
    unfold PJh.Hexed at h
    have h1 := PJh.dig_range (r.toNat / 16) (by omega)
    have h2 := PJh.dig_range (r.toNat % 16) (by omega)
    simp only [List.mem_cons, List.not_mem_nil, or_false] at hx
    rcases hx with rfl | rfl | rfl | rfl <;> omega
  · exact he x hx
theorem baseE_ok (k r : Int) : (∀ x ∈ baseE k r, 0 ≤ x ∧ x ≤ 255) ∧ (baseE k r).length ≤ 24 := by
  obtain ⟨h1, h2, h3⟩ := encZ_ok r
  have a1 := flat_le isU_path (encZ r) h1
  have a2 := flat_le isU_query (encZ r) h1
  have a3 := flat_le isU_css (encZ r) h1
  have a4 := unitJ_ok r
  unfold baseE
  repeat' split
  · exact ⟨a1.2, by omega⟩
  · exact ⟨a2.2, by omega⟩
  · exact ⟨a4.1, by omega⟩
  · exact ⟨a3.2, by omega⟩
  · exact ⟨h1, by omega⟩
theorem unitE_ok (k r : Int) : (∀ x ∈ unitE k r, 0 ≤ x ∧ x ≤ 255) ∧ (unitE k r).length ≤ 144 := by
  obtain ⟨h1, h2⟩ := baseE_ok k r
  have a1 := flat_le isU_html (baseE k r) h1
  unfold unitE
  split
  · exact ⟨h1, by omega⟩
  · exact ⟨a1.2, by omega⟩
end Go.Proofs.YtdpnnglfaofjeaaDoor.Y

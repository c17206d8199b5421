import Derived.Lib.Walk
import Derived.Lib.Strings
import Derived.Lib.IndexBytes
import Derived.Lib.AsciiSet
import Derived.Laws.Strings3
import Derived.Laws.ResultCell
import Derived.Deep.WholeRow
import Derived.LoopTactic
import Derived.Lib.IndexEntry
import Derived.Lib.Bytealg
import Derived.Laws.RangeString
import Derived.Handy
import Derived.Test.YtdpnnglfaofjeaaDoorRows
import Derived.Lib.LaidU8
import Derived.Lib.LaidTab
import Derived.Shelf.Vars
import Derived.Deep.DeepHandedRow
import Derived.LaidSub
import Derived.Lay
import Derived.OpenShut
import Derived.Deep.Slices
import Derived.ChangeArms
import Derived.ProofKit
import Derived.JoinedCond
import Derived.Test.YtdpnnglfaofjeaaDoorZF6
namespace Go.Proofs.YtdpnnglfaofjeaaDoor.Y
open Go.RowKit Go.Proofs.YtdpnnglfaofjeaaDoorW.PrintWords Go.Proofs.YtdpnnglfaofjeaaDoorW.PrintLast Go.Proofs.YtdpnnglfaofjeaaDoorW.PrintMore
open Go.Proofs.YtdpnnglfaofjeaaDoor.V (RB RB.of_OB RB.lit info5)
open PJh (unitJ)
set_option linter.unusedVariables false
set_option linter.unusedSimpArgs false
set_option maxRecDepth 100000
theorem conv_sb (W : World) (y : ByteArray) (l : List Int) (hl : bytesOf y = l) (hy : y.size ≤ 9223372036854775807) : ∃ A c W1, (convert 9 22 (.string y)).run Tryd.prog W = .ok (.slice A l.length c) W1 ∧ l.length ≤ c ∧ Kd.C (Kd.int .u8) W1 A l.length l ∧ RB W.heap.size W1 (.slice A l.length c) l ∧ Below W.heap.size W W1 := by
  subst hl
  have hr := run_bytes_of_string (P := Tryd.prog) W 9 22 5 y Tryd.underlying9 Tryd.underlying22 Tryd.underlying5
  have hn := heap_alloc_new W.drew (.cells (bytesRow y (grownCap W y.size 0 5)) 5 ((bytesRow y (grownCap W y.size 0 5)).size, (bytesRow y (grownCap W y.size 0 5)).size + 1))
  have hb : Below W.heap.size W (W.drew.alloc (.cells (bytesRow y (grownCap W y.size 0 5)) 5 ((bytesRow y (grownCap W y.size 0 5)).size, (bytesRow y (grownCap W y.size 0 5)).size + 1))) := (below_drew (Below.refl _ _)).alloc (Nat.le_refl _) _
  have hV := V_of_block (base := 0) (ok := fun k => W.heap.size ≤ k) (c := grownCap W y.size 0 5) (l := bytesOf y) hn (fun i x hx => bytesRow_at y _ i x hx) (Nat.le_refl _) (by rw [bytesOf_length]; exact hy) (by rw [bytesOf_length]; exact grownCap_ge _ _ _ _)
  obtain ⟨A, c, he, hc, hF⟩ := hV
  rw [← bytesOf_length y] at hr
  refine ⟨A, c, _, ?_, hc, Kd.F_now hF, ⟨A, c, rfl, hc, hF⟩, hb⟩
  rw [← he]
  rw [bytesOf_length] at hr ⊢
  exact hr
def OutIs (w : World) (l : List Int) (e : Ending) (w' : World) : Prop := ∃ v, e = .returned v ∧ Kd.R (Kd.int .u8) 5 w' w.heap.size (fun _ => True) v l ∧ Below w.heap.size w w'
theorem path_each (l : List Int) (A : Option Addr) (c : Nat) (w : World) (hp : Kd.C (Kd.int .u8) w A l.length l) (hc : l.length ≤ c) (hB : ∀ x ∈ l, 0 ≤ x ∧ x ≤ 255) (hN : l.length ≤ 4398046511104) : Calls Tryd.prog 97 #[.slice A l.length c, .func (.func 98) #[] #[]] w (OutIs w (l.flatMap pathU)) :=
  each_98 pathU isU_path l A c w hp hc hB hN (fun b W hb _ => PEq.percent_PathUnit.calls b _ W (pathU_f b hb))
theorem query_each (l : List Int) (A : Option Addr) (c : Nat) (w : World) (hp : Kd.C (Kd.int .u8) w A l.length l) (hc : l.length ≤ c) (hB : ∀ x ∈ l, 0 ≤ x ∧ x ≤ 255) (hN : l.length ≤ 4398046511104) : Calls Tryd.prog 97 #[.slice A l.length c, .func (.func 99) #[] #[]] w (OutIs w (l.flatMap queryU)) :=
  each_99 queryU isU_query l A c w hp hc hB hN (fun b W hb _ => query_calls b hb W)
theorem html_each (l : List Int) (A : Option Addr) (c : Nat) (w : World) (hp : Kd.C (Kd.int .u8) w A l.length l) (hc : l.length ≤ c) (hB : ∀ x ∈ l, 0 ≤ x ∧ x ≤ 255) (hN : l.length ≤ 4398046511104) : Calls Tryd.prog 97 #[.slice A l.length c, .func (.func 100) #[] #[]] w (OutIs w (l.flatMap htmlU)) :=
  each_100 htmlU isU_html l A c w hp hc hB hN (fun b W hb _ => PEp.html_Unit.calls b _ W (htmlU_f b hb))
theorem css_each (l : List Int) (A : Option Addr) (c : Nat) (w : World) (hp : Kd.C (Kd.int .u8) w A l.length l) (hc : l.length ≤ c) (hB : ∀ x ∈ l, 0 ≤ x ∧ x ≤ 255) (hN : l.length ≤ 4398046511104) (hT : U.TabOK w) : Calls Tryd.prog 97 #[.slice A l.length c, .func (.func 24) #[] #[]] w (OutIs w (l.flatMap U.unitL)) :=
  each_24 U.unitL isU_css l A c w hp hc hB hN (fun b W hb hW => U.unit_calls b hb W (hT.below hW))
theorem js_calls (r : Int) (h0 : -2147483648 ≤ r) (h1 : r ≤ 2147483647) (w : World) (h : U.TabOK w) : Calls Tryd.prog 33 #[.int .i32 r] w (UnitIs w (unitJ r)) := by
  obtain ⟨k, hk⟩ := (PJh.unit_ev r h0 h1).rounds
  exact PJh.jsstr_Unit.calls k r _ w hk h
theorem UnitIs.then {w w1 : World} {l : List Int} {e : Ending} {w' : World} (h : UnitIs w1 l e w') (hb : Below w.heap.size w w1) : UnitIs w l e w' := by
  obtain ⟨v, he, hr, hb1⟩ := h
  exact ⟨v, he, hr.lower hb.size, below_then hb hb.size hb1⟩
set_option maxHeartbeats 4000000 in
theorem unit_1 (r : Int) (h0 : 0 ≤ r) (h1 : r ≤ 2147483647) (w : World) (hT : U.TabOK w) : Calls Tryd.prog 87 #[.int .u8 1, .int .i32 r] w (UnitIs w ((encZ r).flatMap htmlU)) := by
  obtain ⟨he1, he2, he3⟩ := encZ_ok r
  obtain ⟨Av, cv, wv, hcv, hlv, hCv, hRv, hbv⟩ := conv_sb w (Utf8.encode r) (encZ r) (bytes_encode r h0) (by have := congrArg List.length (bytes_encode r h0); rw [bytesOf_length] at this; omega)
  have hCx := hCv
  clear hT
  go_enter Tryd.func87, Tryd.ntmps87
  go_wp2_with (go_at_call 97; go_loud (refine (html_each (encZ r) Av cv wv hCv hlv he1 (by omega)).mono ?_; rintro e w2 ⟨v2, rfl, hr2, hb2⟩; have hb2' := below_then hbv hbv.size hb2))
  go_ret
  exact ⟨_, rfl, RB.lower (RB.of_OB hr2) hbv.size, hb2'⟩
set_option maxHeartbeats 4000000 in
theorem unit_2 (r : Int) (h0 : 0 ≤ r) (h1 : r ≤ 2147483647) (w : World) (hT : U.TabOK w) : Calls Tryd.prog 87 #[.int .u8 2, .int .i32 r] w (UnitIs w ((encZ r).flatMap htmlU)) := by
  obtain ⟨he1, he2, he3⟩ := encZ_ok r
  obtain ⟨Av, cv, wv, hcv, hlv, hCv, hRv, hbv⟩ := conv_sb w (Utf8.encode r) (encZ r) (bytes_encode r h0) (by have := congrArg List.length (bytes_encode r h0); rw [bytesOf_length] at this; omega)
  have hCx := hCv
  clear hT
  go_enter Tryd.func87, Tryd.ntmps87
  go_wp2_with (go_at_call 97; go_loud (refine (html_each (encZ r) Av cv wv hCv hlv he1 (by omega)).mono ?_; rintro e w2 ⟨v2, rfl, hr2, hb2⟩; have hb2' := below_then hbv hbv.size hb2))
  go_ret
  exact ⟨_, rfl, RB.lower (RB.of_OB hr2) hbv.size, hb2'⟩
set_option maxHeartbeats 4000000 in
theorem unit_3 (r : Int) (h0 : 0 ≤ r) (h1 : r ≤ 2147483647) (w : World) (hT : U.TabOK w) : Calls Tryd.prog 87 #[.int .u8 3, .int .i32 r] w (UnitIs w ((encZ r).flatMap htmlU)) := by
  obtain ⟨he1, he2, he3⟩ := encZ_ok r
  obtain ⟨Av, cv, wv, hcv, hlv, hCv, hRv, hbv⟩ := conv_sb w (Utf8.encode r) (encZ r) (bytes_encode r h0) (by have := congrArg List.length (bytes_encode r h0); rw [bytesOf_length] at this; omega)
  have hCx := hCv
  clear hT
  go_enter Tryd.func87, Tryd.ntmps87
  go_wp2_with (go_at_call 97; go_loud (refine (html_each (encZ r) Av cv wv hCv hlv he1 (by omega)).mono ?_; rintro e w2 ⟨v2, rfl, hr2, hb2⟩; have hb2' := below_then hbv hbv.size hb2))
  go_ret
  exact ⟨_, rfl, RB.lower (RB.of_OB hr2) hbv.size, hb2'⟩
set_option maxHeartbeats 4000000 in
theorem unit_4 (r : Int) (h0 : 0 ≤ r) (h1 : r ≤ 2147483647) (w : World) (hT : U.TabOK w) : Calls Tryd.prog 87 #[.int .u8 4, .int .i32 r] w (UnitIs w (((encZ r).flatMap pathU).flatMap htmlU)) := by
  obtain ⟨he1, he2, he3⟩ := encZ_ok r
  obtain ⟨Av, cv, wv, hcv, hlv, hCv, hRv, hbv⟩ := conv_sb w (Utf8.encode r) (encZ r) (bytes_encode r h0) (by have := congrArg List.length (bytes_encode r h0); rw [bytesOf_length] at this; omega)
  have hCx := hCv
  have cF := path_each (encZ r) Av cv wv hCv hlv he1 (by omega)
  have hok := flat_le isU_path (encZ r) he1
  have hlen : ((encZ r).flatMap pathU).length ≤ 24 := by omega
  generalize (encZ r).flatMap pathU = bs at cF hok hlen ⊢
  clear hT
  go_enter Tryd.func87, Tryd.ntmps87
  go_wp2_with fail
  (refine cF.mono ?_; rintro e w1 ⟨v1, rfl, hr1, hb1⟩; have hb1' := below_then hbv hbv.size hb1; have hrb1 := RB.lower (RB.of_OB hr1) hbv.size; obtain ⟨A1, c1, rfl, hc1, hC1⟩ := hrb1.reads; clear cF)
  go_wp2_with (go_at_call 97; go_loud (refine (html_each bs A1 c1 w1 hC1 hc1 hok.2 (by omega)).mono ?_; rintro e w2 ⟨v2, rfl, hr2, hb2⟩; have hb2' := below_then hb1' hb1'.size hb2))
  go_ret
  exact ⟨_, rfl, RB.lower (RB.of_OB hr2) hb1'.size, hb2'⟩
set_option maxHeartbeats 4000000 in
theorem unit_5 (r : Int) (h0 : 0 ≤ r) (h1 : r ≤ 2147483647) (w : World) (hT : U.TabOK w) : Calls Tryd.prog 87 #[.int .u8 5, .int .i32 r] w (UnitIs w (((encZ r).flatMap pathU).flatMap htmlU)) := by
  obtain ⟨he1, he2, he3⟩ := encZ_ok r
  obtain ⟨Av, cv, wv, hcv, hlv, hCv, hRv, hbv⟩ := conv_sb w (Utf8.encode r) (encZ r) (bytes_encode r h0) (by have := congrArg List.length (bytes_encode r h0); rw [bytesOf_length] at this; omega)
  have hCx := hCv
  have cF := path_each (encZ r) Av cv wv hCv hlv he1 (by omega)
  have hok := flat_le isU_path (encZ r) he1
  have hlen : ((encZ r).flatMap pathU).length ≤ 24 := by omega
  generalize (encZ r).flatMap pathU = bs at cF hok hlen ⊢
  clear hT
  go_enter Tryd.func87, Tryd.ntmps87
  go_wp2_with fail
  (refine cF.mono ?_; rintro e w1 ⟨v1, rfl, hr1, hb1⟩; have hb1' := below_then hbv hbv.size hb1; have hrb1 := RB.lower (RB.of_OB hr1) hbv.size; obtain ⟨A1, c1, rfl, hc1, hC1⟩ := hrb1.reads; clear cF)
  go_wp2_with (go_at_call 97; go_loud (refine (html_each bs A1 c1 w1 hC1 hc1 hok.2 (by omega)).mono ?_; rintro e w2 ⟨v2, rfl, hr2, hb2⟩; have hb2' := below_then hb1' hb1'.size hb2))
  go_ret
  exact ⟨_, rfl, RB.lower (RB.of_OB hr2) hb1'.size, hb2'⟩
set_option maxHeartbeats 4000000 in
theorem unit_6 (r : Int) (h0 : 0 ≤ r) (h1 : r ≤ 2147483647) (w : World) (hT : U.TabOK w) : Calls Tryd.prog 87 #[.int .u8 6, .int .i32 r] w (UnitIs w (((encZ r).flatMap queryU).flatMap htmlU)) := by
  obtain ⟨he1, he2, he3⟩ := encZ_ok r
  obtain ⟨Av, cv, wv, hcv, hlv, hCv, hRv, hbv⟩ := conv_sb w (Utf8.encode r) (encZ r) (bytes_encode r h0) (by have := congrArg List.length (bytes_encode r h0); rw [bytesOf_length] at this; omega)
  have hCx := hCv
  have cF := query_each (encZ r) Av cv wv hCv hlv he1 (by omega)
  have hok := flat_le isU_query (encZ r) he1
  have hlen : ((encZ r).flatMap queryU).length ≤ 24 := by omega
  generalize (encZ r).flatMap queryU = bs at cF hok hlen ⊢
  clear hT
  go_enter Tryd.func87, Tryd.ntmps87
  go_wp2_with fail
  (refine cF.mono ?_; rintro e w1 ⟨v1, rfl, hr1, hb1⟩; have hb1' := below_then hbv hbv.size hb1; have hrb1 := RB.lower (RB.of_OB hr1) hbv.size; obtain ⟨A1, c1, rfl, hc1, hC1⟩ := hrb1.reads; clear cF)
  go_wp2_with (go_at_call 97; go_loud (refine (html_each bs A1 c1 w1 hC1 hc1 hok.2 (by omega)).mono ?_; rintro e w2 ⟨v2, rfl, hr2, hb2⟩; have hb2' := below_then hb1' hb1'.size hb2))
  go_ret
  exact ⟨_, rfl, RB.lower (RB.of_OB hr2) hb1'.size, hb2'⟩
set_option maxHeartbeats 4000000 in
theorem unit_7 (r : Int) (h0 : 0 ≤ r) (h1 : r ≤ 2147483647) (w : World) (hT : U.TabOK w) : Calls Tryd.prog 87 #[.int .u8 7, .int .i32 r] w (UnitIs w (unitJ r)) := by
  obtain ⟨he1, he2, he3⟩ := encZ_ok r
  obtain ⟨Av, cv, wv, hcv, hlv, hCv, hRv, hbv⟩ := conv_sb w (Utf8.encode r) (encZ r) (bytes_encode r h0) (by have := congrArg List.length (bytes_encode r h0); rw [bytesOf_length] at this; omega)
  have cJ := js_calls r (by omega) h1 wv (hT.below hbv)
  have hok := unitJ_ok r
  generalize unitJ r = bs at cJ hok ⊢
  clear hT
  go_enter Tryd.func87, Tryd.ntmps87
  go_wp2_with (go_at_call 33; go_loud (refine cJ.mono ?_; rintro e w1 ⟨v1, rfl, hr1, hb1⟩; have hb1' := below_then hbv hbv.size hb1; obtain ⟨A1, c1, rfl, hc1, hC1⟩ := hr1.reads))
  go_ret
  exact ⟨_, rfl, RB.lower hr1 hbv.size, hb1'⟩
set_option maxHeartbeats 4000000 in
theorem unit_8 (r : Int) (h0 : 0 ≤ r) (h1 : r ≤ 2147483647) (w : World) (hT : U.TabOK w) : Calls Tryd.prog 87 #[.int .u8 8, .int .i32 r] w (UnitIs w ((unitJ r).flatMap htmlU)) := by
  obtain ⟨he1, he2, he3⟩ := encZ_ok r
  obtain ⟨Av, cv, wv, hcv, hlv, hCv, hRv, hbv⟩ := conv_sb w (Utf8.encode r) (encZ r) (bytes_encode r h0) (by have := congrArg List.length (bytes_encode r h0); rw [bytesOf_length] at this; omega)
  have cJ := js_calls r (by omega) h1 wv (hT.below hbv)
  have hok := unitJ_ok r
  generalize unitJ r = bs at cJ hok ⊢
  clear hT
  go_enter Tryd.func87, Tryd.ntmps87
  go_wp2_with (first
    | (go_at_call 33; go_loud (refine cJ.mono ?_; rintro e w1 ⟨v1, rfl, hr1, hb1⟩; have hb1' := below_then hbv hbv.size hb1; obtain ⟨A1, c1, rfl, hc1, hC1⟩ := hr1.reads))
    | (go_at_call 97; go_loud (refine (html_each bs A1 c1 w1 hC1 hc1 hok.1 (by omega)).mono ?_; rintro e w2 ⟨v2, rfl, hr2, hb2⟩; have hb2' := below_then hb1' hb1'.size hb2)))
  go_ret
  exact ⟨_, rfl, RB.lower (RB.of_OB hr2) hb1'.size, hb2'⟩
set_option maxHeartbeats 4000000 in
theorem unit_9 (r : Int) (h0 : 0 ≤ r) (h1 : r ≤ 2147483647) (w : World) (hT : U.TabOK w) : Calls Tryd.prog 87 #[.int .u8 9, .int .i32 r] w (UnitIs w ((encZ r).flatMap U.unitL)) := by
  obtain ⟨he1, he2, he3⟩ := encZ_ok r
  obtain ⟨Av, cv, wv, hcv, hlv, hCv, hRv, hbv⟩ := conv_sb w (Utf8.encode r) (encZ r) (bytes_encode r h0) (by have := congrArg List.length (bytes_encode r h0); rw [bytesOf_length] at this; omega)
  have hCx := hCv
  have cF := css_each (encZ r) Av cv wv hCv hlv he1 (by omega) (hT.below hbv)
  have hok := flat_le isU_css (encZ r) he1
  have hlen : ((encZ r).flatMap U.unitL).length ≤ 24 := by omega
  generalize (encZ r).flatMap U.unitL = bs at cF hok hlen ⊢
  clear hT
  go_enter Tryd.func87, Tryd.ntmps87
  go_wp2_with (go_at_call 97; go_loud (refine cF.mono ?_; rintro e w1 ⟨v1, rfl, hr1, hb1⟩; have hb1' := below_then hbv hbv.size hb1; have hrb1 := RB.lower (RB.of_OB hr1) hbv.size; obtain ⟨A1, c1, rfl, hc1, hC1⟩ := hrb1.reads; clear cF))
  go_ret
  exact ⟨_, rfl, hrb1, hb1'⟩
set_option maxHeartbeats 4000000 in
theorem unit_10 (r : Int) (h0 : 0 ≤ r) (h1 : r ≤ 2147483647) (w : World) (hT : U.TabOK w) : Calls Tryd.prog 87 #[.int .u8 10, .int .i32 r] w (UnitIs w (((encZ r).flatMap U.unitL).flatMap htmlU)) := by
  obtain ⟨he1, he2, he3⟩ := encZ_ok r
  obtain ⟨Av, cv, wv, hcv, hlv, hCv, hRv, hbv⟩ := conv_sb w (Utf8.encode r) (encZ r) (bytes_encode r h0) (by have := congrArg List.length (bytes_encode r h0); rw [bytesOf_length] at this; omega)
  have hCx := hCv
  have cF := css_each (encZ r) Av cv wv hCv hlv he1 (by omega) (hT.below hbv)
  have hok := flat_le isU_css (encZ r) he1
  have hlen : ((encZ r).flatMap U.unitL).length ≤ 24 := by omega
  generalize (encZ r).flatMap U.unitL = bs at cF hok hlen ⊢
  clear hT
  go_enter Tryd.func87, Tryd.ntmps87
  go_wp2_with fail
  (refine cF.mono ?_; rintro e w1 ⟨v1, rfl, hr1, hb1⟩; have hb1' := below_then hbv hbv.size hb1; have hrb1 := RB.lower (RB.of_OB hr1) hbv.size; obtain ⟨A1, c1, rfl, hc1, hC1⟩ := hrb1.reads; clear cF)
  go_wp2_with (go_at_call 97; go_loud (refine (html_each bs A1 c1 w1 hC1 hc1 hok.2 (by omega)).mono ?_; rintro e w2 ⟨v2, rfl, hr2, hb2⟩; have hb2' := below_then hb1' hb1'.size hb2))
  go_ret
  exact ⟨_, rfl, RB.lower (RB.of_OB hr2) hb1'.size, hb2'⟩
theorem unit_calls (k r : Int) (hk : 1 ≤ k ∧ k ≤ 10) (h0 : 0 ≤ r) (h1 : r ≤ 2147483647) (w : World) (hT : U.TabOK w) : Calls Tryd.prog 87 #[.int .u8 k, .int .i32 r] w (UnitIs w (unitE k r)) := by
  have h : k = 1 ∨ k = 2 ∨ k = 3 ∨ k = 4 ∨ k = 5 ∨ k = 6 ∨ k = 7 ∨ k = 8 ∨ k = 9 ∨ k = 10 := by omega
  rcases h with rfl | rfl | rfl | rfl | rfl | rfl | rfl | rfl | rfl | rfl
  · exact unit_1 r h0 h1 w hT
  · exact unit_2 r h0 h1 w hT
  · exact unit_3 r h0 h1 w hT
  · exact unit_4 r h0 h1 w hT
  · exact unit_5 r h0 h1 w hT
  · exact unit_6 r h0 h1 w hT
  · exact unit_7 r h0 h1 w hT
  · exact unit_8 r h0 h1 w hT
  · exact unit_9 r h0 h1 w hT
  · exact unit_10 r h0 h1 w hT
end Go.Proofs.YtdpnnglfaofjeaaDoor.Y
namespace Go.Proofs.YtdpnnglfaofjeaaDoor.Y
open Go.RowKit Go.Proofs.YtdpnnglfaofjeaaDoorW.PrintWords Go.Proofs.YtdpnnglfaofjeaaDoorW.PrintLast Go.Proofs.YtdpnnglfaofjeaaDoorW.PrintMore
open Go.Proofs.YtdpnnglfaofjeaaDoor.V (RB RB.of_OB RB.lit info5 runeOf placeN placeN_succ decode_nth rune_pos rune_le form_pos placeN_le grown_iterAt str_size)
set_option linter.unusedVariables false
set_option linter.unusedSimpArgs false
set_option maxRecDepth 100000
theorem info22 : (Tryd.prog.info? 22).map (fun i => (i.zero, i.size, i.bytes)) = some (some (.slice none 0 0), 1, 24) := by kernel_rfl
def unitsE (k : Int) (chs : List (List Int)) : List (List Int) := chs.map fun ch => unitE k (runeOf ch)
def UnitsIs (w : World) (L : List (List Int)) (e : Ending) (w' : World) : Prop :=
  ∃ v, e = .returned v ∧ Kd.N (Kd.slice 5 (Kd.int .u8)) 22 w' w.heap.size (fun k => w.heap.size ≤ k) v L ∧ Below w.heap.size w w'
theorem units_next (k : Int) (chs : List (List Int)) (i : Nat) (h : i < chs.length) : unitsE k (chs.take (i + 1)) = unitsE k (chs.take i) ++ [unitE k (runeOf (chs.getD i []))] := by
  have e : chs.take (i + 1) = chs.take i ++ [chs.getD i []] := by
    have : chs.getD i [] = chs[i] := by simp [List.getD_eq_getElem?_getD, h]
    rw [this, List.take_append_getElem]
  unfold unitsE
  rw [e, List.map_append]
  rfl
set_option maxHeartbeats 8000000 in
theorem units_calls (k : Int) (hk : 1 ≤ k ∧ k ≤ 10) (chs : List (List Int)) (hf : ∀ ch ∈ chs, V.Form ch) (A : Option Addr) (c : Nat) (w : World) (hp : Kd.C (Kd.int .u8) w A chs.flatten.length chs.flatten) (hN : chs.flatten.length ≤ 1099511627776) (hT : U.TabOK w) :
    Calls Tryd.prog 73 #[.int .u8 k, .slice A chs.flatten.length c] w (UnitsIs w (unitsE k chs)) := by
  have hstr := Kd.C_string (P := Tryd.prog) (c := c) Tryd.underlying22 Tryd.underlying5 Tryd.underlying9 hp
  have hss : (strOfNums chs.flatten).size = chs.flatten.length := str_size _
  have hdec := decode_nth chs hf
  have hlt := placeN_le chs hf
  have hcl : chs.length ≤ chs.flatten.length := V.flatten_ge chs hf
  have hpl := placeN_succ chs
  have hN2 : placeN chs chs.length = chs.flatten.length := by unfold placeN; rw [List.take_length]
  generalize hL : chs.flatten.length = L at *
  generalize strOfNums chs.flatten = s at hstr hss hdec
  have HF := Lib.hid hf
  have HT := Lib.hid hT
  have HPL := Lib.hid hpl
  have HDEC := Lib.hid hdec
  have HLT := Lib.hid hlt
  have HN2 := Lib.hid hN2
  have hcn : chs.length ≤ 1099511627776 := by omega
  clear hf hT hpl hdec hlt hN2 hL
  go_enter Tryd.func73, Tryd.ntmps73
  go_wp2_with fail
  have hit0 : (w.iter s 0).heap[w.heap.size]? = some (.stringIter s 0) := World.alloc_heap_new w _
  have hb0 : Below w.heap.size w (w.iter s 0) := (Below.refl _ _).alloc (Nat.le_refl _) _
  go_loopw [5] (fun v5 wr => ∃ i : Nat, wr.heap[w.heap.size]? = some (.stringIter s (placeN chs i)) ∧ i ≤ chs.length ∧ Kd.N (Kd.slice 5 (Kd.int .u8)) 22 wr w.heap.size (fun k => w.heap.size < k) v5 (unitsE k (chs.take i)) ∧ Below w.heap.size w wr) (fun _ wr => L - wr.iterPos w.heap.size)
  case atStart => exact ⟨0, hit0, Nat.zero_le _, Kd.N_nil _ _ _ _ _, hb0⟩
  case round =>
    obtain ⟨i, hit, hi, ho, hb⟩ := hrel
    by_cases hpi : i < chs.length
    · have hpos := HLT.out i hpi
      have hform : V.Form (chs.getD i []) := HF.out _ (by simp [List.getD_eq_getElem?_getD, hpi])
      have hr0 := rune_pos hform
      have hr1 := rune_le hform
      have hnx : ∀ ty, (Instr.next (.pointer (some ⟨w.heap.size, 0, none⟩)) true ty).run Tryd.prog wr = .ok (.tuple #[.bool true, .int .i64 (placeN chs i : Int), .int .i32 (runeOf (chs.getD i []))]) (wr.iterAt w.heap.size s (placeN chs (i + 1))) := fun ty => by
        have h1 := Lib.run_next_any_at (P := Tryd.prog) wr w.heap.size s (placeN chs i) ty hit (by rw [hss]; exact hpos)
        rw [HDEC.out i hpi] at h1
        simp only at h1
        rw [HPL.out i hpi, h1]
        rw [show (((runeOf (chs.getD i [])).toNat : Nat) : Int) = runeOf (chs.getD i []) from by omega]
      have hit2 := Lib.iterAt_heap wr w.heap.size s _ (placeN chs (i + 1)) hit
      have hg2 := grown_iterAt wr w.heap.size s (placeN chs (i + 1))
      have hb2 := pw_below_grown hb _ hb.size hg2 (by rintro q ⟨⟩; exact Nat.le_refl _)
      have ho2 := Kd.N_grown ho hg2 (fun q hq e => by injection e with e; omega)
      have hsz2 : (wr.iterAt w.heap.size s (placeN chs (i + 1))).heap.size = wr.heap.size := Lib.iterAt_size _ _ _ _
      have hip : wr.iterPos w.heap.size = placeN chs i := by unfold World.iterPos; rw [hit]
      have hplt : placeN chs i < placeN chs (i + 1) := by
        rw [HPL.out i hpi]
        have := form_pos hform
        omega
      have HNX := Lib.hid (units_next k chs i hpi)
      have hlen : (unitsE k (chs.take i)).length = i := by unfold unitsE; rw [List.length_map, List.length_take]; omega
      generalize unitsE k (chs.take i) = us at ho ho2 HNX hlen
      generalize placeN chs i = p1 at *
      generalize hp2 : placeN chs (i + 1) = p2 at *
      have HP2 := Lib.hid hp2
      clear hp2
      generalize runeOf (chs.getD i []) = r at *
      have cU := unit_calls k r hk hr0 (by omega) (wr.iterAt w.heap.size s p2) (HT.out.below hb2)
      have HLN := Lib.hid hlen
      have hI : w.heap.size < wr.heap.size := blk_lt hit
      clear ho hlen hr0 hr1
      go_wp2_with fail
      refine cU.mono ?_
      rintro e w3 ⟨v3, rfl, hr3, hb3⟩
      obtain ⟨A3, c3, rfl, hc3, hF3⟩ := hr3
      rw [hsz2] at hF3
      have ho3 := Kd.N_below ho2 hb3
      have hb3' := below_then hb2 hb2.size hb3
      have hit3 : w3.heap[w.heap.size]? = some (.stringIter s p2) := (hb3.block _ (by omega)).trans hit2
      have hsz3 : wr.heap.size ≤ w3.heap.size := by have := hb3.size; omega
      have hl2 := Kd.N_lt ho2
      rw [hsz2] at hl2
      clear cU hnx hb3
      go_wp2_with (at_builtin; go_loud (refine Kd.N_append (Kd.slice 5 (Kd.int .u8)) (w0 := w) (W := w3) w.heap.size rfl (.tmp 14) (.tmp 18) 38 22 (.slice none 0 0) 24 rfl Tryd.underlying38 info22 rfl (by decide) (by omega) u5 us (unitE k r) [.slice A3 (unitE k r).length c3] (fun q => w.heap.size < q) (fun q => wr.heap.size ≤ q) rfl rfl (Kd.FK_slice_mk hc3 hF3) (fun q hq => ⟨by omega, fun e => by have := hl2 q e.symm; omega⟩) (fun q hq => by omega) ho3 hb3' hb3'.size (by rw [HLN.out]; omega) ?_; intro v4 w4 ho4 hb4 hg4 _))
      have hit4 := (hg4.block w.heap.size (blk_lt hit3) (fun e => by have := ho3.1 _ e.symm; omega)).trans hit3
      have hip4 : w4.iterPos w.heap.size = p2 := by unfold World.iterPos; rw [hit4]
      go_roundw
      case rel => exact ⟨i + 1, by rw [HP2.out]; exact hit4, by omega, by rw [HNX.out]; exact ho4, hb4⟩
      case measure => rw [hip, hip4]; omega
    · have hpe : i = chs.length := by omega
      subst hpe
      rw [List.take_length] at ho
      rw [HN2.out] at hit
      have hnx : ∀ ty, (Instr.next (.pointer (some ⟨w.heap.size, 0, none⟩)) true ty).run Tryd.prog wr = _ := fun ty => Lib.run_next_end_at (P := Tryd.prog) wr w.heap.size s L ty hit (by omega)
      go_wp2_with fail
      go_ret
      exact ⟨_, rfl, Kd.N_mono ho (fun _ hk => Nat.le_of_lt hk), hb⟩
end Go.Proofs.YtdpnnglfaofjeaaDoor.Y
namespace Go.Proofs.YtdpnnglfaofjeaaDoor.Z
open Go.RowKit Go.Proofs.YtdpnnglfaofjeaaDoorW.PrintWords Go.Proofs.YtdpnnglfaofjeaaDoorW.PrintLast Go.Proofs.YtdpnnglfaofjeaaDoorW.PrintMore
set_option linter.unusedVariables false
set_option linter.unusedSimpArgs false
set_option maxRecDepth 100000
def firstT (p : Nat) : Int := if p < 128 then 240 else if p < 194 then 241 else if p < 224 then 2 else if p = 224 then 19 else if p < 237 then 3 else if p = 237 then 35 else if p < 240 then 3 else if p = 240 then 52 else if p < 244 then 4 else if p = 244 then 68 else 241
def loT : Nat → Int | 1 => 160 | 3 => 144 | _ => 128
def hiT : Nat → Int | 2 => 159 | 4 => 143 | _ => 191
def DecOK (w : World) : Prop := (∀ p : Nat, p < 256 → w.cell? ⟨4, p, none⟩ = some (.int .u8 (firstT p))) ∧ ∀ i : Nat, i < 5 → w.cell? ⟨5, i * 2, none⟩ = some (.int .u8 (loT i)) ∧ w.cell? ⟨5, i * 2 + 1, none⟩ = some (.int .u8 (hiT i))
theorem DecOK.below {w w1 : World} (h : DecOK w) (hb : Below w.heap.size w w1) : DecOK w1 :=
  ⟨fun p hp => (hb.cell (World.block_lt_of_cell? w _ (h.1 p hp))).trans (h.1 p hp), fun i hi => ⟨(hb.cell (World.block_lt_of_cell? w _ (h.2 i hi).1)).trans (h.2 i hi).1, (hb.cell (World.block_lt_of_cell? w _ (h.2 i hi).2)).trans (h.2 i hi).2⟩⟩
def Dec (l : List Int) (r : Int) (n : Nat) : Prop :=
  1 ≤ n ∧ n ≤ l.length ∧ (∀ i : Nat, i < n → 128 ≤ l.getD i 0) ∧ (r = 65533 ∧ n = 1 ∨ n = 2 ∧ 128 ≤ r ∧ r ≤ 2047 ∨ n = 3 ∧ 2048 ≤ r ∧ r ≤ 65535 ∧ (r < 55296 ∨ 57343 < r) ∨ n = 4 ∧ 65536 ≤ r ∧ r ≤ 1114111)
def DecIs (w : World) (l : List Int) (e : Ending) (w' : World) : Prop := ∃ r n, e = .returned (.tuple #[.int .i32 r, .int .i64 ((n : Nat) : Int)]) ∧ Dec l r n ∧ Below w.heap.size w w'
theorem cell_at {w : World} {A : Option Addr} {l : List Int} (hp : Kd.C (Kd.int .u8) w A l.length l) (i : Nat) (h : i < l.length) : ∃ ad, A = some ad ∧ w.cell? (ad.add i) = some (.int .u8 (l.getD i 0)) := by
  obtain ⟨ad, h1, h2⟩ := Kd.at_int hp (i : Int) (by omega) (by omega)
  rw [Int.toNat_natCast] at h2
  exact ⟨ad, h1, h2⟩
theorem dec_bad (l : List Int) (hl : 0 < l.length) (h0 : 128 ≤ l.getD 0 0) : Dec l 65533 1 := by
  refine ⟨by omega, by omega, fun i hi => ?_, .inl ⟨rfl, rfl⟩⟩
  obtain rfl : i = 0 := by omega
  exact h0
theorem andNot_all : ∀ n : Nat, n < 256 → bits BinOp.andNot IntKind.i32 (n : Int) (-1) = 0 := by decide +kernel
set_option maxHeartbeats 4000000 in
theorem slow_bad (l : List Int) (A : Option Addr) (c : Nat) (w : World) (hp : Kd.C (Kd.int .u8) w A l.length l) (hl : 0 < l.length) (h0 : 128 ≤ l.getD 0 0 ∧ l.getD 0 0 ≤ 255) (hT : DecOK w) (hx : firstT (l.getD 0 0).toNat = 241) :
    Calls Tryd.prog 130 #[.slice A l.length c] w (DecIs w l) := by
  obtain ⟨ad, rfl, hc0⟩ := cell_at hp 0 hl
  have hc0' : w.cell? ad = some (.int .u8 (l.getD 0 0)) := by simpa [Addr.add] using hc0
  have hfin := dec_bad l hl h0.1
  obtain ⟨p0, hp0⟩ := Int.eq_ofNat_of_zero_le (show 0 ≤ l.getD 0 0 by omega)
  rw [hp0] at hc0 hc0' h0 hx
  rw [Int.toNat_natCast] at hx
  have hf := hT.1 p0 (by omega)
  rw [hx] at hf
  have hll : ¬ (l.length : Int) < 1 := by omega
  have e1 : wrap32 517543559168 / 2147483648 = -1 := by decide +kernel
  have e2 := andNot_all p0 (by omega)
  have e3 : bits BinOp.and IntKind.i32 65533 (-1) = 65533 := by decide +kernel
  have e4 : bits BinOp.or IntKind.i32 0 65533 = 65533 := by decide +kernel
  clear hp0 hx
  go_enter Tryd.func130, Tryd.ntmps130
  go_wp2
  go_ret2
  refine ⟨65533, 1, ?_, hfin, Below.refl _ _⟩
  first | rfl | (rw [e1, e2, e3, e4]; rfl) | (simp [*])
end Go.Proofs.YtdpnnglfaofjeaaDoor.Z
namespace Go.Proofs.YtdpnnglfaofjeaaDoor.Z
open Go.RowKit Go.Proofs.YtdpnnglfaofjeaaDoorW.PrintWords Go.Proofs.YtdpnnglfaofjeaaDoorW.PrintLast Go.Proofs.YtdpnnglfaofjeaaDoorW.PrintMore
set_option linter.unusedVariables false
set_option linter.unusedSimpArgs false
set_option maxRecDepth 100000
set_option maxHeartbeats 8000000 in
theorem slow_c0 (l : List Int) (A : Option Addr) (c : Nat) (w : World) (hp : Kd.C (Kd.int .u8) w A l.length l) (hB : ∀ j : Nat, 0 ≤ l.getD j 0 ∧ l.getD j 0 ≤ 255) (hl : 0 < l.length) (h0 : 194 ≤ l.getD 0 0 ∧ l.getD 0 0 ≤ 223) (hT : DecOK w) :
    Calls Tryd.prog 130 #[.slice A l.length c] w (DecIs w l) := by
  obtain ⟨ad, rfl, hc0⟩ := cell_at hp 0 hl
  have hc0' : w.cell? ad = some (.int .u8 (l.getD 0 0)) := by simpa [Addr.add] using hc0
  have hbl : ad.block < w.heap.size := World.block_lt_of_cell? w _ hc0'
  obtain ⟨ab, ao, asp⟩ := ad
  have hfin := dec_bad l hl (by omega)
  have hcells := fun j (hj : j < l.length) => cell_at hp j hj
  obtain ⟨p0, hp0⟩ := Int.eq_ofNat_of_zero_le (show 0 ≤ l.getD 0 0 by omega)
  have hf := hT.1 p0 (by omega)
  have hx : firstT p0 = 2 := by unfold firstT; repeat' split <;> omega
  rw [hx] at hf
  have ht1 := (hT.2 0 (by omega)).1
  have ht2 := (hT.2 0 (by omega)).2
  simp only [loT, hiT, Nat.reduceMul, Nat.reduceAdd] at ht1 ht2
  rw [hp0] at hc0 hc0' h0
  by_cases hn : l.length < 2
  · have hnz : (l.length : Int) < 2 := by omega
    have FIN := Lib.hid hfin
    clear hfin hcells hT hx hp hB
    go_enter Tryd.func130, Tryd.ntmps130
    go_wp2
    go_ret2
    exact ⟨65533, 1, rfl, FIN.out, (Below.refl _ _).alloc (Nat.le_refl _) _⟩
  · have hz0 : ¬ (l.length : Int) < 1 := by omega
    have hz1 : (1 : Int) < (l.length : Int) := by omega
    have hz1' : ¬ (l.length : Int) < 2 := by omega
    obtain ⟨_, hae, hc1⟩ := hcells 1 (by omega)
    obtain rfl := Option.some.inj hae
    have hb1 := hB 1
    obtain ⟨b1, hb1e⟩ : ∃ b : Int, l.getD 1 0 = b := ⟨_, rfl⟩
    rw [hb1e] at hc1 hb1
    replace hc1 : w.cell? ⟨ab, ao + 1, none⟩ = some (.int .u8 b1) := hc1
    clear hae
    clear hc0
    have FIN := Lib.hid hfin
    have RES := Lib.hid (show 128 ≤ b1 ∧ b1 ≤ 191 → Dec l ((p0 : Int) % 32 * 64 + b1 % 64) 2 from fun hq => by
      refine ⟨by omega, by omega, fun j hj => ?_, .inr (.inl ⟨rfl, by omega, by omega⟩)⟩
      rcases (show j = 0 ∨ j = 1 by omega) with rfl | rfl <;> omega)
    clear hfin hcells hT hx hp hB hp0 hb1e
    go_enter Tryd.func130, Tryd.ntmps130
    go_wp2
    all_goals go_ret2
    all_goals first
      | exact ⟨65533, 1, rfl, FIN.out, (Below.refl _ _).alloc (Nat.le_refl _) _⟩
      | exact ⟨_, 2, rfl, RES.out (by omega), (Below.refl _ _).alloc (Nat.le_refl _) _⟩
set_option maxHeartbeats 8000000 in
theorem slow_c1 (l : List Int) (A : Option Addr) (c : Nat) (w : World) (hp : Kd.C (Kd.int .u8) w A l.length l) (hB : ∀ j : Nat, 0 ≤ l.getD j 0 ∧ l.getD j 0 ≤ 255) (hl : 0 < l.length) (h0 : 224 ≤ l.getD 0 0 ∧ l.getD 0 0 ≤ 224) (hT : DecOK w) :
    Calls Tryd.prog 130 #[.slice A l.length c] w (DecIs w l) := by
  obtain ⟨ad, rfl, hc0⟩ := cell_at hp 0 hl
  have hc0' : w.cell? ad = some (.int .u8 (l.getD 0 0)) := by simpa [Addr.add] using hc0
  have hbl : ad.block < w.heap.size := World.block_lt_of_cell? w _ hc0'
  obtain ⟨ab, ao, asp⟩ := ad
  have hfin := dec_bad l hl (by omega)
  have hcells := fun j (hj : j < l.length) => cell_at hp j hj
  obtain ⟨p0, hp0⟩ := Int.eq_ofNat_of_zero_le (show 0 ≤ l.getD 0 0 by omega)
  have hf := hT.1 p0 (by omega)
  have hx : firstT p0 = 19 := by unfold firstT; repeat' split <;> omega
  rw [hx] at hf
  have ht1 := (hT.2 1 (by omega)).1
  have ht2 := (hT.2 1 (by omega)).2
  simp only [loT, hiT, Nat.reduceMul, Nat.reduceAdd] at ht1 ht2
  rw [hp0] at hc0 hc0' h0
  by_cases hn : l.length < 3
  · have hnz : (l.length : Int) < 3 := by omega
    have FIN := Lib.hid hfin
    clear hfin hcells hT hx hp hB
    go_enter Tryd.func130, Tryd.ntmps130
    go_wp2
    go_ret2
    exact ⟨65533, 1, rfl, FIN.out, (Below.refl _ _).alloc (Nat.le_refl _) _⟩
  · have hz0 : ¬ (l.length : Int) < 1 := by omega
    have hz1 : (1 : Int) < (l.length : Int) := by omega
    have hz1' : ¬ (l.length : Int) < 3 := by omega
    obtain ⟨_, hae, hc1⟩ := hcells 1 (by omega)
    obtain rfl := Option.some.inj hae
    have hb1 := hB 1
    obtain ⟨b1, hb1e⟩ : ∃ b : Int, l.getD 1 0 = b := ⟨_, rfl⟩
    rw [hb1e] at hc1 hb1
    replace hc1 : w.cell? ⟨ab, ao + 1, none⟩ = some (.int .u8 b1) := hc1
    clear hae
    have hz2 : (2 : Int) < (l.length : Int) := by omega
    obtain ⟨_, hae, hc2⟩ := hcells 2 (by omega)
    obtain rfl := Option.some.inj hae
    have hb2 := hB 2
    obtain ⟨b2, hb2e⟩ : ∃ b : Int, l.getD 2 0 = b := ⟨_, rfl⟩
    rw [hb2e] at hc2 hb2
    replace hc2 : w.cell? ⟨ab, ao + 2, none⟩ = some (.int .u8 b2) := hc2
    clear hae
    clear hc0
    have FIN := Lib.hid hfin
    have RES := Lib.hid (show 160 ≤ b1 ∧ b1 ≤ 191 ∧ 128 ≤ b2 ∧ b2 ≤ 191 → Dec l ((p0 : Int) % 16 * 4096 + b1 % 64 * 64 + b2 % 64) 3 from fun hq => by
      refine ⟨by omega, by omega, fun j hj => ?_, .inr (.inr (.inl ⟨rfl, by omega, by omega, by omega⟩))⟩
      rcases (show j = 0 ∨ j = 1 ∨ j = 2 by omega) with rfl | rfl | rfl <;> omega)
    clear hfin hcells hT hx hp hB hp0 hb1e hb2e
    go_enter Tryd.func130, Tryd.ntmps130
    go_wp2
    all_goals go_ret2
    all_goals first
      | exact ⟨65533, 1, rfl, FIN.out, (Below.refl _ _).alloc (Nat.le_refl _) _⟩
      | exact ⟨_, 3, rfl, RES.out (by omega), (Below.refl _ _).alloc (Nat.le_refl _) _⟩
set_option maxHeartbeats 8000000 in
theorem slow_c2 (l : List Int) (A : Option Addr) (c : Nat) (w : World) (hp : Kd.C (Kd.int .u8) w A l.length l) (hB : ∀ j : Nat, 0 ≤ l.getD j 0 ∧ l.getD j 0 ≤ 255) (hl : 0 < l.length) (h0 : 225 ≤ l.getD 0 0 ∧ l.getD 0 0 ≤ 236) (hT : DecOK w) :
    Calls Tryd.prog 130 #[.slice A l.length c] w (DecIs w l) := by
  obtain ⟨ad, rfl, hc0⟩ := cell_at hp 0 hl
  have hc0' : w.cell? ad = some (.int .u8 (l.getD 0 0)) := by simpa [Addr.add] using hc0
  have hbl : ad.block < w.heap.size := World.block_lt_of_cell? w _ hc0'
  obtain ⟨ab, ao, asp⟩ := ad
  have hfin := dec_bad l hl (by omega)
  have hcells := fun j (hj : j < l.length) => cell_at hp j hj
  obtain ⟨p0, hp0⟩ := Int.eq_ofNat_of_zero_le (show 0 ≤ l.getD 0 0 by omega)
  have hf := hT.1 p0 (by omega)
  have hx : firstT p0 = 3 := by unfold firstT; repeat' split <;> omega
  rw [hx] at hf
  have ht1 := (hT.2 0 (by omega)).1
  have ht2 := (hT.2 0 (by omega)).2
  simp only [loT, hiT, Nat.reduceMul, Nat.reduceAdd] at ht1 ht2
  rw [hp0] at hc0 hc0' h0
  by_cases hn : l.length < 3
  · have hnz : (l.length : Int) < 3 := by omega
    have FIN := Lib.hid hfin
    clear hfin hcells hT hx hp hB
    go_enter Tryd.func130, Tryd.ntmps130
    go_wp2
    go_ret2
    exact ⟨65533, 1, rfl, FIN.out, (Below.refl _ _).alloc (Nat.le_refl _) _⟩
  · have hz0 : ¬ (l.length : Int) < 1 := by omega
    have hz1 : (1 : Int) < (l.length : Int) := by omega
    have hz1' : ¬ (l.length : Int) < 3 := by omega
    obtain ⟨_, hae, hc1⟩ := hcells 1 (by omega)
    obtain rfl := Option.some.inj hae
    have hb1 := hB 1
    obtain ⟨b1, hb1e⟩ : ∃ b : Int, l.getD 1 0 = b := ⟨_, rfl⟩
    rw [hb1e] at hc1 hb1
    replace hc1 : w.cell? ⟨ab, ao + 1, none⟩ = some (.int .u8 b1) := hc1
    clear hae
    have hz2 : (2 : Int) < (l.length : Int) := by omega
    obtain ⟨_, hae, hc2⟩ := hcells 2 (by omega)
    obtain rfl := Option.some.inj hae
    have hb2 := hB 2
    obtain ⟨b2, hb2e⟩ : ∃ b : Int, l.getD 2 0 = b := ⟨_, rfl⟩
    rw [hb2e] at hc2 hb2
    replace hc2 : w.cell? ⟨ab, ao + 2, none⟩ = some (.int .u8 b2) := hc2
    clear hae
    clear hc0
    have FIN := Lib.hid hfin
    have RES := Lib.hid (show 128 ≤ b1 ∧ b1 ≤ 191 ∧ 128 ≤ b2 ∧ b2 ≤ 191 → Dec l ((p0 : Int) % 16 * 4096 + b1 % 64 * 64 + b2 % 64) 3 from fun hq => by
      refine ⟨by omega, by omega, fun j hj => ?_, .inr (.inr (.inl ⟨rfl, by omega, by omega, by omega⟩))⟩
      rcases (show j = 0 ∨ j = 1 ∨ j = 2 by omega) with rfl | rfl | rfl <;> omega)
    clear hfin hcells hT hx hp hB hp0 hb1e hb2e
    go_enter Tryd.func130, Tryd.ntmps130
    go_wp2
    all_goals go_ret2
    all_goals first
      | exact ⟨65533, 1, rfl, FIN.out, (Below.refl _ _).alloc (Nat.le_refl _) _⟩
      | exact ⟨_, 3, rfl, RES.out (by omega), (Below.refl _ _).alloc (Nat.le_refl _) _⟩
set_option maxHeartbeats 8000000 in
theorem slow_c3 (l : List Int) (A : Option Addr) (c : Nat) (w : World) (hp : Kd.C (Kd.int .u8) w A l.length l) (hB : ∀ j : Nat, 0 ≤ l.getD j 0 ∧ l.getD j 0 ≤ 255) (hl : 0 < l.length) (h0 : 237 ≤ l.getD 0 0 ∧ l.getD 0 0 ≤ 237) (hT : DecOK w) :
    Calls Tryd.prog 130 #[.slice A l.length c] w (DecIs w l) := by
  obtain ⟨ad, rfl, hc0⟩ := cell_at hp 0 hl
  have hc0' : w.cell? ad = some (.int .u8 (l.getD 0 0)) := by simpa [Addr.add] using hc0
  have hbl : ad.block < w.heap.size := World.block_lt_of_cell? w _ hc0'
  obtain ⟨ab, ao, asp⟩ := ad
  have hfin := dec_bad l hl (by omega)
  have hcells := fun j (hj : j < l.length) => cell_at hp j hj
  obtain ⟨p0, hp0⟩ := Int.eq_ofNat_of_zero_le (show 0 ≤ l.getD 0 0 by omega)
  have hf := hT.1 p0 (by omega)
  have hx : firstT p0 = 35 := by unfold firstT; repeat' split <;> omega
  rw [hx] at hf
  have ht1 := (hT.2 2 (by omega)).1
  have ht2 := (hT.2 2 (by omega)).2
  simp only [loT, hiT, Nat.reduceMul, Nat.reduceAdd] at ht1 ht2
  rw [hp0] at hc0 hc0' h0
  by_cases hn : l.length < 3
  · have hnz : (l.length : Int) < 3 := by omega
    have FIN := Lib.hid hfin
    clear hfin hcells hT hx hp hB
    go_enter Tryd.func130, Tryd.ntmps130
    go_wp2
    go_ret2
    exact ⟨65533, 1, rfl, FIN.out, (Below.refl _ _).alloc (Nat.le_refl _) _⟩
  · have hz0 : ¬ (l.length : Int) < 1 := by omega
    have hz1 : (1 : Int) < (l.length : Int) := by omega
    have hz1' : ¬ (l.length : Int) < 3 := by omega
    obtain ⟨_, hae, hc1⟩ := hcells 1 (by omega)
    obtain rfl := Option.some.inj hae
    have hb1 := hB 1
    obtain ⟨b1, hb1e⟩ : ∃ b : Int, l.getD 1 0 = b := ⟨_, rfl⟩
    rw [hb1e] at hc1 hb1
    replace hc1 : w.cell? ⟨ab, ao + 1, none⟩ = some (.int .u8 b1) := hc1
    clear hae
    have hz2 : (2 : Int) < (l.length : Int) := by omega
    obtain ⟨_, hae, hc2⟩ := hcells 2 (by omega)
    obtain rfl := Option.some.inj hae
    have hb2 := hB 2
    obtain ⟨b2, hb2e⟩ : ∃ b : Int, l.getD 2 0 = b := ⟨_, rfl⟩
    rw [hb2e] at hc2 hb2
    replace hc2 : w.cell? ⟨ab, ao + 2, none⟩ = some (.int .u8 b2) := hc2
    clear hae
    clear hc0
    have FIN := Lib.hid hfin
    have RES := Lib.hid (show 128 ≤ b1 ∧ b1 ≤ 159 ∧ 128 ≤ b2 ∧ b2 ≤ 191 → Dec l ((p0 : Int) % 16 * 4096 + b1 % 64 * 64 + b2 % 64) 3 from fun hq => by
      refine ⟨by omega, by omega, fun j hj => ?_, .inr (.inr (.inl ⟨rfl, by omega, by omega, by omega⟩))⟩
      rcases (show j = 0 ∨ j = 1 ∨ j = 2 by omega) with rfl | rfl | rfl <;> omega)
    clear hfin hcells hT hx hp hB hp0 hb1e hb2e
    go_enter Tryd.func130, Tryd.ntmps130
    go_wp2
    all_goals go_ret2
    all_goals first
      | exact ⟨65533, 1, rfl, FIN.out, (Below.refl _ _).alloc (Nat.le_refl _) _⟩
      | exact ⟨_, 3, rfl, RES.out (by omega), (Below.refl _ _).alloc (Nat.le_refl _) _⟩
set_option maxHeartbeats 8000000 in
theorem slow_c4 (l : List Int) (A : Option Addr) (c : Nat) (w : World) (hp : Kd.C (Kd.int .u8) w A l.length l) (hB : ∀ j : Nat, 0 ≤ l.getD j 0 ∧ l.getD j 0 ≤ 255) (hl : 0 < l.length) (h0 : 238 ≤ l.getD 0 0 ∧ l.getD 0 0 ≤ 239) (hT : DecOK w) :
    Calls Tryd.prog 130 #[.slice A l.length c] w (DecIs w l) := by
  obtain ⟨ad, rfl, hc0⟩ := cell_at hp 0 hl
  have hc0' : w.cell? ad = some (.int .u8 (l.getD 0 0)) := by simpa [Addr.add] using hc0
  have hbl : ad.block < w.heap.size := World.block_lt_of_cell? w _ hc0'
  obtain ⟨ab, ao, asp⟩ := ad
  have hfin := dec_bad l hl (by omega)
  have hcells := fun j (hj : j < l.length) => cell_at hp j hj
  obtain ⟨p0, hp0⟩ := Int.eq_ofNat_of_zero_le (show 0 ≤ l.getD 0 0 by omega)
  have hf := hT.1 p0 (by omega)
  have hx : firstT p0 = 3 := by unfold firstT; repeat' split <;> omega
  rw [hx] at hf
  have ht1 := (hT.2 0 (by omega)).1
  have ht2 := (hT.2 0 (by omega)).2
  simp only [loT, hiT, Nat.reduceMul, Nat.reduceAdd] at ht1 ht2
  rw [hp0] at hc0 hc0' h0
  by_cases hn : l.length < 3
  · have hnz : (l.length : Int) < 3 := by omega
    have FIN := Lib.hid hfin
    clear hfin hcells hT hx hp hB
    go_enter Tryd.func130, Tryd.ntmps130
    go_wp2
    go_ret2
    exact ⟨65533, 1, rfl, FIN.out, (Below.refl _ _).alloc (Nat.le_refl _) _⟩
  · have hz0 : ¬ (l.length : Int) < 1 := by omega
    have hz1 : (1 : Int) < (l.length : Int) := by omega
    have hz1' : ¬ (l.length : Int) < 3 := by omega
    obtain ⟨_, hae, hc1⟩ := hcells 1 (by omega)
    obtain rfl := Option.some.inj hae
    have hb1 := hB 1
    obtain ⟨b1, hb1e⟩ : ∃ b : Int, l.getD 1 0 = b := ⟨_, rfl⟩
    rw [hb1e] at hc1 hb1
    replace hc1 : w.cell? ⟨ab, ao + 1, none⟩ = some (.int .u8 b1) := hc1
    clear hae
    have hz2 : (2 : Int) < (l.length : Int) := by omega
    obtain ⟨_, hae, hc2⟩ := hcells 2 (by omega)
    obtain rfl := Option.some.inj hae
    have hb2 := hB 2
    obtain ⟨b2, hb2e⟩ : ∃ b : Int, l.getD 2 0 = b := ⟨_, rfl⟩
    rw [hb2e] at hc2 hb2
    replace hc2 : w.cell? ⟨ab, ao + 2, none⟩ = some (.int .u8 b2) := hc2
    clear hae
    clear hc0
    have FIN := Lib.hid hfin
    have RES := Lib.hid (show 128 ≤ b1 ∧ b1 ≤ 191 ∧ 128 ≤ b2 ∧ b2 ≤ 191 → Dec l ((p0 : Int) % 16 * 4096 + b1 % 64 * 64 + b2 % 64) 3 from fun hq => by
      refine ⟨by omega, by omega, fun j hj => ?_, .inr (.inr (.inl ⟨rfl, by omega, by omega, by omega⟩))⟩
      rcases (show j = 0 ∨ j = 1 ∨ j = 2 by omega) with rfl | rfl | rfl <;> omega)
    clear hfin hcells hT hx hp hB hp0 hb1e hb2e
    go_enter Tryd.func130, Tryd.ntmps130
    go_wp2
    all_goals go_ret2
    all_goals first
      | exact ⟨65533, 1, rfl, FIN.out, (Below.refl _ _).alloc (Nat.le_refl _) _⟩
      | exact ⟨_, 3, rfl, RES.out (by omega), (Below.refl _ _).alloc (Nat.le_refl _) _⟩
set_option maxHeartbeats 8000000 in
theorem slow_c5 (l : List Int) (A : Option Addr) (c : Nat) (w : World) (hp : Kd.C (Kd.int .u8) w A l.length l) (hB : ∀ j : Nat, 0 ≤ l.getD j 0 ∧ l.getD j 0 ≤ 255) (hl : 0 < l.length) (h0 : 240 ≤ l.getD 0 0 ∧ l.getD 0 0 ≤ 240) (hT : DecOK w) :
    Calls Tryd.prog 130 #[.slice A l.length c] w (DecIs w l) := by
  obtain ⟨ad, rfl, hc0⟩ := cell_at hp 0 hl
  have hc0' : w.cell? ad = some (.int .u8 (l.getD 0 0)) := by simpa [Addr.add] using hc0
  have hbl : ad.block < w.heap.size := World.block_lt_of_cell? w _ hc0'
  obtain ⟨ab, ao, asp⟩ := ad
  have hfin := dec_bad l hl (by omega)
  have hcells := fun j (hj : j < l.length) => cell_at hp j hj
  obtain ⟨p0, hp0⟩ := Int.eq_ofNat_of_zero_le (show 0 ≤ l.getD 0 0 by omega)
  have hf := hT.1 p0 (by omega)
  have hx : firstT p0 = 52 := by unfold firstT; repeat' split <;> omega
  rw [hx] at hf
  have ht1 := (hT.2 3 (by omega)).1
  have ht2 := (hT.2 3 (by omega)).2
  simp only [loT, hiT, Nat.reduceMul, Nat.reduceAdd] at ht1 ht2
  rw [hp0] at hc0 hc0' h0
  by_cases hn : l.length < 4
  · have hnz : (l.length : Int) < 4 := by omega
    have FIN := Lib.hid hfin
    clear hfin hcells hT hx hp hB
    go_enter Tryd.func130, Tryd.ntmps130
    go_wp2
    go_ret2
    exact ⟨65533, 1, rfl, FIN.out, (Below.refl _ _).alloc (Nat.le_refl _) _⟩
  · have hz0 : ¬ (l.length : Int) < 1 := by omega
    have hz1 : (1 : Int) < (l.length : Int) := by omega
    have hz1' : ¬ (l.length : Int) < 4 := by omega
    obtain ⟨_, hae, hc1⟩ := hcells 1 (by omega)
    obtain rfl := Option.some.inj hae
    have hb1 := hB 1
    obtain ⟨b1, hb1e⟩ : ∃ b : Int, l.getD 1 0 = b := ⟨_, rfl⟩
    rw [hb1e] at hc1 hb1
    replace hc1 : w.cell? ⟨ab, ao + 1, none⟩ = some (.int .u8 b1) := hc1
    clear hae
    have hz2 : (2 : Int) < (l.length : Int) := by omega
    obtain ⟨_, hae, hc2⟩ := hcells 2 (by omega)
    obtain rfl := Option.some.inj hae
    have hb2 := hB 2
    obtain ⟨b2, hb2e⟩ : ∃ b : Int, l.getD 2 0 = b := ⟨_, rfl⟩
    rw [hb2e] at hc2 hb2
    replace hc2 : w.cell? ⟨ab, ao + 2, none⟩ = some (.int .u8 b2) := hc2
    clear hae
    have hz3 : (3 : Int) < (l.length : Int) := by omega
    obtain ⟨_, hae, hc3⟩ := hcells 3 (by omega)
    obtain rfl := Option.some.inj hae
    have hb3 := hB 3
    obtain ⟨b3, hb3e⟩ : ∃ b : Int, l.getD 3 0 = b := ⟨_, rfl⟩
    rw [hb3e] at hc3 hb3
    replace hc3 : w.cell? ⟨ab, ao + 3, none⟩ = some (.int .u8 b3) := hc3
    clear hae
    clear hc0
    have FIN := Lib.hid hfin
    have RES := Lib.hid (show 144 ≤ b1 ∧ b1 ≤ 191 ∧ 128 ≤ b2 ∧ b2 ≤ 191 ∧ 128 ≤ b3 ∧ b3 ≤ 191 → Dec l ((p0 : Int) % 8 * 262144 + b1 % 64 * 4096 + b2 % 64 * 64 + b3 % 64) 4 from fun hq => by
      refine ⟨by omega, by omega, fun j hj => ?_, .inr (.inr (.inr ⟨rfl, by omega, by omega⟩))⟩
      rcases (show j = 0 ∨ j = 1 ∨ j = 2 ∨ j = 3 by omega) with rfl | rfl | rfl | rfl <;> omega)
    clear hfin hcells hT hx hp hB hp0 hb1e hb2e hb3e
    go_enter Tryd.func130, Tryd.ntmps130
    go_wp2
    all_goals go_ret2
    all_goals first
      | exact ⟨65533, 1, rfl, FIN.out, (Below.refl _ _).alloc (Nat.le_refl _) _⟩
      | exact ⟨_, 4, rfl, RES.out (by omega), (Below.refl _ _).alloc (Nat.le_refl _) _⟩
set_option maxHeartbeats 8000000 in
theorem slow_c6 (l : List Int) (A : Option Addr) (c : Nat) (w : World) (hp : Kd.C (Kd.int .u8) w A l.length l) (hB : ∀ j : Nat, 0 ≤ l.getD j 0 ∧ l.getD j 0 ≤ 255) (hl : 0 < l.length) (h0 : 241 ≤ l.getD 0 0 ∧ l.getD 0 0 ≤ 243) (hT : DecOK w) :
    Calls Tryd.prog 130 #[.slice A l.length c] w (DecIs w l) := by
  obtain ⟨ad, rfl, hc0⟩ := cell_at hp 0 hl
  have hc0' : w.cell? ad = some (.int .u8 (l.getD 0 0)) := by simpa [Addr.add] using hc0
  have hbl : ad.block < w.heap.size := World.block_lt_of_cell? w _ hc0'
  obtain ⟨ab, ao, asp⟩ := ad
  have hfin := dec_bad l hl (by omega)
  have hcells := fun j (hj : j < l.length) => cell_at hp j hj
  obtain ⟨p0, hp0⟩ := Int.eq_ofNat_of_zero_le (show 0 ≤ l.getD 0 0 by omega)
  have hf := hT.1 p0 (by omega)
  have hx : firstT p0 = 4 := by unfold firstT; repeat' split <;> omega
  rw [hx] at hf
  have ht1 := (hT.2 0 (by omega)).1
  have ht2 := (hT.2 0 (by omega)).2
  simp only [loT, hiT, Nat.reduceMul, Nat.reduceAdd] at ht1 ht2
  rw [hp0] at hc0 hc0' h0
  by_cases hn : l.length < 4
  · have hnz : (l.length : Int) < 4 := by omega
    have FIN := Lib.hid hfin
    clear hfin hcells hT hx hp hB
    go_enter Tryd.func130, Tryd.ntmps130
    go_wp2
    go_ret2
    exact ⟨65533, 1, rfl, FIN.out, (Below.refl _ _).alloc (Nat.le_refl _) _⟩
  · have hz0 : ¬ (l.length : Int) < 1 := by omega
    have hz1 : (1 : Int) < (l.length : Int) := by omega
    have hz1' : ¬ (l.length : Int) < 4 := by omega
    obtain ⟨_, hae, hc1⟩ := hcells 1 (by omega)
    obtain rfl := Option.some.inj hae
    have hb1 := hB 1
    obtain ⟨b1, hb1e⟩ : ∃ b : Int, l.getD 1 0 = b := ⟨_, rfl⟩
    rw [hb1e] at hc1 hb1
    replace hc1 : w.cell? ⟨ab, ao + 1, none⟩ = some (.int .u8 b1) := hc1
    clear hae
    have hz2 : (2 : Int) < (l.length : Int) := by omega
    obtain ⟨_, hae, hc2⟩ := hcells 2 (by omega)
    obtain rfl := Option.some.inj hae
    have hb2 := hB 2
    obtain ⟨b2, hb2e⟩ : ∃ b : Int, l.getD 2 0 = b := ⟨_, rfl⟩
    rw [hb2e] at hc2 hb2
    replace hc2 : w.cell? ⟨ab, ao + 2, none⟩ = some (.int .u8 b2) := hc2
    clear hae
    have hz3 : (3 : Int) < (l.length : Int) := by omega
    obtain ⟨_, hae, hc3⟩ := hcells 3 (by omega)
    obtain rfl := Option.some.inj hae
    have hb3 := hB 3
    obtain ⟨b3, hb3e⟩ : ∃ b : Int, l.getD 3 0 = b := ⟨_, rfl⟩
    rw [hb3e] at hc3 hb3
    replace hc3 : w.cell? ⟨ab, ao + 3, none⟩ = some (.int .u8 b3) := hc3
    clear hae
    clear hc0
    have FIN := Lib.hid hfin
    have RES := Lib.hid (show 128 ≤ b1 ∧ b1 ≤ 191 ∧ 128 ≤ b2 ∧ b2 ≤ 191 ∧ 128 ≤ b3 ∧ b3 ≤ 191 → Dec l ((p0 : Int) % 8 * 262144 + b1 % 64 * 4096 + b2 % 64 * 64 + b3 % 64) 4 from fun hq => by
      refine ⟨by omega, by omega, fun j hj => ?_, .inr (.inr (.inr ⟨rfl, by omega, by omega⟩))⟩
      rcases (show j = 0 ∨ j = 1 ∨ j = 2 ∨ j = 3 by omega) with rfl | rfl | rfl | rfl <;> omega)
    clear hfin hcells hT hx hp hB hp0 hb1e hb2e hb3e
    go_enter Tryd.func130, Tryd.ntmps130
    go_wp2
    all_goals go_ret2
    all_goals first
      | exact ⟨65533, 1, rfl, FIN.out, (Below.refl _ _).alloc (Nat.le_refl _) _⟩
      | exact ⟨_, 4, rfl, RES.out (by omega), (Below.refl _ _).alloc (Nat.le_refl _) _⟩
set_option maxHeartbeats 8000000 in
theorem slow_c7 (l : List Int) (A : Option Addr) (c : Nat) (w : World) (hp : Kd.C (Kd.int .u8) w A l.length l) (hB : ∀ j : Nat, 0 ≤ l.getD j 0 ∧ l.getD j 0 ≤ 255) (hl : 0 < l.length) (h0 : 244 ≤ l.getD 0 0 ∧ l.getD 0 0 ≤ 244) (hT : DecOK w) :
    Calls Tryd.prog 130 #[.slice A l.length c] w (DecIs w l) := by
  obtain ⟨ad, rfl, hc0⟩ := cell_at hp 0 hl
  have hc0' : w.cell? ad = some (.int .u8 (l.getD 0 0)) := by simpa [Addr.add] using hc0
  have hbl : ad.block < w.heap.size := World.block_lt_of_cell? w _ hc0'
  obtain ⟨ab, ao, asp⟩ := ad
  have hfin := dec_bad l hl (by omega)
  have hcells := fun j (hj : j < l.length) => cell_at hp j hj
  obtain ⟨p0, hp0⟩ := Int.eq_ofNat_of_zero_le (show 0 ≤ l.getD 0 0 by omega)
  have hf := hT.1 p0 (by omega)
  have hx : firstT p0 = 68 := by unfold firstT; repeat' split <;> omega
  rw [hx] at hf
  have ht1 := (hT.2 4 (by omega)).1
  have ht2 := (hT.2 4 (by omega)).2
  simp only [loT, hiT, Nat.reduceMul, Nat.reduceAdd] at ht1 ht2
  rw [hp0] at hc0 hc0' h0
  by_cases hn : l.length < 4
  · have hnz : (l.length : Int) < 4 := by omega
    have FIN := Lib.hid hfin
    clear hfin hcells hT hx hp hB
    go_enter Tryd.func130, Tryd.ntmps130
    go_wp2
    go_ret2
    exact ⟨65533, 1, rfl, FIN.out, (Below.refl _ _).alloc (Nat.le_refl _) _⟩
  · have hz0 : ¬ (l.length : Int) < 1 := by omega
    have hz1 : (1 : Int) < (l.length : Int) := by omega
    have hz1' : ¬ (l.length : Int) < 4 := by omega
    obtain ⟨_, hae, hc1⟩ := hcells 1 (by omega)
    obtain rfl := Option.some.inj hae
    have hb1 := hB 1
    obtain ⟨b1, hb1e⟩ : ∃ b : Int, l.getD 1 0 = b := ⟨_, rfl⟩
    rw [hb1e] at hc1 hb1
    replace hc1 : w.cell? ⟨ab, ao + 1, none⟩ = some (.int .u8 b1) := hc1
    clear hae
    have hz2 : (2 : Int) < (l.length : Int) := by omega
    obtain ⟨_, hae, hc2⟩ := hcells 2 (by omega)
    obtain rfl := Option.some.inj hae
    have hb2 := hB 2
    obtain ⟨b2, hb2e⟩ : ∃ b : Int, l.getD 2 0 = b := ⟨_, rfl⟩
    rw [hb2e] at hc2 hb2
    replace hc2 : w.cell? ⟨ab, ao + 2, none⟩ = some (.int .u8 b2) := hc2
    clear hae
    have hz3 : (3 : Int) < (l.length : Int) := by omega
    obtain ⟨_, hae, hc3⟩ := hcells 3 (by omega)
    obtain rfl := Option.some.inj hae
    have hb3 := hB 3
    obtain ⟨b3, hb3e⟩ : ∃ b : Int, l.getD 3 0 = b := ⟨_, rfl⟩
    rw [hb3e] at hc3 hb3
    replace hc3 : w.cell? ⟨ab, ao + 3, none⟩ = some (.int .u8 b3) := hc3
    clear hae
    clear hc0
    have FIN := Lib.hid hfin
    have RES := Lib.hid (show 128 ≤ b1 ∧ b1 ≤ 143 ∧ 128 ≤ b2 ∧ b2 ≤ 191 ∧ 128 ≤ b3 ∧ b3 ≤ 191 → Dec l ((p0 : Int) % 8 * 262144 + b1 % 64 * 4096 + b2 % 64 * 64 + b3 % 64) 4 from fun hq => by
      refine ⟨by omega, by omega, fun j hj => ?_, .inr (.inr (.inr ⟨rfl, by omega, by omega⟩))⟩
      rcases (show j = 0 ∨ j = 1 ∨ j = 2 ∨ j = 3 by omega) with rfl | rfl | rfl | rfl <;> omega)
    clear hfin hcells hT hx hp hB hp0 hb1e hb2e hb3e
    go_enter Tryd.func130, Tryd.ntmps130
    go_wp2
    all_goals go_ret2
    all_goals first
      | exact ⟨65533, 1, rfl, FIN.out, (Below.refl _ _).alloc (Nat.le_refl _) _⟩
      | exact ⟨_, 4, rfl, RES.out (by omega), (Below.refl _ _).alloc (Nat.le_refl _) _⟩
theorem slow (l : List Int) (A : Option Addr) (c : Nat) (w : World) (hp : Kd.C (Kd.int .u8) w A l.length l) (hB : ∀ j : Nat, 0 ≤ l.getD j 0 ∧ l.getD j 0 ≤ 255) (hl : 0 < l.length) (h0 : 128 ≤ l.getD 0 0) (hT : DecOK w) :
    Calls Tryd.prog 130 #[.slice A l.length c] w (DecIs w l) := by
  have hB0 := hB 0
  by_cases qslow_c0 : 194 ≤ l.getD 0 0 ∧ l.getD 0 0 ≤ 223
  · exact slow_c0 l A c w hp hB hl qslow_c0 hT
  by_cases qslow_c1 : 224 ≤ l.getD 0 0 ∧ l.getD 0 0 ≤ 224
  · exact slow_c1 l A c w hp hB hl qslow_c1 hT
  by_cases qslow_c2 : 225 ≤ l.getD 0 0 ∧ l.getD 0 0 ≤ 236
  · exact slow_c2 l A c w hp hB hl qslow_c2 hT
  by_cases qslow_c3 : 237 ≤ l.getD 0 0 ∧ l.getD 0 0 ≤ 237
  · exact slow_c3 l A c w hp hB hl qslow_c3 hT
  by_cases qslow_c4 : 238 ≤ l.getD 0 0 ∧ l.getD 0 0 ≤ 239
  · exact slow_c4 l A c w hp hB hl qslow_c4 hT
  by_cases qslow_c5 : 240 ≤ l.getD 0 0 ∧ l.getD 0 0 ≤ 240
  · exact slow_c5 l A c w hp hB hl qslow_c5 hT
  by_cases qslow_c6 : 241 ≤ l.getD 0 0 ∧ l.getD 0 0 ≤ 243
  · exact slow_c6 l A c w hp hB hl qslow_c6 hT
  by_cases qslow_c7 : 244 ≤ l.getD 0 0 ∧ l.getD 0 0 ≤ 244
  · exact slow_c7 l A c w hp hB hl qslow_c7 hT
  refine slow_bad l A c w hp hl ⟨h0, hB0.2⟩ hT ?_
  obtain ⟨p0, hp0⟩ := Int.eq_ofNat_of_zero_le (show 0 ≤ l.getD 0 0 by omega)
  rw [show (l.getD 0 0).toNat = p0 by omega]
  unfold firstT
  repeat' split
  all_goals omega
end Go.Proofs.YtdpnnglfaofjeaaDoor.Z
namespace Go.Proofs.YtdpnnglfaofjeaaDoor.Z
open Go.RowKit Go.Lib Go.Proofs.YtdpnnglfaofjeaaDoorW.PrintWords Go.Proofs.YtdpnnglfaofjeaaDoorW.PrintLast Go.Proofs.YtdpnnglfaofjeaaDoorW.PrintMore
set_option linter.unusedVariables false
set_option linter.unusedSimpArgs false
set_option maxRecDepth 1000000
set_option maxHeartbeats 4000000 in
theorem decode_calls (l : List Int) (A : Option Addr) (c : Nat) (w : World) (hp : Kd.C (Kd.int .u8) w A l.length l) (hB : ∀ j : Nat, 0 ≤ l.getD j 0 ∧ l.getD j 0 ≤ 255) (hl : 0 < l.length) (h0 : 128 ≤ l.getD 0 0) (hT : DecOK w) :
    Calls Tryd.prog 115 #[.slice A l.length c] w (DecIs w l) := by
  have cS := slow l A c w hp hB hl h0 hT
  obtain ⟨ad, rfl, hc0⟩ := cell_at hp 0 hl
  have hc0' : w.cell? ad = some (.int .u8 (l.getD 0 0)) := by simpa [Addr.add] using hc0
  have hz : (0 : Int) < (l.length : Int) := by omega
  obtain ⟨b0, hb0⟩ : ∃ b, l.getD 0 0 = b := ⟨_, rfl⟩
  rw [hb0] at hc0' h0
  have ha : ¬ b0 < 128 := by omega
  clear hp hB hT hc0 hb0 h0
  go_enter Tryd.func115, Tryd.ntmps115
  go_wp2
  go_loop [8] (fun i => i = .int .i64 0) (fun _ => 0)
  case atStart => rfl
  case round =>
    subst hrel
    go_wp2_with (go_at_call 130; go_fit cS; rintro e w' ⟨r, n, rfl, hd, hb⟩)
    go_ret2
    exact ⟨r, n, rfl, hd, hb⟩
theorem run_zero122 (w : World) : (zeroValue 122).run Tryd.prog w = .ok (.agg (Array.replicate 256 (.bool false))) w := by kernel_rfl
theorem info122 : (Tryd.prog.info? 122).map (·.size) = some 256 := by kernel_rfl
theorem wp_load {P : Program} {o : Oper} {t : TypeId} {x : Operand} (ho : o.op = .load t x) {a : Act} {A v : Value} {w : World} {K : Act → World → Prop} {Q : Exit → Act → World → Prop} (he : a.eval x = A) (h : (Instr.loadAt t A).run P w = .ok v w) (hk : K (a.put o.dst v) w) : Oper.wp P o a w K Q := by
  unfold Oper.wp execOp
  rw [ho]
  simp only [he, Sem.run_bind, h, Result.andThen, Sem.run_pure]
  exact hk
set_option maxHeartbeats 4000000 in
theorem makeSet_calls (chars : ByteArray) (w : World) (hs : chars.size < 4294967281) (hascii : ∀ (j : Nat) b, chars.data.toList[j]? = some b → b.toNat < 128) :
    Calls Tryd.prog 113 #[.string chars] w fun e w' => e = .returned (.tuple #[.agg (Lib.setCells chars.data.toList), .bool true]) ∧ w' = w.alloc (.cells (Lib.setCells chars.data.toList) 122) := by
  have hv116 := run_zero122
  have HA : Aside (∀ (j : Nat) b, chars.data.toList[j]? = some b → b.toNat < 128) := hascii
  clear hascii
  go_enter Tryd.func113, Tryd.ntmps113
  go_wp2
  rw [← Lib.setCells_nil]
  go_loopg [4] chars.size (fun g s4 wx => ∃ i : Nat, i + g = chars.size ∧ s4 = .int .i64 i ∧ wx = w.alloc (.cells (Lib.setCells (chars.data.toList.take i)) 122))
  case atStart => exact ⟨0, by omega, rfl, rfl⟩
  case round =>
    obtain ⟨i, hig, rfl, rfl⟩ := hrel
    cases gk with
    | zero =>
      obtain rfl : i = chars.size := by omega
      have hiz : ¬ ((chars.size : Int) < (chars.size : Int)) := by omega
      rw [show chars.data.toList.take chars.size = chars.data.toList from List.take_of_length_le (by rw [← Lib.size_eq]; exact Nat.le_refl _)]
      have hld := run_loadVar_new (P := Tryd.prog) w 122 (Lib.setCells chars.data.toList) 256 4 Tryd.underlying122 (by rw [Lib.setCells_size]; exact info122)
      have hsz := Lib.setCells_size chars.data.toList
      have hlc := run_loadCellsFrom_new (P := Tryd.prog) w 122 (Lib.setCells chars.data.toList) 256 hsz
      have hsc := run_storeCells_new (P := Tryd.prog) w 122 (Lib.setCells chars.data.toList) (Lib.setCells chars.data.toList) (by rw [hsz]; exact info122) rfl (Lib.setCells_one _)
      go_wp2
      refine wp_load rfl rfl (run_loadAt_new (P := Tryd.prog) w 122 (Lib.setCells chars.data.toList) 256 4 Tryd.underlying122 (by rw [hsz]; exact info122)) ?_
      go_wp2
      refine bodyPost_ret (v := .tuple #[.agg (Lib.setCells chars.data.toList), .bool true]) ?_ rfl ⟨rfl, rfl⟩
      rw [results_cell_tmp rfl]
      simp [asAddr, Result.andThen, hld]
    | succ g =>
      have hi : i < chars.size := by omega
      have hiz : (i : Int) < (chars.size : Int) := by omega
      obtain ⟨x, hx⟩ : ∃ x : UInt8, chars[i]'hi = x := ⟨_, rfl⟩
      have hxl : chars.data.toList[i]? = some x := by rw [← hx]; exact Lib.data_getElem? chars i hi
      have hx128 : ¬ ((128 : Int) ≤ (x.toNat : Int)) := by have := HA.out i x hxl; omega
      have hx256 : (x.toNat : Int) < 256 := by have := HA.out i x hxl; omega
      have hcell := Lib.setCells_at (chars.data.toList.take i) x
      have Hx : Aside (chars.data.toList[i]? = some x) := hxl
      clear hxl
      go_wp2
      go_roundg g
      case measure => omega
      case rel => exact ⟨i + 1, by omega, by first | rfl | simp, by rw [List.take_add_one, Hx.out]; simp only [Option.toList]; rw [Lib.setCells_snoc]⟩
set_option maxHeartbeats 2000000 in
theorem contains_calls (b : Nat) (x : Nat) (v : Bool) (w : World) (hx : x < 256) (hc : w.cell? ⟨b, x, none⟩ = some (.bool v)) :
    Calls Tryd.prog 114 #[.pointer (some ⟨b, 0, none⟩), .int .u8 (x : Int)] w fun e w' => e = .returned (.bool v) ∧ w' = w := by
  have hx256 : (x : Int) < 256 := by omega
  go_enter Tryd.func114, Tryd.ntmps114
  go_wp2
  go_ret
  exact ⟨rfl, rfl⟩
end Go.Proofs.YtdpnnglfaofjeaaDoor.Z
namespace Go.Proofs.YtdpnnglfaofjeaaDoor.Z
open Go.RowKit Go.Lib Go.Proofs.YtdpnnglfaofjeaaDoorW.PrintWords Go.Proofs.YtdpnnglfaofjeaaDoorW.PrintLast Go.Proofs.YtdpnnglfaofjeaaDoorW.PrintMore
set_option linter.unusedVariables false
set_option linter.unusedSimpArgs false
set_option maxRecDepth 1000000
def C4 : ByteArray := ⟨#[58, 47, 63, 35]⟩
def stop (x : Int) : Prop := x = 58 ∨ x = 47 ∨ x = 63 ∨ x = 35
instance (x : Int) : Decidable (stop x) := by unfold stop; infer_instance
def IsIdx (l : List Int) (r : Int) : Prop := (r = -1 ∧ ∀ j : Nat, j < l.length → ¬ stop (l.getD j 0)) ∨ ∃ i : Nat, r = i ∧ i < l.length ∧ stop (l.getD i 0) ∧ ∀ j : Nat, j < i → ¬ stop (l.getD j 0)
def ib (x : Int) : Int := if x = 58 then 0 else if x = 47 then 1 else if x = 63 then 2 else if x = 35 then 3 else -1
theorem ib_stop (x : Int) : 0 ≤ ib x ↔ stop x := by
  unfold ib stop
  repeat' split
  all_goals omega
theorem ib_all : ∀ n : Nat, n < 256 → Lib.indexByte C4.data.toList ((n : Int)).toNat.toUInt8 = ib (n : Int) := by decide +kernel
theorem run110 (b : Int) (hb : 0 ≤ b ∧ b ≤ 255) (w : World) : (callFunc 110 #[.string C4, .int .u8 b]).run Tryd.prog w = .ok (.value (.int .i64 (ib b))) w := by
  obtain ⟨n, rfl⟩ := Int.eq_ofNat_of_zero_le hb.1
  rw [run_callFunc_extern Tryd.func110 (by kernel_rfl) (by kernel_rfl) (by kernel_rfl) (e := Extern.BytealgIndexByte.indexByte) (by kernel_rfl), Lib.run_indexByteString, ib_all n (by omega)]
  rfl
theorem enc_two (r : Int) (h0 : 128 ≤ r) (h1 : r ≤ 2047) : Utf8.encode r = ⟨#[UInt8.ofNat (0xC0 + r.toNat / 64), UInt8.ofNat (0x80 + r.toNat % 64)]⟩ := by
  have hv : Utf8.valid r = true := by simp only [Utf8.valid]; simp; omega
  simp only [Utf8.encode, hv, if_true]
  rw [if_neg (by omega), if_pos (by omega)]
theorem enc_three (r : Int) (h0 : 2048 ≤ r) (h1 : r ≤ 65535) (h2 : r < 55296 ∨ 57343 < r) : Utf8.encode r = ⟨#[UInt8.ofNat (0xE0 + r.toNat / 4096), UInt8.ofNat (0x80 + r.toNat / 64 % 64), UInt8.ofNat (0x80 + r.toNat % 64)]⟩ := by
  have hv : Utf8.valid r = true := by simp only [Utf8.valid]; simp; omega
  simp only [Utf8.encode, hv, if_true]
  rw [if_neg (by omega), if_neg (by omega), if_pos (by omega)]
theorem enc_four (r : Int) (h0 : 65536 ≤ r) (h1 : r ≤ 1114111) : Utf8.encode r = ⟨#[UInt8.ofNat (0xF0 + r.toNat / 262144), UInt8.ofNat (0x80 + r.toNat / 4096 % 64), UInt8.ofNat (0x80 + r.toNat / 64 % 64), UInt8.ofNat (0x80 + r.toNat % 64)]⟩ := by
  have hv : Utf8.valid r = true := by simp only [Utf8.valid]; simp; omega
  simp only [Utf8.encode, hv, if_true]
  rw [if_neg (by omega), if_neg (by omega), if_neg (by omega)]
theorem head_ne (n : Nat) (h0 : 128 ≤ n) (h1 : n < 256) : UInt8.ofNat n ≠ 58 ∧ UInt8.ofNat n ≠ 47 ∧ UInt8.ofNat n ≠ 63 ∧ UInt8.ofNat n ≠ 35 := by
  have e : (UInt8.ofNat n).toNat = n := by simp [UInt8.toNat_ofNat']; omega
  refine ⟨fun h => ?_, fun h => ?_, fun h => ?_, fun h => ?_⟩ <;> (rw [h] at e; simp at e; omega)
theorem enc_of {l : List Int} {r : Int} {n : Nat} (h : Dec l r n) (hr : r ≠ 65533) : (Utf8.encode r).size = n ∧ ∃ x t, (Utf8.encode r).data.toList = x :: t ∧ x ≠ 58 ∧ x ≠ 47 ∧ x ≠ 63 ∧ x ≠ 35 := by
  rcases h.2.2.2 with ⟨h, _⟩ | ⟨rfl, h0, h1⟩ | ⟨rfl, h0, h1, h2⟩ | ⟨rfl, h0, h1⟩
  · exact absurd h hr
  · rw [enc_two r h0 h1]; exact ⟨rfl, _, _, rfl, head_ne _ (by omega) (by omega)⟩
  · rw [enc_three r h0 h1 h2]; exact ⟨rfl, _, _, rfl, head_ne _ (by omega) (by omega)⟩
  · rw [enc_four r h0 h1]; exact ⟨rfl, _, _, rfl, head_ne _ (by omega) (by omega)⟩
theorem index_none4 (t : List UInt8) (x : UInt8) (h : x ≠ 58 ∧ x ≠ 47 ∧ x ≠ 63 ∧ x ≠ 35) : Lib.index C4.data.toList (x :: t) = -1 := by
  refine Lib.index_none ?_
  intro j hj
  cases ho : Lib.occAt C4.data.toList (x :: t) j with
  | false => rfl
  | true =>
    exfalso
    have hm := List.mem_of_getElem? (Lib.occAt_head rfl ho)
    have hall : ∀ y ∈ C4.data.toList, y = 58 ∨ y = 47 ∨ y = 63 ∨ y = 35 := by decide
    rcases hall x hm with e | e | e | e
    · exact h.1 e
    · exact h.2.1 e
    · exact h.2.2.1 e
    · exact h.2.2.2 e
theorem g116 : Tryd.prog.globals.findIdx? (·.name == "internal/bytealg.MaxLen") = some 1 := by kernel_rfl
theorem run116 {l : List Int} {r m : Int} {n : Nat} (h : Dec l r n) (hr : r ≠ 65533) (w : World) (hm : w.cell? ⟨1, 0, none⟩ = some (.int .i64 m)) (hn : (n : Int) ≤ m) : (callFunc 116 #[.string C4, .string (Utf8.encode r)]).run Tryd.prog w = .ok (.value (.int .i64 (-1))) w := by
  obtain ⟨hs, x, t, hx, hne⟩ := enc_of h hr
  have h2 : 2 ≤ n := by rcases h.2.2.2 with ⟨h, _⟩ | ⟨rfl, h0, h1⟩ | ⟨rfl, h0, h1, h2⟩ | ⟨rfl, h0, h1⟩ <;> omega
  rw [run_callFunc_extern Tryd.func116 (by kernel_rfl) (by kernel_rfl) (by kernel_rfl) (e := Extern.BytealgIndex.index) (by kernel_rfl), Lib.run_indexString C4 _ _ 1 m g116 hm (by omega) (by omega) (by decide), hx, index_none4 t x hne]
  rfl
theorem next4 (w : World) (ty : TypeId) : (Instr.next (.pointer (some ⟨w.heap.size, 0, none⟩)) true ty).run Tryd.prog (w.iter C4 0) = .ok (.tuple #[.bool true, .int .i64 0, .int .i32 58]) (w.iter C4 1)
    ∧ (Instr.next (.pointer (some ⟨w.heap.size, 0, none⟩)) true ty).run Tryd.prog (w.iter C4 1) = .ok (.tuple #[.bool true, .int .i64 1, .int .i32 47]) (w.iter C4 2)
    ∧ (Instr.next (.pointer (some ⟨w.heap.size, 0, none⟩)) true ty).run Tryd.prog (w.iter C4 2) = .ok (.tuple #[.bool true, .int .i64 2, .int .i32 63]) (w.iter C4 3)
    ∧ (Instr.next (.pointer (some ⟨w.heap.size, 0, none⟩)) true ty).run Tryd.prog (w.iter C4 3) = .ok (.tuple #[.bool true, .int .i64 3, .int .i32 35]) (w.iter C4 4)
    ∧ (Instr.next (.pointer (some ⟨w.heap.size, 0, none⟩)) true ty).run Tryd.prog (w.iter C4 4) = .ok (.tuple #[.bool false]) (w.iter C4 4) :=
  ⟨run_next_ascii w C4 0 ty (by decide) (by decide), run_next_ascii w C4 1 ty (by decide) (by decide), run_next_ascii w C4 2 ty (by decide) (by decide), run_next_ascii w C4 3 ty (by decide) (by decide), run_next_end w C4 4 ty (by decide)⟩
set_option maxHeartbeats 1000000 in
theorem big_calls (n : Int) (w : World) : Calls Tryd.prog 112 #[.int .i64 n] w fun e w' => e = .returned (.bool (decide (8 < n))) ∧ w' = w := by
  go_enter Tryd.func112, Tryd.ntmps112
  go_wp2
  go_ret
  exact ⟨rfl, rfl⟩
end Go.Proofs.YtdpnnglfaofjeaaDoor.Z
namespace Go.Proofs.YtdpnnglfaofjeaaDoor.Z
open Go.RowKit Go.Lib Go.Proofs.YtdpnnglfaofjeaaDoorW.PrintWords Go.Proofs.YtdpnnglfaofjeaaDoorW.PrintLast Go.Proofs.YtdpnnglfaofjeaaDoorW.PrintMore
set_option linter.unusedVariables false
set_option linter.unusedSimpArgs false
set_option maxRecDepth 1000000
def AnyIs (l : List Int) (w : World) (e : Ending) (w' : World) : Prop := ∃ r, e = .returned (.int .i64 r) ∧ IsIdx l r ∧ Below w.heap.size w w'
theorem emp4 (C : ByteArray) (hC : C = C4) : C.toList.isEmpty = false := by subst hC; rw [Lib.toList_data]; rfl
set_option maxHeartbeats 8000000 in
theorem any_one (l : List Int) (A : Option Addr) (c : Nat) (w : World) (hp : Kd.C (Kd.int .u8) w A l.length l) (hB : ∀ j : Nat, 0 ≤ l.getD j 0 ∧ l.getD j 0 ≤ 255) (hl : l.length = 1) :
    Calls Tryd.prog 96 #[.slice A l.length c, .string C4] w (AnyIs l w) := by
  obtain ⟨ad, rfl, hc0⟩ := cell_at hp 0 (by omega)
  have hc0' : w.cell? ad = some (.int .u8 (l.getD 0 0)) := by simpa [Addr.add] using hc0
  have hb := hB 0
  have hno : ¬ stop (l.getD 0 0) → IsIdx l (-1) := fun h => .inl ⟨rfl, fun j hj => by obtain rfl : j = 0 := by omega
                                                                                      exact h⟩
  have hyes : stop (l.getD 0 0) → IsIdx l 0 := fun h => .inr ⟨0, rfl, by omega, h, fun j hj => by omega⟩
  generalize l.getD 0 0 = b0 at *
  have h1 : ((l.length : Int) == 1) = true := by rw [hl]; rfl
  have hz : (0 : Int) < (l.length : Int) := by omega
  have hib := ib_stop b0
  have hC0 := emp4 C4 rfl
  have hsz : C4.size = 4 := rfl
  have hrun := run110 b0 hb w
  obtain ⟨n0, n1, n2, n3, n4⟩ := next4 w 0
  generalize C4 = C at *
  have HNO := Lib.hid hno
  have HYES := Lib.hid hyes
  clear hno hyes hp hB hc0 hl
  by_cases hs : stop b0
  · have hge : 0 ≤ ib b0 := hib.2 hs
    have h128 : ¬ 128 ≤ b0 := by unfold stop at hs; omega
    have HS := Lib.hid hs
    clear hib hs n0 n1 n2 n3 n4
    go_enter Tryd.func96, Tryd.ntmps96
    go_wp2
    go_ret
    exact ⟨0, rfl, HYES.out HS.out, Below.refl _ _⟩
  · have hge : ¬ 0 ≤ ib b0 := fun h => hs (hib.1 h)
    have HS := Lib.hid hs
    clear hib hs
    by_cases h128 : 128 ≤ b0
    · clear hrun hge
      go_enter Tryd.func96, Tryd.ntmps96
      go_wp2
      go_rounds 5
      go_ret
      exact ⟨-1, rfl, HNO.out HS.out, (Below.refl _ _).alloc (Nat.le_refl _) _⟩
    · clear n0 n1 n2 n3 n4
      go_enter Tryd.func96, Tryd.ntmps96
      go_wp2
      go_ret
      exact ⟨-1, rfl, HNO.out HS.out, Below.refl _ _⟩
theorem IsIdx.none {l : List Int} (h : ∀ j : Nat, j < l.length → ¬ stop (l.getD j 0)) : IsIdx l (-1) := .inl ⟨rfl, h⟩
theorem set_at (x : Int) (hx : 0 ≤ x ∧ x ≤ 255) : (Lib.setCells C4.data.toList)[x.toNat]? = some (.bool (decide (stop x))) := by
  obtain ⟨n, rfl⟩ := Int.eq_ofNat_of_zero_le hx.1
  rw [Int.toNat_natCast]
  have h := Lib.setCells_at C4.data.toList (UInt8.ofNat n)
  have e : (UInt8.ofNat n).toNat = n := by simp [UInt8.toNat_ofNat']; omega
  rw [e] at h
  rw [h]
  congr 2
  have : ∀ n : Nat, n < 256 → C4.data.toList.contains (UInt8.ofNat n) = decide (stop (n : Int)) := by decide +kernel
  exact this n (by omega)
set_option maxHeartbeats 16000000 in
theorem any_long (l : List Int) (A : Option Addr) (c : Nat) (w : World) (hp : Kd.C (Kd.int .u8) w A l.length l) (hB : ∀ j : Nat, 0 ≤ l.getD j 0 ∧ l.getD j 0 ≤ 255) (hl : 8 < l.length) (hlN : l.length ≤ 4611686018427387904) :
    Calls Tryd.prog 96 #[.slice A l.length c, .string C4] w (AnyIs l w) := by
  have hM := makeSet_calls C4 w (by decide) (by intro j b hj; have := List.mem_of_getElem? hj; have hall : ∀ y ∈ C4.data.toList, y.toNat < 128 := by decide
                                                exact hall b this)
  have h1 : ((l.length : Int) == 1) = false := beq_eq_false_iff_ne.2 (by omega)
  have hC0 := emp4 C4 rfl
  have hsz : C4.size = 4 := rfl
  have hset := set_at
  have hssz := Lib.setCells_size C4.data.toList
  have hs1 := Lib.setCells_one C4.data.toList
  generalize Lib.setCells C4.data.toList = S at *
  generalize C4 = C at *
  have hv122 := run_zero122
  have h8z : decide ((8 : Int) < (l.length : Int)) = true := decide_eq_true (by omega)
  have hsc : (storeCells ⟨w.heap.size + 1, 0, none⟩ S.toList 0).run Tryd.prog ((w.alloc (.cells S 122)).alloc (.cells (Array.replicate 256 (.bool false)) 122)) = .ok () ((w.alloc (.cells S 122)).alloc (.cells S 122)) := by
    have := run_storeCells_new (P := Tryd.prog) (w.alloc (.cells S 122)) 122 (Array.replicate 256 (.bool false)) S (by rw [hssz]; exact info122) (by rw [hssz, Array.size_replicate]) hs1
    simpa using this
  have hcellAt : ∀ x : Int, 0 ≤ x ∧ x ≤ 255 → ((w.alloc (.cells S 122)).alloc (.cells S 122)).cell? ⟨w.heap.size + 1, x.toNat, none⟩ = some (.bool (decide (stop x))) := fun x hx => by
    rw [World.cell?_alloc_at _ _ _ _ (by simp), hset x hx]
  have BB : Below w.heap.size w ((w.alloc (.cells S 122)).alloc (.cells S 122)) := ((Below.refl _ _).alloc (Nat.le_refl _) _).alloc (by simp) _
  obtain ⟨ad, rfl, hc0⟩ := cell_at hp 0 (by omega)
  have hcells : ∀ j : Nat, j < l.length → ((w.alloc (.cells S 122)).alloc (.cells S 122)).cell? (ad.add j) = some (.int .u8 (l.getD j 0)) := fun j hj => by
    obtain ⟨_, hae, h⟩ := cell_at hp j hj
    obtain rfl := Option.some.inj hae
    exact (BB.cell (World.block_lt_of_cell? w _ h)).trans h
  have HC := Lib.hid hcellAt
  have HX := Lib.hid hcells
  clear hc0
  have HB := Lib.hid hB
  have HBB := Lib.hid BB
  clear hcellAt hp hB hset hs1 hcells BB
  go_enter Tryd.func96, Tryd.ntmps96
  go_wp2_with (first
    | (go_at_call 112; refine (big_calls _ _).mono ?_; rintro e w' ⟨rfl, hw⟩; rw [hw, h8z])
    | (go_at_call 113; refine hM.mono ?_; rintro e w' ⟨rfl, hw⟩; rw [hw]))
  clear hM hsc
  generalize ((w.alloc (.cells S 122)).alloc (.cells S 122)) = W2 at *
  go_loopg [62] l.length (fun g s wx => ∃ i : Nat, i + g = l.length ∧ s = .int .i64 i ∧ wx = W2 ∧ ∀ j : Nat, j < i → ¬ stop (l.getD j 0))
  case atStart => exact ⟨0, by omega, rfl, rfl, fun j hj => by omega⟩
  case round =>
    obtain ⟨i, hig, rfl, rfl, hno⟩ := hrel
    have HN := Lib.hid hno
    clear hno
    cases gk with
    | zero =>
      obtain rfl : i = l.length := by omega
      have hiz : ¬ ((l.length : Int) < (l.length : Int)) := by omega
      go_wp2
      go_ret
      exact ⟨-1, rfl, IsIdx.none HN.out, HBB.out⟩
    | succ g =>
      have hi : i < l.length := by omega
      have hiz : (i : Int) < (l.length : Int) := by omega
      have hx := HX.out i hi
      have hb := HB.out i
      obtain ⟨x, hxe⟩ : ∃ x, l.getD i 0 = x := ⟨_, rfl⟩
      rw [hxe] at hx hb
      have hcx := HC.out x hb
      obtain ⟨xn, rfl⟩ := Int.eq_ofNat_of_zero_le hb.1
      rw [Int.toNat_natCast] at hcx
      have hcc := contains_calls (w.heap.size + 1) xn _ _ (by omega) hcx
      have HXE := Lib.hid hxe
      clear hxe
      by_cases hst : stop (xn : Int)
      · rw [decide_eq_true hst] at hcx hcc
        have HST := Lib.hid hst
        clear hst
        go_wp2_with (go_at_call 114; refine hcc.mono ?_; rintro e w' ⟨rfl, hw⟩; rw [hw])
        go_ret
        exact ⟨_, rfl, .inr ⟨i, rfl, hi, by rw [HXE.out]; exact HST.out, HN.out⟩, HBB.out⟩
      · rw [decide_eq_false hst] at hcx hcc
        have HST := Lib.hid hst
        clear hst
        go_wp2_with (go_at_call 114; refine hcc.mono ?_; rintro e w' ⟨rfl, hw⟩; rw [hw])
        go_roundg g
        case measure => omega
        case rel => exact ⟨i + 1, by omega, by first | rfl | simp, rfl, fun j hj => by
                             rcases (show j < i ∨ j = i by omega) with h | rfl
                             · exact HN.out j h
                             · rw [HXE.out]; exact HST.out⟩
theorem drop_getD (l : List Int) (i k : Nat) : (l.drop i).getD k 0 = l.getD (i + k) 0 := by
  simp [List.getD_eq_getElem?_getD, List.getElem?_drop]
theorem info5 : (Tryd.prog.info? 5).map (fun i => (i.zero, i.size, i.bytes)) = some (some (.int .u8 0), 1, 1) := by kernel_rfl
theorem run116e (l : List Int) (r m : Int) (n : Nat) (h : Dec l r n) (hr : r ≠ 65533) (w : World) (hm : w.cell? ⟨1, 0, none⟩ = some (.int .i64 m)) (hn : (n : Int) ≤ m) : (callFunc 116 #[.string C4, .string (Utf8.encode r)]).run Tryd.prog w = .ok (.value (.int .i64 (-1))) w := run116 h hr w hm hn
theorem emp_ne (C : ByteArray) (r : Int) (n : Nat) (l : List Int) (hC : C = C4) (h : Dec l r n) (hr : r ≠ 65533) : (C.toList == (Utf8.encode r).toList) = false := by
  subst hC
  obtain ⟨hs, x, t, hx, hne⟩ := enc_of h hr
  rw [Lib.toList_data, Lib.toList_data, hx]
  rw [beq_eq_false_iff_ne]
  intro e
  have : (58 : UInt8) = x := (List.cons.inj (show (58 : UInt8) :: [47, 63, 35] = x :: t from e)).1
  exact hne.1 this.symm
theorem after_decode (C : ByteArray) (hC : C = C4) (q : List Int) (r m : Int) (n : Nat) (w : World) (hd : Dec q r n) (hm : w.cell? ⟨1, 0, none⟩ = some (.int .i64 m)) :
    (r = 65533 ∧ ((Instr.next (.pointer (some ⟨w.heap.size, 0, none⟩)) true 0).run Tryd.prog (w.iter C 0) = .ok (.tuple #[.bool true, .int .i64 0, .int .i32 58]) (w.iter C 1) ∧ (Instr.next (.pointer (some ⟨w.heap.size, 0, none⟩)) true 0).run Tryd.prog (w.iter C 1) = .ok (.tuple #[.bool true, .int .i64 1, .int .i32 47]) (w.iter C 2) ∧ (Instr.next (.pointer (some ⟨w.heap.size, 0, none⟩)) true 0).run Tryd.prog (w.iter C 2) = .ok (.tuple #[.bool true, .int .i64 2, .int .i32 63]) (w.iter C 3) ∧ (Instr.next (.pointer (some ⟨w.heap.size, 0, none⟩)) true 0).run Tryd.prog (w.iter C 3) = .ok (.tuple #[.bool true, .int .i64 3, .int .i32 35]) (w.iter C 4) ∧ (Instr.next (.pointer (some ⟨w.heap.size, 0, none⟩)) true 0).run Tryd.prog (w.iter C 4) = .ok (.tuple #[.bool false]) (w.iter C 4))) ∨ ((r != 65533) = true ∧ ((4 : Int) == (n : Int)) = true ∧ (C.toList == (Utf8.encode r).toList) = false)
    ∨ ((r != 65533) = true ∧ ((4 : Int) == (n : Int)) = false ∧ (n : Int) ≤ m ∧ (callFunc 116 #[.string C, .string (Utf8.encode r)]).run Tryd.prog w = .ok (.value (.int .i64 (-1))) w)
    ∨ ((r != 65533) = true ∧ ((4 : Int) == (n : Int)) = false ∧ ¬ (n : Int) ≤ m ∧ ((r == 58) = false ∧ (r == 47) = false ∧ (r == 63) = false ∧ (r == 35) = false) ∧ ((Instr.next (.pointer (some ⟨w.heap.size, 0, none⟩)) true 0).run Tryd.prog (w.iter C 0) = .ok (.tuple #[.bool true, .int .i64 0, .int .i32 58]) (w.iter C 1) ∧ (Instr.next (.pointer (some ⟨w.heap.size, 0, none⟩)) true 0).run Tryd.prog (w.iter C 1) = .ok (.tuple #[.bool true, .int .i64 1, .int .i32 47]) (w.iter C 2) ∧ (Instr.next (.pointer (some ⟨w.heap.size, 0, none⟩)) true 0).run Tryd.prog (w.iter C 2) = .ok (.tuple #[.bool true, .int .i64 2, .int .i32 63]) (w.iter C 3) ∧ (Instr.next (.pointer (some ⟨w.heap.size, 0, none⟩)) true 0).run Tryd.prog (w.iter C 3) = .ok (.tuple #[.bool true, .int .i64 3, .int .i32 35]) (w.iter C 4) ∧ (Instr.next (.pointer (some ⟨w.heap.size, 0, none⟩)) true 0).run Tryd.prog (w.iter C 4) = .ok (.tuple #[.bool false]) (w.iter C 4))) := by
  subst hC
  by_cases hr : r = 65533
  · exact .inl ⟨hr, next4 w 0⟩
  · have hr' : (r != 65533) = true := by simpa using hr
    by_cases h4 : n = 4
    · exact .inr (.inl ⟨hr', by subst h4; rfl, emp_ne C4 r n q rfl hd hr⟩)
    · have h4' : ((4 : Int) == (n : Int)) = false := by rw [beq_eq_false_iff_ne]; omega
      by_cases hmn : (n : Int) ≤ m
      · exact .inr (.inr (.inl ⟨hr', h4', hmn, run116e q r m n hd hr w hm hmn⟩))
      · have hr128 : 128 ≤ r := by have h := hd.2.2.2; omega
        refine .inr (.inr (.inr ⟨hr', h4', hmn, ⟨?_, ?_, ?_, ?_⟩, next4 w 0⟩)) <;> (rw [beq_eq_false_iff_ne]; omega)
set_option maxHeartbeats 16000000 in
theorem any_short (l : List Int) (A : Option Addr) (c : Nat) (w : World) (hp : Kd.C (Kd.int .u8) w A l.length l) (hB : ∀ j : Nat, 0 ≤ l.getD j 0 ∧ l.getD j 0 ≤ 255) (hl : l.length ≤ 8) (hl1 : l.length ≠ 1) (hcap : l.length ≤ c) (hT : DecOK w) (m : Int) (hm : w.cell? ⟨1, 0, none⟩ = some (.int .i64 m)) :
    Calls Tryd.prog 96 #[.slice A l.length c, .string C4] w (AnyIs l w) := by
  have h1 : ((l.length : Int) == 1) = false := beq_eq_false_iff_ne.2 (by omega)
  have hC0 := emp4 C4 rfl
  have hsz : C4.size = 4 := rfl
  have hC : C4 = C4 := rfl
  have hrun := run110
  have had := after_decode C4
  replace had := had hC
  generalize C4 = C at hC0 hsz hC hrun had ⊢
  have HAD := Lib.hid had
  have h8z : decide ((8 : Int) < (l.length : Int)) = false := decide_eq_false (by omega)
  have HR := Lib.hid hrun
  have HP := Lib.hid hp
  have HB := Lib.hid hB
  have HT := Lib.hid hT
  have HM := Lib.hid hm
  have HCAP := Lib.hid hcap
  have HL := Lib.hid hl
  clear hrun had hp hB hT hm hcap hl hC hl1
  go_enter Tryd.func96, Tryd.ntmps96
  go_wp2_with (go_at_call 112; refine (big_calls _ _).mono ?_; rintro e w' ⟨rfl, hw⟩; rw [hw, h8z])
  go_loopg [11, 12] l.length (fun g s11 s12 wx => ∃ i : Nat, i + g = l.length ∧ s12 = .int .i64 i ∧ Below w.heap.size w wx ∧ ∀ j : Nat, j < i → ¬ stop (l.getD j 0))
  case atStart => exact ⟨0, by omega, rfl, Below.refl _ _, fun j hj => by omega⟩
  case round =>
    obtain ⟨i, hig, rfl, hbx, hno⟩ := hrel
    have HN := Lib.hid hno
    have HBX := Lib.hid hbx
    clear hno hbx
    cases gk with
    | zero =>
      obtain rfl : i = l.length := by omega
      have hiz : ¬ ((l.length : Int) < (l.length : Int)) := by omega
      go_wp2
      go_ret
      exact ⟨-1, rfl, IsIdx.none HN.out, HBX.out⟩
    | succ g =>
      have hi : i < l.length := by omega
      have hiz : (i : Int) < (l.length : Int) := by omega
      have hL8 : (l.length : Int) ≤ 8 := by have := HL.out; omega
      have HPX := Lib.hid (Kd.C_below HP.out HBX.out)
      obtain ⟨ad, rfl, hx⟩ := cell_at HPX.out i hi
      have hb := HB.out i
      obtain ⟨x, hxe⟩ : ∃ x, l.getD i 0 = x := ⟨_, rfl⟩
      rw [hxe] at hx hb
      have hib := ib_stop x
      have HXE := Lib.hid hxe
      clear hxe
      by_cases h128 : x < 128
      · have hrun := HR.out x hb wr
        by_cases hst : stop x
        · have hge : 0 ≤ ib x := hib.2 hst
          have HST := Lib.hid hst
          clear hst hib
          go_wp2
          go_ret
          exact ⟨_, rfl, .inr ⟨i, rfl, hi, by rw [HXE.out]; exact HST.out, HN.out⟩, HBX.out⟩
        · have hge : ¬ 0 ≤ ib x := fun h => hst (hib.1 h)
          have HST := Lib.hid hst
          clear hst hib
          go_wp2
          go_roundg g
          case measure => omega
          case rel => exact ⟨i + 1, by omega, by first | rfl | simp, HBX.out, fun j hj => by
                               rcases (show j < i ∨ j = i by omega) with h | rfl
                               · exact HN.out j h
                               · rw [HXE.out]; exact HST.out⟩
      · obtain ⟨i0, hi0, _, hsz0, _⟩ := info_parts info5
        obtain ⟨A5, hcut, hA5, hc5⟩ := print_drop_of (P := Tryd.prog) (Value.int .u8) 0 22 5 .i64 Tryd.underlying22 hi0 hsz0 (some ad) c l (i : Int) (by omega) (by omega) HCAP.out
        clear hi0 hsz0
        have hqg : ∀ k, (l.drop (i : Int).toNat).getD k 0 = l.getD (i + k) 0 := fun k => drop_getD l i k
        have hql : (l.drop (i : Int).toNat).length = l.length - i := by rw [List.length_drop, Int.toNat_natCast]
        generalize l.drop (i : Int).toNat = q at *
        have cD := decode_calls q A5 (c - (i : Int).toNat) wr (Kd.C_of_reads (h1 := fun _ => rfl) (hA5 _ (Kd.reads_of_C HPX.out))) (fun j => by rw [hqg]; exact HB.out _) (by omega) (by rw [hqg, Nat.add_zero, HXE.out]; omega) (HT.out.below HBX.out)
        clear hA5 hc5 hib
        have HQG := Lib.hid hqg
        have HQL := Lib.hid hql
        clear hqg hql
        go_wp2_with (go_at_call 115; refine cD.mono ?_; rintro e w' ⟨r, n, rfl, hd, hb⟩; clear cD
                     have hbw := below_then HBX.out HBX.out.size hb
                     have hnl : i + n ≤ l.length := by have := hd.2.1; have := HQL.out; omega
                     have hn1 : 1 ≤ n := hd.1
                     have hw64 : wrap64 ((i : Int) + (n : Int)) = (i : Int) + (n : Int) := by have := HL.out; unfold wrap64; omega
                     have HSTEP := Lib.hid (show ∀ j : Nat, j < i + n → ¬ stop (l.getD j 0) from fun j hj => by
                       by_cases hji : j < i
                       · exact HN.out j hji
                       · have h1 := hd.2.2.1 (j - i) (by omega)
                         rw [HQG.out, show i + (j - i) = j by omega] at h1
                         unfold stop; omega)
                     have HBW := Lib.hid hbw
                     have HBI := Lib.hid (hbw.alloc hbw.size (Obj.stringIter C 4))
                     have hm' : w'.cell? ⟨1, 0, none⟩ = some (.int .i64 m) := (hbw.cell (World.block_lt_of_cell? w _ HM.out)).trans HM.out
                     clear hbw hb
                     have hcase := HAD.out q r m n w' hd hm'
                     clear hd
                     rcases hcase with ⟨rfl, n0, n1, n2, n3, n4⟩ | ⟨hr', h4', hne⟩ | ⟨hr', h4', hmn, hrun2⟩ | ⟨hr', h4', hmn, ⟨e1, e2, e3, e4⟩, n0, n1, n2, n3, n4⟩)
        all_goals (try go_rounds 5)
        all_goals go_roundg (l.length - (i + n))
        all_goals first
          | omega
          | exact ⟨i + n, by omega, by first | rfl | simp, HBW.out, HSTEP.out⟩
          | exact ⟨i + n, by omega, by first | rfl | simp, HBI.out, HSTEP.out⟩
theorem any_calls (l : List Int) (A : Option Addr) (c : Nat) (w : World) (hp : Kd.C (Kd.int .u8) w A l.length l) (hB : ∀ j : Nat, 0 ≤ l.getD j 0 ∧ l.getD j 0 ≤ 255) (hlN : l.length ≤ 4611686018427387904) (hcap : l.length ≤ c) (hT : DecOK w) (m : Int) (hm : w.cell? ⟨1, 0, none⟩ = some (.int .i64 m)) :
    Calls Tryd.prog 96 #[.slice A l.length c, .string C4] w (AnyIs l w) := by
  by_cases h1 : l.length = 1
  · exact any_one l A c w hp hB h1
  · by_cases h8 : 8 < l.length
    · exact any_long l A c w hp hB h8 hlN
    · exact any_short l A c w hp hB (by omega) h1 hcap hT m hm
end Go.Proofs.YtdpnnglfaofjeaaDoor.Z
namespace Go.Proofs.YtdpnnglfaofjeaaDoor.Z
open Go.RowKit Go.Lib Go.Proofs.YtdpnnglfaofjeaaDoorW.PrintWords Go.Proofs.YtdpnnglfaofjeaaDoorW.PrintLast Go.Proofs.YtdpnnglfaofjeaaDoorW.PrintMore Go.Proofs.YtdpnnglfaofjeaaDoor.PSc
set_option linter.unusedVariables false
set_option linter.unusedSimpArgs false
set_option maxRecDepth 100000
def low (x : Int) : Int := if 65 ≤ x ∧ x ≤ 90 then x + 32 else x
def okName (s : ByteArray) : Bool := decide (s.toList = ([104, 116, 116, 112] : List UInt8)) || decide (s.toList = ([104, 116, 116, 112, 115] : List UInt8)) || decide (s.toList = ([109, 97, 105, 108, 116, 111] : List UInt8))
def allowed (l : List Int) : Bool := okName (strOfNums (l.map low))
theorem z_wrap (n : Int) (h : -9223372036854775808 ≤ n ∧ n ≤ 9223372036854775807) : wrap64 n = n := by unfold wrap64; omega
theorem z_rd (l : List Int) (i : Nat) : rd l (i : Int) = l.getD i 0 := by simp [rd, rdOf]
theorem z_snoc (l : List Int) (i : Nat) (h : i < l.length) : l.take (i + 1) = l.take i ++ [l.getD i 0] := by
  rw [List.take_add_one, List.getElem?_eq_getElem h]
  simp [List.getD_eq_getElem?_getD, List.getElem?_eq_getElem h]
theorem okName_ev (s : ByteArray) : (if s.toList = ([104, 116, 116, 112] : List UInt8) then (some true) else (if s.toList = ([104, 116, 116, 112, 115] : List UInt8) then (some true) else (if s.toList = ([109, 97, 105, 108, 116, 111] : List UInt8) then (some true) else (some false)))) = some (okName s) := by
  unfold okName
  repeat' split
  all_goals simp_all
theorem okName_ev2 (s : ByteArray) : (if s.toList = ([104, 116, 116, 112] : List UInt8) then (some true) else (if s.toList = ([104, 116, 116, 112, 115] : List UInt8) then (some true) else (some (s.toList == ([109, 97, 105, 108, 116, 111] : List UInt8))))) = some (okName s) := by
  unfold okName
  by_cases h1 : s.toList = ([104, 116, 116, 112] : List UInt8)
  · rw [if_pos h1, decide_eq_true h1]; rfl
  · by_cases h2 : s.toList = ([104, 116, 116, 112, 115] : List UInt8)
    · rw [if_neg h1, if_pos h2, decide_eq_false h1, decide_eq_true h2]; rfl
    · rw [if_neg h1, if_neg h2, decide_eq_false h1, decide_eq_false h2, Bool.false_or, Bool.false_or]
      congr 1
      rw [Bool.eq_iff_iff]
      simp
theorem small_step (l : List Int) (i : Nat) (hi : i < l.length) (v : Int) : ((l.take i).map low ++ List.replicate (l.length - i) 0).set i v = ((l.take i).map low ++ [v]) ++ List.replicate (l.length - (i + 1)) 0 := by
  have hlen : ((l.take i).map low).length = i := by simp; omega
  rw [List.set_append_right _ _ (by omega), hlen, Nat.sub_self]
  rw [show l.length - i = (l.length - (i + 1)) + 1 by omega, List.replicate_succ]
  simp
theorem small_loop (l : List Int) (hB : ∀ j : Nat, 0 ≤ l.getD j 0 ∧ l.getD j 0 ≤ 255) (hN : l.length ≤ 281474976710656) : ∀ (n i k : Nat), l.length - i = n → i ≤ l.length → n < k →
    scheme_small.l0 k ((l.take i).map low ++ List.replicate (l.length - i) 0) l (l.length : Int) (i : Int) = some (l.map low) := by
  intro n
  induction n with
  | zero =>
    intro i k hn hi hk
    obtain ⟨k, rfl⟩ : ∃ q, k = q + 1 := ⟨k - 1, by omega⟩
    obtain rfl : i = l.length := by omega
    rw [scheme_small.l0, if_neg (by omega), List.take_length, Nat.sub_self]
    simp
  | succ n ih =>
    intro i k hn hi hk
    obtain ⟨k, rfl⟩ : ∃ q, k = q + 1 := ⟨k - 1, by omega⟩
    have hil : i < l.length := by omega
    have hlen : ((l.take i).map low ++ List.replicate (l.length - i) (0 : Int)).length = l.length := by simp; omega
    have hw : wrap64 ((i : Int) + 1) = ((i + 1 : Nat) : Int) := by rw [z_wrap _ (by omega)]; rfl
    have hb := hB i
    have hnext := ih (i + 1) k (by omega) (by omega) (by omega)
    rw [z_snoc l i hil, List.map_append, List.map_cons, List.map_nil] at hnext
    rw [scheme_small.l0, if_pos (by omega), if_pos (by omega), if_pos (by omega), z_rd, hw, Int.toNat_natCast]
    by_cases h1 : l.getD i 0 ≥ 65
    · rw [if_pos h1]
      by_cases h2 : l.getD i 0 ≤ 90
      · rw [if_pos h2, if_pos (by rw [hlen]; omega), small_step l i hil, ← hnext, show low (l.getD i 0) = (l.getD i 0 + 32) % 256 by unfold low; rw [if_pos ⟨h1, h2⟩]; omega]
      · rw [if_neg h2, if_pos (by rw [hlen]; omega), small_step l i hil, ← hnext, show low (l.getD i 0) = l.getD i 0 by unfold low; rw [if_neg (fun h => h2 h.2)]]
    · rw [if_neg h1, if_pos (by rw [hlen]; omega), small_step l i hil, ← hnext, show low (l.getD i 0) = l.getD i 0 by unfold low; rw [if_neg (fun h => h1 h.1)]]
theorem small_ev (l : List Int) (hB : ∀ j : Nat, 0 ≤ l.getD j 0 ∧ l.getD j 0 ≤ 255) (hN : l.length ≤ 281474976710656) (k : Nat) (hk : l.length < k) : scheme_small.f k l = some (l.map low) := by
  rw [scheme_small.f, if_pos (by omega), if_pos (by omega)]
  have h := small_loop l hB hN l.length 0 k (by omega) (by omega) hk
  rw [List.take_zero, List.map_nil, List.nil_append, Nat.sub_zero] at h
  rw [Int.toNat_natCast]
  exact h
theorem allowed_ev (l : List Int) (hB : ∀ j : Nat, 0 ≤ l.getD j 0 ∧ l.getD j 0 ≤ 255) (hN : l.length ≤ 281474976710656) (k : Nat) (hk : l.length < k) : scheme_Allowed.f k l = some (allowed l) := by
  rw [scheme_Allowed.f, small_ev l hB hN k hk, Option.bind_some, okName_ev]
  rfl
theorem allowed5_loop (l : List Int) (hB : ∀ j : Nat, 0 ≤ l.getD j 0 ∧ l.getD j 0 ≤ 255) (hN : l.length ≤ 140737488355327) : ∀ (n i k : Nat), l.length - i = n → i ≤ l.length → n < k →
    bobbinref05_Allowed.l0 k l ((l.take i).map low) (i : Int) = some (allowed l) := by
  intro n
  induction n with
  | zero =>
    intro i k hn hi hk
    obtain ⟨k, rfl⟩ : ∃ q, k = q + 1 := ⟨k - 1, by omega⟩
    obtain rfl : i = l.length := by omega
    rw [bobbinref05_Allowed.l0, if_neg (by omega), List.take_length, okName_ev2]
    rfl
  | succ n ih =>
    intro i k hn hi hk
    obtain ⟨k, rfl⟩ : ∃ q, k = q + 1 := ⟨k - 1, by omega⟩
    have hil : i < l.length := by omega
    have hlen : ((l.take i).map low).length < 140737488355328 := by simp; omega
    have hw : wrap64 ((i : Int) + 1) = ((i + 1 : Nat) : Int) := by rw [z_wrap _ (by omega)]; rfl
    have hb := hB i
    have hnext := ih (i + 1) k (by omega) (by omega) (by omega)
    rw [z_snoc l i hil, List.map_append, List.map_cons, List.map_nil] at hnext
    rw [bobbinref05_Allowed.l0, if_pos (by omega), if_pos (by omega), z_rd, hw]
    by_cases h1 : l.getD i 0 ≥ 65
    · rw [if_pos h1]
      by_cases h2 : l.getD i 0 ≤ 90
      · rw [if_pos h2, if_pos hlen, ← hnext, show low (l.getD i 0) = (l.getD i 0 + 32) % 256 by unfold low; rw [if_pos ⟨h1, h2⟩]; omega]
      · rw [if_neg h2, if_pos hlen, ← hnext, show low (l.getD i 0) = l.getD i 0 by unfold low; rw [if_neg (fun h => h2 h.2)]]
    · rw [if_neg h1, if_pos hlen, ← hnext, show low (l.getD i 0) = l.getD i 0 by unfold low; rw [if_neg (fun h => h1 h.1)]]
theorem allowed5_ev (l : List Int) (hB : ∀ j : Nat, 0 ≤ l.getD j 0 ∧ l.getD j 0 ≤ 255) (hN : l.length ≤ 140737488355327) (k : Nat) (hk : l.length < k) : bobbinref05_Allowed.f k l = some (allowed l) := by
  have h := allowed5_loop l hB hN l.length 0 k (by omega) (by omega) hk
  rw [List.take_zero, List.map_nil] at h
  exact h
def markFrom : List Int → Int → Int
  | [], _ => -1
  | x :: t, i => if stop x then i else markFrom t (i + 1)
def mark (l : List Int) : Int := markFrom l 0
theorem IsIdx.unique {l : List Int} {r s : Int} (h : IsIdx l r) (k : IsIdx l s) : r = s := by
  rcases h with ⟨rfl, h⟩ | ⟨i, rfl, hi, hs, hn⟩ <;> rcases k with ⟨rfl, k⟩ | ⟨j, rfl, hj, ks, kn⟩
  · rfl
  · exact absurd ks (h j hj)
  · exact absurd hs (k i hi)
  · rcases Nat.lt_trichotomy i j with e | e | e
    · exact absurd hs (kn i e)
    · rw [e]
    · exact absurd ks (hn j e)
theorem markFrom_is (l : List Int) : ∀ (n i : Nat), l.length - i = n → i ≤ l.length → (∀ j : Nat, j < i → ¬ stop (l.getD j 0)) → IsIdx l (markFrom (l.drop i) (i : Int)) := by
  intro n
  induction n with
  | zero =>
    intro i hn hi h
    obtain rfl : i = l.length := by omega
    rw [List.drop_length]
    exact .inl ⟨rfl, h⟩
  | succ n ih =>
    intro i hn hi h
    have hil : i < l.length := by omega
    have hd : l.drop i = l.getD i 0 :: l.drop (i + 1) := by
      rw [List.drop_eq_getElem_cons hil]
      simp [List.getD_eq_getElem?_getD, List.getElem?_eq_getElem hil]
    rw [hd, markFrom]
    by_cases hs : stop (l.getD i 0)
    · rw [if_pos hs]
      exact .inr ⟨i, rfl, hil, hs, h⟩
    · rw [if_neg hs]
      exact ih (i + 1) (by omega) (by omega) (fun j hj => by
        rcases (show j < i ∨ j = i by omega) with q | rfl
        · exact h j q
        · exact hs)
theorem mark_is (l : List Int) : IsIdx l (mark l) := markFrom_is l l.length 0 (by omega) (by omega) (fun j hj => by omega)
theorem mark5_loop (l : List Int) (hN : l.length ≤ 140737488355327) : ∀ (n i k : Nat), l.length - i = n → i ≤ l.length → n < k → (∀ j : Nat, j < i → ¬ stop (l.getD j 0)) → ∃ r, bobbinref05_Mark.l0 k l (i : Int) = some r ∧ IsIdx l r := by
  intro n
  induction n with
  | zero =>
    intro i k hn hi hk h
    obtain ⟨k, rfl⟩ : ∃ q, k = q + 1 := ⟨k - 1, by omega⟩
    obtain rfl : i = l.length := by omega
    rw [bobbinref05_Mark.l0, if_neg (by omega)]
    exact ⟨-1, rfl, .inl ⟨rfl, h⟩⟩
  | succ n ih =>
    intro i k hn hi hk h
    obtain ⟨k, rfl⟩ : ∃ q, k = q + 1 := ⟨k - 1, by omega⟩
    have hil : i < l.length := by omega
    have hw : wrap64 ((i : Int) + 1) = ((i + 1 : Nat) : Int) := by rw [z_wrap _ (by omega)]; rfl
    rw [bobbinref05_Mark.l0, if_pos (by omega), if_pos (by omega), z_rd, hw]
    have hyes : stop (l.getD i 0) → IsIdx l (i : Int) := fun hs => .inr ⟨i, rfl, hil, hs, h⟩
    by_cases h1 : l.getD i 0 = 58
    · rw [if_pos h1]; exact ⟨_, rfl, hyes (.inl h1)⟩
    rw [if_neg h1]
    by_cases h2 : l.getD i 0 = 47
    · rw [if_pos h2]; exact ⟨_, rfl, hyes (.inr (.inl h2))⟩
    rw [if_neg h2]
    by_cases h3 : l.getD i 0 = 63
    · rw [if_pos h3]; exact ⟨_, rfl, hyes (.inr (.inr (.inl h3)))⟩
    rw [if_neg h3]
    by_cases h4 : l.getD i 0 = 35
    · rw [if_pos h4]; exact ⟨_, rfl, hyes (.inr (.inr (.inr h4)))⟩
    rw [if_neg h4]
    exact ih (i + 1) k (by omega) (by omega) (by omega) (fun j hj => by
      rcases (show j < i ∨ j = i by omega) with q | rfl
      · exact h j q
      · unfold stop; omega)
theorem mark5_ev (l : List Int) (hN : l.length ≤ 140737488355327) (k : Nat) (hk : l.length < k) : bobbinref05_Mark.f k l = some (mark l) := by
  obtain ⟨r, h1, h2⟩ := mark5_loop l hN l.length 0 k (by omega) (by omega) hk (fun j hj => by omega)
  rw [← h2.unique (mark_is l)]
  exact h1
def stopped (l : List Int) : Bool := if mark l < 0 then decide ((l.length : Int) > 16) else if mark l > 16 then true else if l.getD (mark l).toNat 0 = 58 then !allowed (l.take (mark l).toNat) else false
theorem take_bytes {l : List Int} (hB : ∀ j : Nat, 0 ≤ l.getD j 0 ∧ l.getD j 0 ≤ 255) (n : Nat) : ∀ j : Nat, 0 ≤ (l.take n).getD j 0 ∧ (l.take n).getD j 0 ≤ 255 := by
  intro j
  by_cases h : j < n
  · have e : (l.take n).getD j 0 = l.getD j 0 := by simp [List.getD_eq_getElem?_getD, List.getElem?_take, h]
    rw [e]; exact hB j
  · have e : (l.take n).getD j 0 = 0 := by
      rw [List.getD_eq_getElem?_getD, List.getElem?_take, if_neg h]; rfl
    rw [e]; omega
theorem mark_lt (l : List Int) : mark l < (l.length : Int) := by
  rcases mark_is l with ⟨h, _⟩ | ⟨i, h, hi, _⟩ <;> omega
theorem stopped5_ev (l : List Int) (hB : ∀ j : Nat, 0 ≤ l.getD j 0 ∧ l.getD j 0 ≤ 255) (hN : l.length ≤ 140737488355327) (k : Nat) (hk : l.length < k) : bobbinref05_Stopped.f k l = some (stopped l) := by
  have hm := mark_lt l
  rw [bobbinref05_Stopped.f, mark5_ev l hN k hk, Option.bind_some]
  unfold stopped
  by_cases h0 : mark l < 0
  · rw [if_pos h0, if_pos h0]
  rw [if_neg h0, if_neg h0]
  by_cases h1 : mark l > 16
  · rw [if_pos h1, if_pos h1]
  rw [if_neg h1, if_neg h1, if_pos (by omega), if_pos (by omega), if_pos hm]
  obtain ⟨i, hi⟩ := Int.eq_ofNat_of_zero_le (show 0 ≤ mark l by omega)
  rw [hi, z_rd, Int.toNat_natCast]
  by_cases h2 : l.getD i 0 = 58
  · rw [if_pos h2, if_pos h2, if_pos (by omega), allowed5_ev _ (take_bytes hB i) (by rw [List.length_take]; omega) k (by rw [List.length_take]; omega)]
    rfl
  · rw [if_neg h2, if_neg h2]
def blockedB : ByteArray := ⟨#[35, 98, 108, 111, 99, 107, 101, 100]⟩
theorem pass5_ev (l : List Int) (hB : ∀ j : Nat, 0 ≤ l.getD j 0 ∧ l.getD j 0 ≤ 255) (hN : l.length ≤ 140737488355327) (k : Nat) (hk : l.length < k) : bobbinref05_Pass.f k l = some (if stopped l = true then blockedB else strOfNums l) := by
  rw [bobbinref05_Pass.f, stopped5_ev l hB hN k hk, Option.bind_some]
  unfold blockedB
  split <;> rfl
theorem sure5_ev (l : List Int) (hN : l.length ≤ 140737488355327) (k : Nat) (hk : l.length < k) : bobbinref05_Sure.f k l = some (decide (0 ≤ mark l) || decide ((l.length : Int) > 16)) := by
  rw [bobbinref05_Sure.f, mark5_ev l hN k hk, Option.bind_some]
  by_cases h : mark l ≥ 0
  · rw [if_pos h, decide_eq_true h]; rfl
  · rw [if_neg h, decide_eq_false h]; rfl
end Go.Proofs.YtdpnnglfaofjeaaDoor.Z
namespace Go.Proofs.YtdpnnglfaofjeaaDoor.Z
open Go.RowKit Go.Lib Go.Proofs.YtdpnnglfaofjeaaDoorW.PrintWords Go.Proofs.YtdpnnglfaofjeaaDoorW.PrintLast Go.Proofs.YtdpnnglfaofjeaaDoorW.PrintMore Go.Proofs.YtdpnnglfaofjeaaDoor.PSc
set_option linter.unusedVariables false
set_option linter.unusedSimpArgs false
set_option maxRecDepth 1000000
def SchOK (w : World) : Prop := DecOK w ∧ ∃ m, w.cell? ⟨1, 0, none⟩ = some (.int .i64 m)
theorem SchOK.below {w w1 : World} (h : SchOK w) (hb : Below w.heap.size w w1) : SchOK w1 := by
  obtain ⟨h1, m, h2⟩ := h
  exact ⟨h1.below hb, m, (hb.cell (World.block_lt_of_cell? w _ h2)).trans h2⟩
def lookV (l : List Int) (all : Bool) : Int := if (mark l < 0 ∧ 16 < (l.length : Int)) ∨ 16 < mark l then 2 else if mark l < 0 ∧ all = false then 0 else if 0 ≤ mark l ∧ l.getD (mark l).toNat 0 = 58 ∧ allowed (l.take (mark l).toNat) = false then 2 else 1
theorem take_fit {P : Program} {f : FuncId} {A : Option Addr} {c n : Nat} {l : List Int} {w : World} {Q : Ending → World → Prop} (h : n ≤ l.length) (hc : Calls P f #[.slice A (l.take n).length c] w Q) : Calls P f #[.slice A n c] w Q := by rwa [List.length_take, Nat.min_eq_left h] at hc
theorem C_tk {w : World} {A : Option Addr} {l : List Int} (hp : Kd.C (Kd.int .u8) w A l.length l) (n : Nat) (hn : n ≤ l.length) : Kd.C (Kd.int .u8) w A (l.take n).length (l.take n) := Kd.C_take hp hn
set_option maxHeartbeats 16000000 in
theorem look_calls (l : List Int) (A : Option Addr) (c : Nat) (all : Bool) (w : World) (hp : Kd.C (Kd.int .u8) w A l.length l) (hB : ∀ j : Nat, 0 ≤ l.getD j 0 ∧ l.getD j 0 ≤ 255) (hN : l.length ≤ 1099511627776) (hcap : l.length ≤ c) (hS : SchOK w) :
    Calls Tryd.prog 86 #[.slice A l.length c, .bool all] w fun e w' => e = .returned (.int .i64 (lookV l all)) ∧ Below w.heap.size w w' := by
  obtain ⟨hT, mx, hmx⟩ := hS
  have cA := (any_calls l A c w hp hB (by omega) hcap hT mx hmx).mono (R' := fun e w' => e = .returned (.int .i64 (mark l)) ∧ Below w.heap.size w w') (fun e w' ⟨r, h1, h2, h3⟩ => ⟨by rw [h1, h2.unique (mark_is l)], h3⟩)
  have hml := mark_lt l
  have hmi := mark_is l
  unfold lookV
  have AL := fun (n : Nat) (hn : n ≤ l.length) (w1 : World) (hb : Below w.heap.size w w1) => take_fit hn (scheme_Allowed.calls (l.length + 1) A c (l.take n) (allowed (l.take n)) w1 (C_tk (Kd.C_below hp hb) n hn) (by rw [List.length_take]; omega) (allowed_ev _ (take_bytes hB n) (by rw [List.length_take]; omega) _ (by rw [List.length_take]; omega)))
  generalize mark l = m at *
  have HMI := Lib.hid hmi
  have HP := Lib.hid hp
  have HAL := Lib.hid AL
  clear hmi hp AL hB hT hmx
  by_cases hm0 : m < 0
  · by_cases h16 : 16 < (l.length : Int)
    · rw [if_pos (.inl ⟨hm0, h16⟩)]
      go_enter Tryd.func86, Tryd.ntmps86
      go_wp2_with (go_at_call 96; go_fit cA; rintro e w' ⟨rfl, hb⟩)
      go_ret
      exact ⟨rfl, hb⟩
    · rw [if_neg (by omega)]
      have hm16 : ¬ 16 < m := by omega
      cases all
      · rw [if_pos ⟨hm0, rfl⟩]
        go_enter Tryd.func86, Tryd.ntmps86
        go_wp2_with (go_at_call 96; go_fit cA; rintro e w' ⟨rfl, hb⟩)
        go_ret
        exact ⟨rfl, hb⟩
      · rw [if_neg (by simp), if_neg (by omega)]
        have hm1 : ¬ 0 ≤ m := by omega
        go_enter Tryd.func86, Tryd.ntmps86
        go_wp2_with (go_at_call 96; go_fit cA; rintro e w' ⟨rfl, hb⟩)
        go_ret
        exact ⟨rfl, hb⟩
  · have hm1 : 0 ≤ m := by omega
    by_cases hm16 : 16 < m
    · rw [if_pos (.inr hm16)]
      go_enter Tryd.func86, Tryd.ntmps86
      go_wp2_with (go_at_call 96; go_fit cA; rintro e w' ⟨rfl, hb⟩)
      go_ret
      exact ⟨rfl, hb⟩
    · rw [if_neg (by omega), if_neg (by omega)]
      obtain ⟨i, rfl⟩ := Int.eq_ofNat_of_zero_le hm1
      rw [Int.toNat_natCast]
      have hil : i < l.length := by omega
      have hic : i ≤ c := by omega
      have hCE := fun (w1 : World) (hb : Below w.heap.size w w1) => cell_at (Kd.C_below HP.out hb) i hil
      obtain ⟨ad, rfl, _⟩ := hCE w (Below.refl _ _)
      have hCE' : ∀ w1, Below w.heap.size w w1 → w1.cell? (ad.add i) = some (.int .u8 (l.getD i 0)) := fun w1 hb => by
        obtain ⟨_, hae, h⟩ := hCE w1 hb
        obtain rfl := Option.some.inj hae
        exact h
      have HCE := Lib.hid hCE'
      clear hCE hCE'
      by_cases h58 : l.getD i 0 = 58
      · have cL := HAL.out i (by omega)
        cases ha : allowed (l.take i)
        · rw [if_pos ⟨hm1, h58, rfl⟩]
          rw [ha] at cL
          rw [h58] at HCE
          go_enter Tryd.func86, Tryd.ntmps86
          go_wp2_with (first
            | (go_at_call 96; go_fit cA; rintro e w' ⟨rfl, hb⟩; have hc1 := HCE.out w' hb)
            | (go_at_call 40; go_fit (cL _ hb); rintro e w' ⟨rfl, hb2⟩))
          go_ret
          exact ⟨rfl, below_then hb hb.size hb2⟩
        · rw [if_neg (by simp)]
          rw [ha] at cL
          rw [h58] at HCE
          go_enter Tryd.func86, Tryd.ntmps86
          go_wp2_with (first
            | (go_at_call 96; go_fit cA; rintro e w' ⟨rfl, hb⟩; have hc1 := HCE.out w' hb)
            | (go_at_call 40; go_fit (cL _ hb); rintro e w' ⟨rfl, hb2⟩))
          go_ret
          exact ⟨rfl, below_then hb hb.size hb2⟩
      · rw [if_neg (fun h => h58 h.2.1)]
        obtain ⟨x, hx⟩ : ∃ x, l.getD i 0 = x := ⟨_, rfl⟩
        rw [hx] at HCE h58
        have h58' : (x == 58) = false := beq_eq_false_iff_ne.2 h58
        clear hx h58
        go_enter Tryd.func86, Tryd.ntmps86
        go_wp2_with (go_at_call 96; go_fit cA; rintro e w' ⟨rfl, hb⟩; have hc1 := HCE.out w' hb)
        go_ret
        exact ⟨rfl, hb⟩
end Go.Proofs.YtdpnnglfaofjeaaDoor.Z
namespace Go.Proofs.YtdpnnglfaofjeaaDoor.Z
open Go.RowKit Go.Lib Go.Proofs.YtdpnnglfaofjeaaDoorW.PrintWords Go.Proofs.YtdpnnglfaofjeaaDoorW.PrintLast Go.Proofs.YtdpnnglfaofjeaaDoorW.PrintMore Go.Proofs.YtdpnnglfaofjeaaDoor.PSc
open Go.Proofs.YtdpnnglfaofjeaaDoor.V (RB only_setCell only_alloc size_set conv_const info5)
set_option linter.unusedVariables false
set_option linter.unusedSimpArgs false
set_option maxRecDepth 1000000
def GateIs (w : World) (F : Nat → Prop) (B g : Nat) (l : List Int) (is : Int) : Prop :=
  F g ∧ ∃ v, w.heap[g]? = some (.cells #[v, .int .i64 is] 82 (0, 0)) ∧ Kd.R (Kd.int .u8) 5 w B (fun k => F k ∧ k ≠ g) v l
def blockedL : List Int := [35, 98, 108, 111, 99, 107, 101, 100]
theorem SchOK.grown {w w1 : World} (h : SchOK w) {g : Nat} (hg : w.grownBy w1 (some g)) (h6 : 6 ≤ g) : SchOK w1 := by
  have hc : ∀ (b o : Nat) (v : Value), b < 6 → w.cell? ⟨b, o, none⟩ = some v → w1.cell? ⟨b, o, none⟩ = some v := fun b o v hb h => by
    have hl := World.block_lt_of_cell? w _ h
    have hbl := hg.block b hl (by intro e; injection e with e; omega)
    unfold World.cell? at *
    simp only at *
    rw [hbl]
    exact h
  obtain ⟨⟨h1, h2⟩, m, h3⟩ := h
  exact ⟨⟨fun p hp => hc _ _ _ (by omega) (h1 p hp), fun i hi => ⟨hc _ _ _ (by omega) (h2 i hi).1, hc _ _ _ (by omega) (h2 i hi).2⟩⟩, m, hc _ _ _ (by omega) h3⟩
def SettleIs (w : World) (F : Nat → Prop) (B g : Nat) (l : List Int) (all : Bool) (e : Ending) (w' : World) : Prop :=
  ∃ u, e = .returned u ∧ w.grownBy w' (some g) ∧
    ((lookV l all = 0 ∧ u = .slice none 0 0 ∧ GateIs w' F B g l 0)
    ∨ (lookV l all = 1 ∧ Kd.R (Kd.int .u8) 5 w' B (fun k => F k ∧ k ≠ g) u l ∧ GateIs w' (fun k => k = g) B g [] 1)
    ∨ (lookV l all = 2 ∧ (∃ b, w.heap.size ≤ b ∧ u = .slice (some ⟨b, 0, none⟩) 8 8 ∧ w'.heap[b]? = some (.cells (nums .u8 blockedL).toArray 5 (8, 9))) ∧ GateIs w' (fun k => k = g) B g [] 2))
theorem lookV_cases (l : List Int) (all : Bool) : lookV l all = 0 ∨ lookV l all = 1 ∨ lookV l all = 2 := by
  unfold lookV
  repeat' split
  all_goals simp
set_option maxHeartbeats 16000000 in
theorem settle_calls (F : Nat → Prop) (B g : Nat) (l : List Int) (is : Int) (all : Bool) (w : World) (hd : GateIs w F B g l is) (hB : ∀ j : Nat, 0 ≤ l.getD j 0 ∧ l.getD j 0 ≤ 255) (hN : l.length ≤ 1099511627776) (hS : SchOK w) :
    Calls Tryd.prog 71 #[.pointer (some ⟨g, 0, none⟩), .bool all] w (SettleIs w F B g l all) := by
  obtain ⟨hF, v0, hg, hr0⟩ := hd
  have hr1 := hr0
  obtain ⟨A0, c0, rfl, hc0, hC0⟩ := Kd.R_reads hr0
  have hcell : w.cell? ⟨g, 0, none⟩ = some (.slice A0 l.length c0) := blk_cell hg 0
  have hcell1 : w.cell? ⟨g, 1, none⟩ = some (.int .i64 is) := blk_cell hg 1
  have hgB : ∀ W : World, Below w.heap.size w W → W.heap[g]? = some (.cells #[.slice A0 l.length c0, .int .i64 is] 82 (0, 0)) := fun W hb => blk_below hg hb
  have cL := look_calls l A0 c0 all w hC0 hB hN hc0 hS
  have hV := lookV_cases l all
  have HGB := Lib.hid hgB
  have HR := Lib.hid hr1
  have HFG := Lib.hid hF
  unfold SettleIs
  generalize lookV l all = V at *
  clear hr0 hr1 hC0 hS hB hgB hF
  rcases hV with rfl | rfl | rfl
  · go_enter Tryd.func71, Tryd.ntmps71
    go_wp2_with (go_at_call 86; go_fit cL; rintro e w1 ⟨rfl, hb⟩; have hg1 := HGB.out w1 hb; have hk0 : w1.cell? ⟨g, 0, none⟩ = some (.slice A0 l.length c0) := blk_cell hg1 0; have hk1 : w1.cell? ⟨g, 1, none⟩ = some (.int .i64 is) := blk_cell hg1 1; have hf0 := blk_frozen hg1 0; have hf1 := blk_frozen hg1 1)
    go_ret
    have hs := blk_set hg1 1 (.int .i64 0)
    refine ⟨_, rfl, only_setCell (grown_of_below hb _) (.inl rfl) _, .inl ⟨trivial, rfl, HFG.out, _, by simpa using hs, ?_⟩⟩
    exact Kd.R_step (Kd.R_below HR.out hb) (fun k hk _ => Below.heap_setCell w1 _ _ k hk.2)
  · go_enter Tryd.func71, Tryd.ntmps71
    go_wp2_with (go_at_call 86; go_fit cL; rintro e w1 ⟨rfl, hb⟩; have hg1 := HGB.out w1 hb; have hk0 : w1.cell? ⟨g, 0, none⟩ = some (.slice A0 l.length c0) := blk_cell hg1 0; have hk1 : w1.cell? ⟨g, 1, none⟩ = some (.int .i64 is) := blk_cell hg1 1; have hf0 := blk_frozen hg1 0; have hf1 := blk_frozen hg1 1)
    go_ret
    have hs := blk_set hg1 1 (.int .i64 1)
    have hs2 := blk_set hs 0 (.slice none 0 0)
    refine ⟨_, rfl, only_setCell (p := ⟨g, 0, none⟩) (only_setCell (p := ⟨g, 1, none⟩) (grown_of_below hb (some g)) (.inl rfl) _) (.inl rfl) _, .inr (.inl ⟨by trivial, ?_, rfl, _, by simpa using hs2, Kd.R_nil _ _ _ _ _⟩)⟩
    exact Kd.R_step (Kd.R_step (Kd.R_below HR.out hb) (fun k hk _ => Below.heap_setCell w1 _ _ k hk.2)) (fun k hk _ => Below.heap_setCell _ _ _ k hk.2)
  · go_enter Tryd.func71, Tryd.ntmps71
    go_wp2_with (go_at_call 86; go_fit cL; rintro e w1 ⟨rfl, hb⟩; have hg1 := HGB.out w1 hb; have hk0 : w1.cell? ⟨g, 0, none⟩ = some (.slice A0 l.length c0) := blk_cell hg1 0; have hk1 : w1.cell? ⟨g, 1, none⟩ = some (.int .i64 is) := blk_cell hg1 1; have hf0 := blk_frozen hg1 0; have hf1 := blk_frozen hg1 1; have kc := conv_const w1 ⟨g, 1, none⟩ (.int .i64 2); have hg2 := blk_alloc (blk_set hg1 1 (.int .i64 2)) (.cells #[.int .u8 35, .int .u8 98, .int .u8 108, .int .u8 111, .int .u8 99, .int .u8 107, .int .u8 101, .int .u8 100] 5 (8, 9)); have hk2 := blk_cell hg2 0; have hf2 := blk_frozen hg2 0)
    go_ret
    have hs2 := blk_set hg2 0 (.slice none 0 0)
    have hn := heap_alloc_new (w1.setCell ⟨g, 1, none⟩ (.int .i64 2)) (.cells #[.int .u8 35, .int .u8 98, .int .u8 108, .int .u8 111, .int .u8 99, .int .u8 107, .int .u8 101, .int .u8 100] 5 (8, 9))
    rw [size_set] at hn
    have hgw : g ≠ w1.heap.size := by have := blk_lt hg1; omega
    refine ⟨_, rfl, only_setCell (p := ⟨g, 0, none⟩) (only_alloc (only_setCell (p := ⟨g, 1, none⟩) (grown_of_below hb (some g)) (.inl rfl) _) _) (.inl rfl) _, .inr (.inr ⟨by trivial, ⟨w1.heap.size, hb.size, rfl, ?_⟩, rfl, _, by simpa using hs2, Kd.R_nil _ _ _ _ _⟩)⟩
    exact (Below.heap_setCell _ _ _ w1.heap.size (fun e => hgw e.symm)).trans hn
end Go.Proofs.YtdpnnglfaofjeaaDoor.Z
namespace Go.Proofs.YtdpnnglfaofjeaaDoor.Z
open Go.RowKit Go.Lib Go.Proofs.YtdpnnglfaofjeaaDoorW.PrintWords Go.Proofs.YtdpnnglfaofjeaaDoorW.PrintLast Go.Proofs.YtdpnnglfaofjeaaDoorW.PrintMore Go.Proofs.YtdpnnglfaofjeaaDoor.PSc
open Go.Proofs.YtdpnnglfaofjeaaDoor.V (RB only_setCell only_alloc size_set conv_const info5 R_empty)
set_option linter.unusedVariables false
set_option linter.unusedSimpArgs false
set_option maxRecDepth 1000000
structure Only (F : Nat → Prop) (w w' : World) : Prop where
  os : w'.os = w.os
  tape : w'.tape = w.tape
  output : w'.output = w.output
  size : w.heap.size ≤ w'.heap.size
  block : ∀ k, k < w.heap.size → ¬ F k → w'.heap[k]? = w.heap[k]?
theorem Only.refl (F : Nat → Prop) (w : World) : Only F w w := ⟨rfl, rfl, rfl, Nat.le_refl _, fun _ _ _ => rfl⟩
theorem Only.of_grown {F : Nat → Prop} {w w' : World} {row : Option Nat} (h : w.grownBy w' row) (hF : ∀ k, row = some k → F k) : Only F w w' :=
  ⟨h.os, h.tape, h.output, h.size, fun k hk hn => h.block k hk (fun e => hn (hF k e.symm))⟩
theorem Only.of_below {F : Nat → Prop} {w w' : World} (h : Below w.heap.size w w') : Only F w w' := .of_grown (grown_of_below h none) (fun k hk => by cases hk)
theorem Only.trans {F F1 : Nat → Prop} {a b c : World} (h : Only F a b) (k : Only F1 b c) (hF : ∀ i, F1 i → F i ∨ a.heap.size ≤ i) : Only F a c :=
  ⟨k.os.trans h.os, k.tape.trans h.tape, k.output.trans h.output, Nat.le_trans h.size k.size, fun i hi hn => (k.block i (Nat.lt_of_lt_of_le hi h.size) (fun e => by
    rcases hF i e with q | q
    · exact hn q
    · omega)).trans (h.block i hi hn)⟩
theorem SchOK.only {w w1 : World} (h : SchOK w) {F : Nat → Prop} (hg : Only F w w1) (h6 : ∀ k, F k → 6 ≤ k) : SchOK w1 := by
  have hc : ∀ (b o : Nat) (v : Value), b < 6 → w.cell? ⟨b, o, none⟩ = some v → w1.cell? ⟨b, o, none⟩ = some v := fun b o v hb h => by
    have hl := World.block_lt_of_cell? w _ h
    have hbl := hg.block b hl (fun e => by have := h6 b e; omega)
    unfold World.cell? at *
    simp only at *
    rw [hbl]
    exact h
  obtain ⟨⟨h1, h2⟩, m, h3⟩ := h
  exact ⟨⟨fun p hp => hc _ _ _ (by omega) (h1 p hp), fun i hi => ⟨hc _ _ _ (by omega) (h2 i hi).1, hc _ _ _ (by omega) (h2 i hi).2⟩⟩, m, hc _ _ _ (by omega) h3⟩
section
variable {ops : Array Oper} {rest : List Oper} {o : Oper} {a : Act} {Q : Exit → Act → World → Prop}
theorem appG {W : World} (hgd : o.guard = none) (s x : Operand) (ho : o.op = .call { callee := .builtin .append, args := #[s, x], argTypes := #[22, 22] })
    (v : Value) (xs ys : List Int) (A : Option Addr) (m c : Nat) (hs : a.eval s = v) (hx : a.eval x = .slice A m c) (B : Nat) (F : Nat → Prop) (hB : B ≤ W.heap.size) (hF : ∀ k, W.heap.size ≤ k → F k)
    (HO : Kd.R (Kd.int .u8) 5 W B F v xs) (HR : Kd.C (Kd.int .u8) W A m ys) (hl : xs.length + m ≤ 140737488355328)
    (h : ∀ v1 w1, Kd.R (Kd.int .u8) 5 w1 B F v1 (xs ++ ys) → W.grownBy w1 v.ownBlock → (v1.ownBlock = v.ownBlock ∨ ∃ b, v1.ownBlock = some b ∧ W.heap.size ≤ b) → wpList Tryd.prog ops Q rest (a.put o.dst v1) w1) :
    wpList Tryd.prog ops Q (o :: rest) a W :=
  Kd.R_append_rows (Kd.int .u8) (w0 := W) B hgd s x 22 5 (.int .u8 0) 1 ho Tryd.underlying22 info5 rfl (by decide) (by omega) v xs ys A m c F (fun _ => False) hs hx
    HO HR (fun _ _ h => h) (fun _ h => h.elim) hF (Below.refl _ _) hB (by omega) (fun v1 w1 h1 _ h3 h4 => h v1 w1 h1 h3 h4)
end
theorem GateIs.lt {w : World} {F : Nat → Prop} {B g : Nat} {l : List Int} {is : Int} (h : GateIs w F B g l is) : g < w.heap.size := by
  obtain ⟨hF, v, hg, hr⟩ := h
  exact blk_lt hg
theorem GateIs.mono {w : World} {F F' : Nat → Prop} {B g : Nat} {l : List Int} {is : Int} (h : GateIs w F B g l is) (hm : ∀ k, F k → F' k) : GateIs w F' B g l is := by
  obtain ⟨hF, v, hg, hr⟩ := h
  exact ⟨hm g hF, v, hg, Kd.R_mono hr (fun k hk => ⟨hm k hk.1, hk.2⟩)⟩
theorem GateIs.step {w w1 : World} {F : Nat → Prop} {B g : Nat} {l : List Int} {is : Int} (h : GateIs w F B g l is) (hm : ∀ k, F k → k < w.heap.size → w1.heap[k]? = w.heap[k]?) : GateIs w1 F B g l is := by
  obtain ⟨hF, v, hg, hr⟩ := h
  exact ⟨hF, v, (hm g hF (blk_lt hg)).trans hg, Kd.R_step hr (fun k hk hl => hm k hk.1 hl)⟩
theorem GateIs.below {w w1 : World} {F : Nat → Prop} {B g : Nat} {l : List Int} {is : Int} (h : GateIs w F B g l is) (hb : Below w.heap.size w w1) : GateIs w1 F B g l is := h.step fun k _ hk => hb.block k hk
theorem gnew_calls (w : World) :
    Calls Tryd.prog 42 #[] w fun e w' => e = .returned (.pointer (some ⟨w.heap.size, 0, none⟩)) ∧ GateIs w' (fun k => k = w.heap.size) w.heap.size w.heap.size [] 0 ∧ Below w.heap.size w w' := by
  go_enter Tryd.func42, Tryd.ntmps42
  go_wp2
  go_ret
  exact ⟨rfl, ⟨rfl, .slice none 0 0, by simpa using heap_alloc_new w (.cells #[.slice none 0 0, .int .i64 0] 82), Kd.R_nil _ _ _ _ _⟩, (Below.refl _ _).alloc (Nat.le_refl _) _⟩
theorem gheld_calls (F : Nat → Prop) (B g : Nat) (l : List Int) (is : Int) (w : World) (hd : GateIs w F B g l is) :
    Calls Tryd.prog 45 #[.pointer (some ⟨g, 0, none⟩)] w fun e w' => e = .returned (.int .i64 (l.length : Int)) ∧ w' = w := by
  obtain ⟨hF, v0, hg, hr0⟩ := hd
  obtain ⟨A0, c0, rfl, hc0, hC0⟩ := Kd.R_reads hr0
  have hcell : w.cell? ⟨g, 0, none⟩ = some (.slice A0 l.length c0) := blk_cell hg 0
  go_enter Tryd.func45, Tryd.ntmps45
  go_wp2
  go_ret
  exact ⟨rfl, rfl⟩
theorem gheld_nil (w : World) : Calls Tryd.prog 45 #[.pointer none] w fun e w' => e = .returned (.int .i64 0) ∧ w' = w := by
  go_enter Tryd.func45, Tryd.ntmps45
  go_wp2
  go_ret
  exact ⟨rfl, rfl⟩
theorem gfeed_stopped (F : Nat → Prop) (B g : Nat) (l : List Int) (A : Option Addr) (n c : Nat) (w : World) (hd : GateIs w F B g l 2) :
    Calls Tryd.prog 44 #[.pointer (some ⟨g, 0, none⟩), .slice A n c] w fun e w' => e = .returned (.slice none 0 0) ∧ w' = w := by
  obtain ⟨hF, v0, hg, hr0⟩ := hd
  have hcell1 : w.cell? ⟨g, 1, none⟩ = some (.int .i64 2) := blk_cell hg 1
  go_enter Tryd.func44, Tryd.ntmps44
  go_wp2
  go_ret
  exact ⟨rfl, rfl⟩
theorem gfeed_passes (F : Nat → Prop) (B g : Nat) (l p : List Int) (A : Option Addr) (c : Nat) (w : World) (hd : GateIs w F B g l 1) (hp : Kd.C (Kd.int .u8) w A p.length p) (hN : p.length ≤ 1099511627776) :
    Calls Tryd.prog 44 #[.pointer (some ⟨g, 0, none⟩), .slice A p.length c] w fun e w' => ∃ u, e = .returned u ∧ Kd.R (Kd.int .u8) 5 w' w.heap.size (fun _ => True) u p ∧ Below w.heap.size w w' := by
  obtain ⟨hF, v0, hg, hr0⟩ := hd
  have hcell1 : w.cell? ⟨g, 1, none⟩ = some (.int .i64 1) := blk_cell hg 1
  have HE := R_empty w w.heap.size (Nat.le_refl _)
  have HBE := (Below.refl w.heap.size w).alloc (Nat.le_refl _) (.cells #[] 5)
  go_enter Tryd.func44, Tryd.ntmps44
  go_wp2_with (at_builtin; refine V.appB (w0 := w) rfl _ (.tmp 21) rfl (.slice none 0 0) [] _ _ _ _ rfl rfl (Kd.R_nil _ _ _ _ _) hp (Below.refl _ _) (by simp; omega) ?_; intro v1 w1 ho1 hb1 _ _)
  go_ret
  exact ⟨_, rfl, by simpa using ho1, hb1⟩
set_option maxHeartbeats 4000000 in
theorem gfeed_unsure (F : Nat → Prop) (B g : Nat) (l p : List Int) (A : Option Addr) (c : Nat) (w : World) (hd : GateIs w F B g l 0) (hp : Kd.C (Kd.int .u8) w A p.length p) (hN : l.length + p.length ≤ 1099511627776)
    (hBy : ∀ j : Nat, 0 ≤ (l ++ p).getD j 0 ∧ (l ++ p).getD j 0 ≤ 255) (hS : SchOK w) (h6 : 6 ≤ B) (hF6 : ∀ k, F k → B ≤ k) (hBw : B ≤ w.heap.size) :
    Calls Tryd.prog 44 #[.pointer (some ⟨g, 0, none⟩), .slice A p.length c] w fun e w' => ∃ w1, Only F w w1 ∧ SettleIs w1 (fun k => F k ∨ w.heap.size ≤ k) B g (l ++ p) false e w' := by
  obtain ⟨hF, v0, hg, hr0⟩ := hd
  have hcell1 : w.cell? ⟨g, 1, none⟩ = some (.int .i64 0) := blk_cell hg 1
  have hcell0 : w.cell? ⟨g, 0, none⟩ = some v0 := blk_cell hg 0
  have hr1 := Kd.R_mono (ok' := fun k => (F k ∨ w.heap.size ≤ k) ∧ k ≠ g) hr0 (fun k hk => ⟨.inl hk.1, hk.2⟩)
  have hgl := blk_lt hg
  have hown := hr0.1
  have hset := fun (w2 : World) (hd2 : GateIs w2 (fun k => F k ∨ w.heap.size ≤ k) B g (l ++ p) 0) (hS2 : SchOK w2) => settle_calls (fun k => F k ∨ w.heap.size ≤ k) B g (l ++ p) 0 false w2 hd2 hBy (by rw [List.length_append]; omega) hS2
  go_enter Tryd.func44, Tryd.ntmps44
  go_wp2_with (at_builtin; refine appG rfl _ (.tmp 28) rfl v0 l p A p.length c rfl rfl B (fun k => (F k ∨ w.heap.size ≤ k) ∧ k ≠ g) hBw (fun k hk => ⟨.inr hk, by omega⟩) hr1 hp (by omega) ?_; intro v1 w1 ho1 hgr1 hat1; obtain ⟨A4, c4, e4⟩ := Kd.R_slice ho1; subst e4; have hg1 := (hgr1.block g hgl (fun e => (hown g e.symm).2 rfl)).trans hg; have hk0 : w1.cell? ⟨g, 0, none⟩ = some v0 := blk_cell hg1 0; have hf0 := blk_frozen hg1 0)
  rw [List.length_append] at ho1
  have hg2 := blk_set hg1 0 (.slice A4 (l.length + p.length) c4)
  have hO : Only F w (w1.setCell ⟨g, 0, none⟩ (.slice A4 (l.length + p.length) c4)) := (Only.of_grown hgr1 (fun k hk => (hown k hk).1)).trans (F1 := fun k => k = g)
    (Only.of_grown (only_setCell (p := ⟨g, 0, none⟩) (World.grownBy.refl w1 (some g)) (.inl rfl) _) (fun k hk => (Option.some.inj hk).symm)) (fun k hk => .inl (hk ▸ hF))
  refine (hset _ ⟨.inl hF, _, by simpa using hg2, Kd.R_step ho1 (fun k hk _ => Below.heap_setCell w1 _ _ k hk.2)⟩ (hS.only hO (fun k hk => Nat.le_trans h6 (hF6 k hk)))).mono ?_
  rintro e w3 ⟨u, rfl, hgr, hc⟩
  go_wp2
  go_ret
  exact ⟨_, hO, u, rfl, hgr, hc⟩
set_option maxHeartbeats 4000000 in
theorem gfinish_sure (F : Nat → Prop) (B g : Nat) (l : List Int) (is : Int) (hi : is ≠ 0) (w : World) (hd : GateIs w F B g l is) :
    Calls Tryd.prog 46 #[.pointer (some ⟨g, 0, none⟩)] w fun e w' => e = .returned (.slice none 0 0) ∧ GateIs w' (fun k => k = g) B g [] 0 ∧ w.grownBy w' (some g) := by
  obtain ⟨hF, v0, hg, hr0⟩ := hd
  have hcell1 : w.cell? ⟨g, 1, none⟩ = some (.int .i64 is) := blk_cell hg 1
  have hcell0 : w.cell? ⟨g, 0, none⟩ = some v0 := blk_cell hg 0
  have hf0 := blk_frozen hg 0
  have hf1 := blk_frozen hg 1
  have hi' : (is == 0) = false := beq_eq_false_iff_ne.2 hi
  go_enter Tryd.func46, Tryd.ntmps46
  go_wp2
  go_ret
  have hs := blk_set (blk_set hg 0 (.slice none 0 0)) 1 (.int .i64 0)
  exact ⟨rfl, ⟨rfl, _, by simpa using hs, Kd.R_nil _ _ _ _ _⟩, only_setCell (p := ⟨g, 1, none⟩) (only_setCell (p := ⟨g, 0, none⟩) (World.grownBy.refl w (some g)) (.inl rfl) _) (.inl rfl) _⟩
theorem lookV_all (l : List Int) : lookV l true ≠ 0 := by
  unfold lookV
  repeat' split
  all_goals simp_all
def FinIs (w : World) (F : Nat → Prop) (B g : Nat) (l : List Int) (e : Ending) (w' : World) : Prop :=
  ∃ u, e = .returned u ∧ w.grownBy w' (some g) ∧ GateIs w' (fun k => k = g) B g [] 0 ∧
    ((lookV l true = 1 ∧ Kd.R (Kd.int .u8) 5 w' B (fun k => F k ∧ k ≠ g) u l)
    ∨ (lookV l true = 2 ∧ ∃ b, w.heap.size ≤ b ∧ u = .slice (some ⟨b, 0, none⟩) 8 8 ∧ w'.heap[b]? = some (.cells (nums .u8 blockedL).toArray 5 (8, 9))))
set_option maxHeartbeats 8000000 in
theorem gfinish_unsure (F : Nat → Prop) (B g : Nat) (l : List Int) (w : World) (hd : GateIs w F B g l 0) (hB : ∀ j : Nat, 0 ≤ l.getD j 0 ∧ l.getD j 0 ≤ 255) (hN : l.length ≤ 1099511627776) (hS : SchOK w) :
    Calls Tryd.prog 46 #[.pointer (some ⟨g, 0, none⟩)] w (FinIs w F B g l) := by
  have hset := settle_calls F B g l 0 true w hd hB hN hS
  obtain ⟨hF, v0, hg, hr0⟩ := hd
  have hcell1 : w.cell? ⟨g, 1, none⟩ = some (.int .i64 0) := blk_cell hg 1
  have hgl := blk_lt hg
  have H0 := Lib.hid (lookV_all l)
  go_enter Tryd.func46, Tryd.ntmps46
  go_wp2_with (go_at_call 71; refine hset.mono ?_; rintro e w1 ⟨u, rfl, hgr, hc⟩
               have hcells : ∃ v1 is1, w1.heap[g]? = some (.cells #[v1, .int .i64 is1] 82 (0, 0)) := by
                 rcases hc with ⟨_, _, _, v1, h, _⟩ | ⟨_, _, _, v1, h, _⟩ | ⟨_, _, _, v1, h, _⟩ <;> exact ⟨v1, _, h⟩
               have HC := Lib.hid hc
               obtain ⟨v1, is1, hg1⟩ := hcells
               have hk0 : w1.cell? ⟨g, 0, none⟩ = some v1 := blk_cell hg1 0
               have hk1 : w1.cell? ⟨g, 1, none⟩ = some (.int .i64 is1) := blk_cell hg1 1
               have hf0 := blk_frozen hg1 0
               have hf1 := blk_frozen hg1 1
               clear hc)
  go_ret
  have hs := blk_set (blk_set hg1 0 (.slice none 0 0)) 1 (.int .i64 0)
  have hfar : ∀ k, k ≠ g → ((w1.setCell ⟨g, 0, none⟩ (.slice none 0 0)).setCell ⟨g, 1, none⟩ (.int .i64 0)).heap[k]? = w1.heap[k]? := fun k hk => (Below.heap_setCell _ _ _ k hk).trans (Below.heap_setCell _ _ _ k hk)
  refine ⟨_, rfl, only_setCell (p := ⟨g, 1, none⟩) (only_setCell (p := ⟨g, 0, none⟩) hgr (.inl rfl) _) (.inl rfl) _, ⟨rfl, _, by simpa using hs, Kd.R_nil _ _ _ _ _⟩, ?_⟩
  rcases HC.out with ⟨h, _⟩ | ⟨h, hr, _⟩ | ⟨h, ⟨b, hb, hu, hbb⟩, _⟩
  · exact absurd h H0.out
  · exact .inl ⟨h, Kd.R_step hr (fun k hk _ => hfar k hk.2)⟩
  · exact .inr ⟨h, b, hb, hu, (hfar b (by omega)).trans hbb⟩
end Go.Proofs.YtdpnnglfaofjeaaDoor.Z
namespace Go.Proofs.YtdpnnglfaofjeaaDoor.Z
open Go.RowKit Go.Lib Go.Proofs.YtdpnnglfaofjeaaDoorW.PrintWords Go.Proofs.YtdpnnglfaofjeaaDoorW.PrintLast Go.Proofs.YtdpnnglfaofjeaaDoorW.PrintMore Go.Proofs.YtdpnnglfaofjeaaDoor.PSc
open Go.Proofs.YtdpnnglfaofjeaaDoor.V (RB RB.of_OB RB.lit only_setCell only_alloc size_set conv_const info5 R_empty)
set_option linter.unusedVariables false
set_option linter.unusedSimpArgs false
set_option maxRecDepth 1000000
theorem run_app_none (w : World) (ty : TypeId) (A : Option Addr) (n c : Nat) (h : n ≤ c) : (Builtin.append_ #[22, 22] ty #[.slice A n c, .slice none 0 0]).run Tryd.prog w = .ok (.slice A n c) w := by
  obtain ⟨i0, hi, hz0, hz1, hz2⟩ := info_parts info5
  have hnc : ¬ c < n := by omega
  cases A <;> simp [Builtin.append_, run_underlying Tryd.underlying22, sizeOf, typeInfo, hi, Builtin.lenOf, Builtin.firstCells, hnc, storeCells, h]
theorem appN {ops : Array Oper} {rest : List Oper} {o : Oper} {a : Act} {Q : Exit → Act → World → Prop} {W : World} (hgd : o.guard = none) (s x : Operand) (ho : o.op = .call { callee := .builtin .append, args := #[s, x], argTypes := #[22, 22] })
    (A : Option Addr) (n c : Nat) (hs : a.eval s = .slice A n c) (hx : a.eval x = .slice none 0 0) (hnc : n ≤ c) (h : wpList Tryd.prog ops Q rest (a.put o.dst (.slice A n c)) W) : wpList Tryd.prog ops Q (o :: rest) a W := by
  refine wpList_plain hgd fun K hK => ?_
  have hrun := run_app_none W o.type A n c hnc
  unfold Oper.wp
  simp [execOp, ho, resolve, invoke, builtin, hs, hx, hrun, Result.andThen]
  exact hK _ _ h
def passL (p : List Int) : List Int := if stopped p = true then blockedL else p
theorem look_two (p : List Int) (all : Bool) : lookV p all = 2 ↔ stopped p = true := by
  unfold lookV stopped
  by_cases h0 : mark p < 0
  · have h1 : ¬ 16 < mark p := by omega
    have h2 : ¬ 0 ≤ mark p := by omega
    by_cases h3 : 16 < (p.length : Int)
    · simp [h0, h1, h3]
    · cases all <;> simp [h0, h1, h2, h3]
  · have h2 : 0 ≤ mark p := by omega
    by_cases h1 : 16 < mark p
    · simp [h0, h1]
    · by_cases h3 : p.getD (mark p).toNat 0 = 58
      · cases h4 : allowed (p.take (mark p).toNat) <;> simp [h0, h1, h2, h3, h4]
      · simp only [h0, h1, h2, h3, false_and, and_false, or_self, if_false, true_and]
        simp
theorem Only.below {F : Nat → Prop} {a b : World} {B : Nat} (h : Only F a b) (hF : ∀ k, F k → B ≤ k) (hB : B ≤ a.heap.size) : Below B a b :=
  ⟨h.os, h.tape, h.output, h.size, fun i hi => h.block i (Nat.lt_of_lt_of_le hi hB) (fun e => by have := hF i e; omega)⟩
theorem SchOK.six {w : World} (h : SchOK w) : 6 ≤ w.heap.size := by
  have := World.block_lt_of_cell? w _ (h.1.2 0 (by omega)).1
  exact this
end Go.Proofs.YtdpnnglfaofjeaaDoor.Z
namespace Go.Proofs.YtdpnnglfaofjeaaDoor.Z
open Go.RowKit Go.Lib Go.Proofs.YtdpnnglfaofjeaaDoorW.PrintWords Go.Proofs.YtdpnnglfaofjeaaDoorW.PrintLast Go.Proofs.YtdpnnglfaofjeaaDoorW.PrintMore Go.Proofs.YtdpnnglfaofjeaaDoor.PSc
open Go.Proofs.YtdpnnglfaofjeaaDoor.V (RB RB.of_OB RB.lit)
set_option linter.unusedVariables false
set_option linter.unusedSimpArgs false
set_option maxRecDepth 1000000
theorem z_string {W : World} {A : Option Addr} {n c : Nat} {l : List Int} (h : Kd.C (Kd.int .u8) W A n l) : (convert 22 9 (.slice A n c)).run Tryd.prog W = .ok (.string (strOfNums l)) W := Kd.C_string (P := Tryd.prog) Tryd.underlying22 Tryd.underlying5 Tryd.underlying9 h
theorem bytes_small (l : List Int) (h : ∀ x ∈ l, 0 ≤ x ∧ x ≤ 255) : ∀ j : Nat, 0 ≤ l.getD j 0 ∧ l.getD j 0 ≤ 255 := by
  intro j
  by_cases hj : j < l.length
  · rw [List.getD_eq_getElem?_getD, List.getElem?_eq_getElem hj]
    exact h _ (List.getElem_mem hj)
  · rw [List.getD_eq_getElem?_getD, List.getElem?_eq_none (by omega)]
    simp
end Go.Proofs.YtdpnnglfaofjeaaDoor.Z
namespace Go.Proofs.YtdpnnglfaofjeaaDoor.Z
open Go.RowKit Go.Lib Go.Proofs.YtdpnnglfaofjeaaDoorW.PrintWords
set_option linter.unusedVariables false
set_option linter.unusedSimpArgs false
theorem getD_app_left (l t : List Int) (j : Nat) (h : j < l.length) : (l ++ t).getD j 0 = l.getD j 0 := by
  simp [List.getD_eq_getElem?_getD, List.getElem?_append_left h]
end Go.Proofs.YtdpnnglfaofjeaaDoor.Z
namespace Go.Proofs.YtdpnnglfaofjeaaDoor.Z
open Go.RowKit Go.Lib Go.Proofs.YtdpnnglfaofjeaaDoorW.PrintWords Go.Proofs.YtdpnnglfaofjeaaDoorW.PrintLast Go.Proofs.YtdpnnglfaofjeaaDoorW.PrintMore Go.Proofs.YtdpnnglfaofjeaaDoor.PSc
open Go.Proofs.YtdpnnglfaofjeaaDoor.V (RB RB.of_OB RB.lit)
set_option linter.unusedVariables false
set_option linter.unusedSimpArgs false
set_option maxRecDepth 1000000
theorem pass_length (p : List Int) : (passL p).length ≤ p.length + 8 := by
  unfold passL
  split
  · simp [blockedL]
  · omega
end Go.Proofs.YtdpnnglfaofjeaaDoor.Z
namespace Go.Proofs.YtdpnnglfaofjeaaDoor.Z
open Go.RowKit Go.Lib Go.Proofs.YtdpnnglfaofjeaaDoorW.PrintWords Go.Proofs.YtdpnnglfaofjeaaDoorW.PrintLast Go.Proofs.YtdpnnglfaofjeaaDoorW.PrintMore Go.Proofs.YtdpnnglfaofjeaaDoor.PSc
open Go.Proofs.YtdpnnglfaofjeaaDoor.V (RB RB.of_OB RB.lit only_setCell only_alloc size_set conv_const info5 R_empty)
set_option linter.unusedVariables false
set_option linter.unusedSimpArgs false
set_option maxRecDepth 1000000
def sureG (s : List Int) : Bool := decide (0 ≤ mark s) || decide ((s.length : Int) > 16)
def isG (s : List Int) : Int := if sureG s = true then (if stopped s = true then 2 else 1) else 0
def heldG (s : List Int) : List Int := if sureG s = true then [] else s
def outG (s p : List Int) : List Int := if sureG (s ++ p) = true then (if sureG s = true then (if stopped s = true then [] else p) else passL (s ++ p)) else []
theorem sure_iff (s : List Int) : sureG s = true ↔ 0 ≤ mark s ∨ 16 < (s.length : Int) := by unfold sureG; rw [Bool.or_eq_true, decide_eq_true_iff, decide_eq_true_iff]
theorem unsure_iff (s : List Int) : sureG s = false ↔ mark s < 0 ∧ (s.length : Int) ≤ 16 := by
  rw [← Bool.not_eq_true, sure_iff]; omega
theorem mark_app (s t : List Int) (h : 0 ≤ mark s) : mark (s ++ t) = mark s := by
  rcases mark_is s with ⟨e, _⟩ | ⟨i, e, hi, hs, hn⟩
  · omega
  · rw [e]
    exact (mark_is (s ++ t)).unique (.inr ⟨i, rfl, by rw [List.length_append]; omega, by rw [getD_app_left _ _ _ hi]; exact hs, fun j hj => by rw [getD_app_left _ _ _ (by omega)]; exact hn j hj⟩)
theorem mark_app_none (s t : List Int) (h : mark s < 0) : mark (s ++ t) < 0 ∨ (s.length : Int) ≤ mark (s ++ t) := by
  rcases mark_is s with ⟨_, hn⟩ | ⟨i, e, _⟩
  · rcases mark_is (s ++ t) with ⟨e, _⟩ | ⟨i, e, hi, hs, _⟩
    · left; omega
    · right
      rw [e]
      by_cases hl : i < s.length
      · rw [getD_app_left _ _ _ hl] at hs; exact absurd hs (hn i hl)
      · omega
  · omega
theorem sure_app (s t : List Int) (h : sureG s = true) : sureG (s ++ t) = true := by
  rw [sure_iff] at *
  rw [List.length_append]
  rcases h with h | h
  · left; rw [mark_app s t h]; exact h
  · right; omega
theorem unsure_free (s : List Int) (h : sureG s = false) : stopped s = false := by
  rw [unsure_iff] at h
  unfold stopped
  rw [if_pos h.1]
  simp; omega
theorem stopped_app (s t : List Int) (h : sureG s = true) : stopped (s ++ t) = stopped s := by
  rw [sure_iff] at h
  by_cases h0 : 0 ≤ mark s
  · have hm := mark_lt s
    unfold stopped
    rw [mark_app s t h0]
    obtain ⟨i, hi⟩ := Int.eq_ofNat_of_zero_le h0
    have hn : ¬ ((i : Int) < 0) := by omega
    rw [hi, Int.toNat_natCast, if_neg hn, if_neg hn, getD_app_left _ _ _ (by omega), List.take_append_of_le_length (by omega)]
  · have h1 : 16 < (s.length : Int) := by omega
    have e1 : stopped s = true := by
      unfold stopped
      rw [if_pos (by omega)]
      simpa using h1
    rw [e1]
    unfold stopped
    rw [List.length_append]
    rcases mark_app_none s t (by omega) with h2 | h2
    · rw [if_pos h2]
      simp; omega
    · rw [if_neg (by omega), if_pos (by omega)]
theorem look_zero (p : List Int) : lookV p false = 0 ↔ sureG p = false := by
  rw [unsure_iff]
  unfold lookV
  by_cases h0 : mark p < 0
  · by_cases h3 : 16 < (p.length : Int)
    · simp [h0, h3]
    · have h1 : ¬ 16 < mark p := by omega
      simp [h0, h1, h3]
      omega
  · have h2 : 0 ≤ mark p := by omega
    simp only [h0, false_and, false_or, if_false, iff_false]
    repeat' split
    all_goals decide
theorem sure_of_stopped (s : List Int) (h : stopped s = true) : sureG s = true := by
  cases hs : sureG s
  · rw [unsure_free s hs] at h; cases h
  · rfl
def wantL (s : List Int) : List Int := if sureG s = true then passL s else []
theorem out_want (s p : List Int) : outG s p = (wantL (s ++ p)).drop (wantL s).length ∧ (wantL s).length ≤ (wantL (s ++ p)).length := by
  unfold outG wantL
  cases h1 : sureG s
  · cases h2 : sureG (s ++ p) <;> simp
  · rw [sure_app s p h1]
    unfold passL
    rw [stopped_app s p h1]
    cases h3 : stopped s <;> simp
theorem out_len (s p : List Int) : (outG s p).length ≤ s.length + p.length + 8 := by
  unfold outG
  split
  · split
    · split
      · simp
      · omega
    · have := pass_length (s ++ p)
      rw [List.length_append] at this
      omega
  · simp
def GateG (w : World) (F : Nat → Prop) (B g : Nat) (s : List Int) : Prop := GateIs w F B g (heldG s) (isG s)
theorem GateG.below {w w1 : World} {F : Nat → Prop} {B g : Nat} {s : List Int} (h : GateG w F B g s) (hb : Below w.heap.size w w1) : GateG w1 F B g s := GateIs.below h hb
theorem GateG.mono {w : World} {F F' : Nat → Prop} {B g : Nat} {s : List Int} (h : GateG w F B g s) (hm : ∀ k, F k → F' k) : GateG w F' B g s := GateIs.mono h hm
theorem GateG.step {w w1 : World} {F : Nat → Prop} {B g : Nat} {s : List Int} (h : GateG w F B g s) (hm : ∀ k, F k → k < w.heap.size → w1.heap[k]? = w.heap[k]?) : GateG w1 F B g s := GateIs.step h hm
theorem heldG_nil : heldG [] = [] := by decide
theorem isG_nil : isG [] = 0 := by decide
def FeedG (w : World) (F : Nat → Prop) (B g : Nat) (s p : List Int) (e : Ending) (w' : World) : Prop :=
  ∃ A c, e = .returned (.slice A (outG s p).length c) ∧ (outG s p).length ≤ c ∧ Kd.C (Kd.int .u8) w' A (outG s p).length (outG s p) ∧ GateG w' F B g (s ++ p) ∧ Only F w w' ∧ (sureG (s ++ p) = false → A = none ∧ c = 0) ∧ (∀ W : World, w'.grownBy W (some g) → Kd.C (Kd.int .u8) W A (outG s p).length (outG s p))
theorem C_nil (w : World) : Kd.C (Kd.int .u8) w none ([] : List Int).length [] := (Kd.R_reads' (Kd.R_nil (Kd.int .u8) 5 w 0 (fun _ => True))).2.2
set_option maxHeartbeats 4000000 in
theorem feedG_calls (F : Nat → Prop) (B g : Nat) (s p : List Int) (A : Option Addr) (c : Nat) (w : World) (hd : GateG w F B g s) (hp : Kd.C (Kd.int .u8) w A p.length p) (hN : s.length + p.length ≤ 1099511627776)
    (hBs : ∀ j : Nat, 0 ≤ s.getD j 0 ∧ s.getD j 0 ≤ 255) (hBp : ∀ j : Nat, 0 ≤ p.getD j 0 ∧ p.getD j 0 ≤ 255) (hS : SchOK w) (h6 : 6 ≤ B) (hFB : ∀ k, F k → B ≤ k) (hBw : B ≤ w.heap.size) (hFn : ∀ k, w.heap.size ≤ k → F k) :
    Calls Tryd.prog 44 #[.pointer (some ⟨g, 0, none⟩), .slice A p.length c] w (FeedG w F B g s p) := by
  have hd0 := hd
  unfold GateG heldG isG at hd
  cases h1 : sureG s
  · rw [h1] at hd
    simp only [Bool.false_eq_true, if_false] at hd
    have hBy : ∀ j : Nat, 0 ≤ (s ++ p).getD j 0 ∧ (s ++ p).getD j 0 ≤ 255 := fun j => by
      by_cases hj : j < s.length
      · rw [getD_app_left _ _ _ hj]; exact hBs j
      · rw [List.getD_eq_getElem?_getD, List.getElem?_append_right (by omega), ← List.getD_eq_getElem?_getD]; exact hBp _
    refine (gfeed_unsure F B g s p A c w hd hp hN hBy hS h6 hFB hBw).mono ?_
    rintro e w' ⟨w1, hO, u, rfl, hgr, hc⟩
    have hg : F g := hd.1
    have hO2 : Only F w w' := hO.trans (F1 := fun k => k = g) (Only.of_grown hgr (fun k hk => (Option.some.inj hk).symm)) (fun k hk => .inl (hk ▸ hg))
    have hgl := hd.lt
    rcases hc with ⟨hv, rfl, hd3⟩ | ⟨hv, hr, hd3⟩ | ⟨hv, ⟨b, hbb, rfl, hbc⟩, hd3⟩
    · have h2 := (look_zero _).1 hv
      have eo : outG s p = [] := by unfold outG; rw [h2]; simp
      unfold FeedG
      rw [eo]
      refine ⟨none, 0, rfl, Nat.le_refl _, C_nil _, ?_, hO2, fun _ => ⟨rfl, rfl⟩, fun W _ => C_nil W⟩
      unfold GateG heldG isG
      rw [h2]
      exact hd3.mono (fun k hk => hk.elim id (hFn k))
    · have h2 : sureG (s ++ p) = true := by
        cases h : sureG (s ++ p)
        · rw [(look_zero _).2 h] at hv; cases hv
        · rfl
      have h3 : stopped (s ++ p) = false := by
        cases h : stopped (s ++ p)
        · rfl
        · rw [(look_two _ false).2 h] at hv; cases hv
      have eo : outG s p = s ++ p := by unfold outG passL; rw [h2, h1, h3]; simp
      unfold FeedG
      rw [eo]
      obtain ⟨A4, c4, rfl, hc4, hC4⟩ := Kd.R_reads hr
      refine ⟨A4, c4, rfl, hc4, hC4, ?_, hO2, (fun h => by rw [h2] at h; cases h), fun W hW => ?_⟩
      · unfold GateG heldG isG
        rw [h2, h3]
        exact hd3.mono (fun k hk => hk ▸ hg)
      · exact (Kd.R_reads' (Kd.R_step hr (fun k hk hl => hW.block k hl (fun e => hk.2 (Option.some.inj e))))).2.2
    · have h3 := (look_two _ false).1 hv
      have h2 := sure_of_stopped _ h3
      have eo : outG s p = blockedL := by unfold outG passL; rw [h2, h1, h3]; simp
      unfold FeedG
      rw [eo]
      obtain ⟨A4, c4, h4, hc4, hF4⟩ := RB.lit (B := 0) (l := blockedL) (c := 8) hbc (Nat.zero_le _) (by decide) (Nat.le_refl _)
      injection h4 with e1 e2 e3
      subst e1
      subst e3
      refine ⟨_, _, rfl, hc4, Kd.F_now hF4, ?_, hO2, (fun h => by rw [h2] at h; cases h), fun W hW => ?_⟩
      · unfold GateG heldG isG
        rw [h2, h3]
        exact hd3.mono (fun k hk => hk ▸ hg)
      · have hbl := blk_lt hbc
        have hs1 := hO.size
        have hbW := (hW.block b hbl (fun e => by injection e with e; omega)).trans hbc
        obtain ⟨A5, c5, h5, hc5, hF5⟩ := RB.lit (B := 0) (l := blockedL) (c := 8) hbW (Nat.zero_le _) (by decide) (Nat.le_refl _)
        injection h5 with e1 e2 e3
        subst e1
        exact Kd.F_now hF5
  · have h2 := sure_app s p h1
    have h3 := stopped_app s p h1
    rw [h1] at hd
    simp only [if_true] at hd
    cases h4 : stopped s
    · rw [h4] at hd h3
      refine (gfeed_passes F B g [] p A c w hd hp (by omega)).mono ?_
      rintro e w' ⟨u, rfl, hr, hb⟩
      have eo : outG s p = p := by unfold outG; rw [h2, h1, h4]; simp
      unfold FeedG
      rw [eo]
      obtain ⟨A4, c4, rfl, hc4, hC4⟩ := Kd.R_reads hr
      have hgl := hd.lt
      have hown : ∀ q, (Value.slice A4 p.length c4).ownBlock = some q → w.heap.size ≤ q := fun q hq => Kd.R_base hr q hq
      refine ⟨A4, c4, rfl, hc4, hC4, ?_, Only.of_below hb, (fun h => by rw [h2] at h; cases h), fun W hW => ?_⟩
      · unfold GateG heldG isG
        rw [h2, h3]
        exact hd.below hb
      · exact (Kd.R_reads' (Kd.R_grown2 hr rfl hW (fun q hq e => by injection hq with hq; subst hq; have := hown _ e.symm; omega))).2.2
    · rw [h4] at hd h3
      refine (gfeed_stopped F B g [] A p.length c w hd).mono ?_
      rintro e w' ⟨rfl, rfl⟩
      have eo : outG s p = [] := by unfold outG; rw [h2, h1, h4]; simp
      unfold FeedG
      rw [eo]
      refine ⟨none, 0, rfl, Nat.le_refl _, C_nil _, ?_, Only.refl _ _, (fun h => by rw [h2] at h; cases h), fun W _ => C_nil W⟩
      unfold GateG heldG isG
      rw [h2, h3]
      exact hd
def FinG (w : World) (F : Nat → Prop) (B g : Nat) (s : List Int) (e : Ending) (w' : World) : Prop :=
  ∃ A c, e = .returned (.slice A (heldG s).length c) ∧ (heldG s).length ≤ c ∧ Kd.C (Kd.int .u8) w' A (heldG s).length (heldG s) ∧ GateG w' (fun k => k = g) B g [] ∧ w.grownBy w' (some g) ∧ (sureG s = true → A = none ∧ c = 0)
set_option maxHeartbeats 4000000 in
theorem finG_calls (F : Nat → Prop) (B g : Nat) (s : List Int) (w : World) (hd : GateG w F B g s) (hBs : ∀ j : Nat, 0 ≤ s.getD j 0 ∧ s.getD j 0 ≤ 255) (hN : s.length ≤ 1099511627776) (hS : SchOK w) :
    Calls Tryd.prog 46 #[.pointer (some ⟨g, 0, none⟩)] w (FinG w F B g s) := by
  unfold GateG at hd
  cases h1 : sureG s
  · have e1 : heldG s = s := by unfold heldG; rw [h1]; simp
    have e2 : isG s = 0 := by unfold isG; rw [h1]; simp
    rw [e1, e2] at hd
    unfold FinG
    rw [e1]
    refine (gfinish_unsure F B g s w hd hBs hN hS).mono ?_
    rintro e w' ⟨u, rfl, hgr, hd3, hc⟩
    rcases hc with ⟨hv, hr⟩ | ⟨hv, _⟩
    · obtain ⟨A4, c4, rfl, hc4, hC4⟩ := Kd.R_reads hr
      refine ⟨A4, c4, rfl, hc4, hC4, ?_, hgr, fun h => by rw [h1] at h; cases h⟩
      unfold GateG
      rw [heldG_nil, isG_nil]
      exact hd3
    · have := (look_two _ true).1 hv
      rw [unsure_free s h1] at this
      cases this
  · have e1 : heldG s = [] := by unfold heldG; rw [h1]; simp
    rw [e1] at hd
    have hi : isG s ≠ 0 := by unfold isG; rw [h1]; cases stopped s <;> decide
    unfold FinG
    rw [e1]
    refine (gfinish_sure F B g [] (isG s) hi w hd).mono ?_
    rintro e w' ⟨rfl, hd3, hgr⟩
    refine ⟨none, 0, rfl, Nat.le_refl _, C_nil _, ?_, hgr, fun _ => ⟨rfl, rfl⟩⟩
    unfold GateG
    rw [heldG_nil, isG_nil]
    exact hd3
theorem heldG_calls (F : Nat → Prop) (B g : Nat) (s : List Int) (w : World) (hd : GateG w F B g s) :
    Calls Tryd.prog 45 #[.pointer (some ⟨g, 0, none⟩)] w fun e w' => e = .returned (.int .i64 ((heldG s).length : Int)) ∧ w' = w := gheld_calls F B g (heldG s) (isG s) w hd
end Go.Proofs.YtdpnnglfaofjeaaDoor.Z
namespace Go.Proofs.YtdpnnglfaofjeaaDoor.Y
open Go.RowKit Go.Proofs.YtdpnnglfaofjeaaDoorW.PrintWords Go.Proofs.YtdpnnglfaofjeaaDoorW.PrintLast Go.Proofs.YtdpnnglfaofjeaaDoorW.PrintMore
open Go.Proofs.YtdpnnglfaofjeaaDoor.V (RB RB.of_OB RB.lit info5 runeOf run rest3 clean chars DecIs IsB fffd)
open Go.Proofs.YtdpnnglfaofjeaaDoor.Z (GateG GateIs FeedG FinG Only outG heldG wantL sureG passL SchOK blockedL)
set_option linter.unusedVariables false
set_option linter.unusedSimpArgs false
set_option maxRecDepth 1000000
def Valid (x : List Int) : Prop := clean x = x ∧ IsB x
theorem Valid.flat {x : List Int} (h : Valid x) : (chars x).flatten = x := by rw [← V.clean_chars, h.1]
theorem Valid.form {x : List Int} (h : Valid x) : ∀ ch ∈ chars x, V.Form ch := V.form_chars x h.2
theorem Valid.nil : Valid [] := ⟨V.clean_nil, by intro x hx; simp at hx⟩
theorem Valid.app {x y : List Int} (hx : Valid x) (hy : Valid y) : Valid (x ++ y) := by
  refine ⟨?_, ?_⟩
  · have := V.clean_clean x y
    rw [hx.1, hy.1] at this
    exact this
  · intro z hz
    rcases List.mem_append.1 hz with h | h
    · exact hx.2 z h
    · exact hy.2 z h
theorem Valid.of_clean {l : List Int} (h : IsB l) : Valid (clean l) := ⟨V.clean_idem l, (V.isB_clean l h).1⟩
theorem isB_take {l : List Int} (h : IsB l) (n : Nat) : IsB (l.take n) := fun x hx => h x (List.mem_of_mem_take hx)
theorem isB_drop {l : List Int} (h : IsB l) (n : Nat) : IsB (l.drop n) := fun x hx => h x (List.mem_of_mem_drop hx)
theorem isB_app {a b : List Int} (ha : IsB a) (hb : IsB b) : IsB (a ++ b) := fun x hx => (List.mem_append.1 hx).elim (ha x) (hb x)
theorem Valid.run {l : List Int} (h : IsB l) : Valid (run l).1 := by
  rw [← V.clean_sure l]
  exact Valid.of_clean (isB_take h _)
theorem isB_rest {l : List Int} (h : IsB l) : IsB (run l).2 := by rw [V.run_rest l]; exact isB_drop h _
theorem Valid.fffd : Valid fffd := ⟨by have := V.clean_clean [255] []; decide +kernel, V.isB_fffd⟩
theorem Valid.rest3 (l : List Int) : Valid (rest3 l) := by
  unfold V.rest3
  split
  · exact Valid.fffd
  · exact Valid.nil
theorem Valid.blocked : Valid blockedL := ⟨by decide +kernel, by intro x hx; revert x; decide⟩
theorem Valid.pass {x : List Int} (h : Valid x) : Valid (passL x) := by
  unfold Z.passL
  split
  · exact Valid.blocked
  · exact h
theorem Valid.want {x : List Int} (h : Valid x) : Valid (wantL x) := by
  unfold Z.wantL
  split
  · exact h.pass
  · exact Valid.nil
theorem Valid.out {s p : List Int} (hs : Valid s) (hp : Valid p) : Valid (outG s p) := by
  unfold Z.outG
  split
  · split
    · split
      · exact Valid.nil
      · exact hp
    · exact (hs.app hp).pass
  · exact Valid.nil
theorem Valid.held {s : List Int} (hs : Valid s) : Valid (heldG s) := by
  unfold Z.heldG
  split
  · exact Valid.nil
  · exact hs
theorem isB_small {l : List Int} (h : IsB l) : ∀ j : Nat, 0 ≤ l.getD j 0 ∧ l.getD j 0 ≤ 255 := Z.bytes_small l h
def unitsOf (k : Int) (x : List Int) : List (List Int) := unitsE k (chars x)
theorem unitsOf_app (k : Int) {a : List Int} (b : List Int) (ha : Valid a) : unitsOf k (a ++ b) = unitsOf k a ++ unitsOf k b := by
  unfold unitsOf unitsE
  have := V.chars_clean a b
  rw [ha.1] at this
  rw [this, List.map_append]
theorem unitsOf_nil (k : Int) : unitsOf k [] = [] := by unfold unitsOf unitsE; rw [V.chars_nil]; rfl
theorem unitsOf_len (k : Int) {x : List Int} (h : Valid x) : (unitsOf k x).length ≤ x.length := by
  unfold unitsOf unitsE
  rw [List.length_map]
  have := V.flatten_ge (chars x) h.form
  rw [h.flat] at this
  exact this
def letE (k : Int) (s o : List Int) : List Int := if k = 4 then outG s o else o
def wantE (k : Int) (s : List Int) : List Int := if k = 4 then wantL s else s
def restE (k : Int) (s : List Int) : List Int := if k = 4 then heldG s else []
def fullE (k : Int) (s : List Int) : List Int := if k = 4 then passL s else s
theorem Valid.let (k : Int) {s o : List Int} (hs : Valid s) (ho : Valid o) : Valid (letE k s o) := by
  unfold letE
  split
  · exact hs.out ho
  · exact ho
theorem Valid.wantE (k : Int) {s : List Int} (hs : Valid s) : Valid (wantE k s) := by
  unfold Y.wantE
  split
  · exact hs.want
  · exact hs
theorem Valid.restE (k : Int) {s : List Int} (hs : Valid s) : Valid (restE k s) := by
  unfold Y.restE
  split
  · exact hs.held
  · exact Valid.nil
theorem want_out (s p : List Int) : wantL s ++ outG s p = wantL (s ++ p) := by
  have h := Z.out_want s p
  unfold wantL at *
  cases h1 : sureG s
  · rw [h.1, h1]; simp
  · rw [h.1, h1, Z.sure_app s p h1]
    simp only [if_true]
    unfold passL
    rw [Z.stopped_app s p h1]
    cases h3 : Z.stopped s <;> simp
theorem want_all (p : List Int) : wantL p ++ heldG p = passL p := by
  unfold wantL heldG
  cases h : sureG p
  · unfold passL; rw [Z.unsure_free p h]; simp
  · simp
theorem want_let (k : Int) (s o : List Int) : wantE k s ++ letE k s o = wantE k (s ++ o) := by
  unfold wantE letE
  split
  · exact want_out s o
  · rfl
theorem want_rest (k : Int) (s : List Int) : wantE k s ++ restE k s = fullE k s := by
  unfold wantE restE fullE
  split
  · exact want_all s
  · simp
def EscIs (w : World) (P : Nat → Prop) (B e : Nat) (k : Int) (S : List Int) : Prop :=
  ∃ (d : Nat) (gp : Value) (D : Nat → Prop), P e ∧ w.heap[e]? = some (.cells #[.int .u8 k, .pointer (some ⟨d, 0, none⟩), gp] 68 (0, 0)) ∧ DecIs w D d (run S).2 ∧ (∀ x, D x → P x ∧ x ≠ e) ∧
    ((k ≠ 4 ∧ gp = .pointer none) ∨ (k = 4 ∧ ∃ (g : Nat) (G : Nat → Prop), gp = .pointer (some ⟨g, 0, none⟩) ∧ GateG w G B g (run S).1 ∧ ∀ x, G x → P x ∧ x ≠ e ∧ ¬ D x))
theorem EscIs.mono {w : World} {P P' : Nat → Prop} {B e : Nat} {k : Int} {S : List Int} (h : EscIs w P B e k S) (hm : ∀ x, P x → P' x) : EscIs w P' B e k S := by
  obtain ⟨d, gp, D, hP, he, hd, hD, hg⟩ := h
  refine ⟨d, gp, D, hm e hP, he, hd, fun x hx => ⟨hm x (hD x hx).1, (hD x hx).2⟩, ?_⟩
  rcases hg with hg | ⟨hk, g, G, hgp, hG, hx⟩
  · exact .inl hg
  · exact .inr ⟨hk, g, G, hgp, hG, fun x h => ⟨hm x (hx x h).1, (hx x h).2⟩⟩
theorem EscIs.step {w w1 : World} {P : Nat → Prop} {B e : Nat} {k : Int} {S : List Int} (h : EscIs w P B e k S) (hm : ∀ x, P x → x < w.heap.size → w1.heap[x]? = w.heap[x]?) : EscIs w1 P B e k S := by
  obtain ⟨d, gp, D, hP, he, hd, hD, hg⟩ := h
  refine ⟨d, gp, D, hP, (hm e hP (blk_lt he)).trans he, hd.step (fun x hx hl => hm x (hD x hx).1 hl), hD, ?_⟩
  rcases hg with hg | ⟨hk, g, G, hgp, hG, hx⟩
  · exact .inl hg
  · exact .inr ⟨hk, g, G, hgp, hG.step (fun x h hl => hm x (hx x h).1 hl), hx⟩
theorem gate_bound {w : World} {F : Nat → Prop} {B g : Nat} {s : List Int} (h : GateG w F B g s) : GateG w (fun x => F x ∧ x < w.heap.size) B g s := by
  obtain ⟨hF, v, hg, hr⟩ := h
  exact ⟨⟨hF, blk_lt hg⟩, v, hg, Kd.R_mono (Kd.R_bound hr) (fun k hk => ⟨⟨hk.1.1, hk.2.2.1⟩, hk.1.2⟩)⟩
theorem EscIs.bound {w : World} {P : Nat → Prop} {B e : Nat} {k : Int} {S : List Int} (h : EscIs w P B e k S) : EscIs w (fun x => P x ∧ x < w.heap.size) B e k S := by
  obtain ⟨d, gp, D, hP, he, hd, hD, hg⟩ := h
  refine ⟨d, gp, fun x => D x ∧ x < w.heap.size, ⟨hP, blk_lt he⟩, he, hd.bound, fun x hx => ⟨⟨(hD x hx.1).1, hx.2⟩, (hD x hx.1).2⟩, ?_⟩
  rcases hg with hg | ⟨hk, g, G, hgp, hG, hx⟩
  · exact .inl hg
  · exact .inr ⟨hk, g, fun x => G x ∧ x < w.heap.size, hgp, gate_bound hG, fun x h => ⟨⟨(hx x h.1).1, h.2⟩, (hx x h.1).2.1, fun hd => (hx x h.1).2.2 hd.1⟩⟩
theorem EscIs.below {w w1 : World} {P : Nat → Prop} {B e : Nat} {k : Int} {S : List Int} (h : EscIs w P B e k S) (hb : Below w.heap.size w w1) : EscIs w1 P B e k S := h.step fun x _ hx => hb.block x hx
theorem EscIs.lt {w : World} {P : Nat → Prop} {B e : Nat} {k : Int} {S : List Int} (h : EscIs w P B e k S) : e < w.heap.size := by
  obtain ⟨d, gp, D, hP, he, _⟩ := h
  exact blk_lt he
end Go.Proofs.YtdpnnglfaofjeaaDoor.Y
namespace Go.Proofs.YtdpnnglfaofjeaaDoor.Y
open Go.RowKit Go.Proofs.YtdpnnglfaofjeaaDoorW.PrintWords Go.Proofs.YtdpnnglfaofjeaaDoorW.PrintLast Go.Proofs.YtdpnnglfaofjeaaDoorW.PrintMore
open Go.Proofs.YtdpnnglfaofjeaaDoor.V (RB RB.of_OB RB.lit info5 runeOf run rest3 clean chars DecIs IsB fffd only_setCell)
open Go.Proofs.YtdpnnglfaofjeaaDoor.Z (GateG GateIs FeedG FinG Only outG heldG wantL sureG passL SchOK blockedL)
set_option linter.unusedVariables false
set_option linter.unusedSimpArgs false
set_option maxRecDepth 1000000
theorem gate_lower {w : World} {F : Nat → Prop} {B B' g : Nat} {l : List Int} {is : Int} (h : GateIs w F B g l is) (hB : B' ≤ B) : GateIs w F B' g l is := by
  obtain ⟨hF, v, hg, hr⟩ := h
  exact ⟨hF, v, hg, Kd.R_lower hr hB⟩
theorem run_nil : run [] = ([], []) := V.run_nil
def NewIs (w : World) (k : Int) (e : Ending) (w' : World) : Prop :=
  ∃ b, e = .returned (.tuple #[.pointer (some ⟨b, 0, none⟩), .int .i64 0]) ∧ EscIs w' (fun x => w.heap.size ≤ x) w.heap.size b k [] ∧ Below w.heap.size w w'
set_option maxHeartbeats 4000000 in
theorem new_calls (k : Int) (hk : 1 ≤ k ∧ k ≤ 10) (w : World) : Calls Tryd.prog 49 #[.int .u8 k] w (NewIs w k) := by
  have hk1 : ¬ k < 1 := by omega
  have hk2 : ¬ 10 < k := by omega
  by_cases h4 : k = 4
  · subst h4
    go_enter Tryd.func49, Tryd.ntmps49
    go_wp2_with fail
    refine (V.new_calls w).mono ?_
    rintro e w1 ⟨rfl, hd1, hb1⟩
    have hd := hd1.bound
    have hdl := hd1.lt
    have hn := heap_alloc_new w1 (.cells #[.int .u8 4, .pointer (some ⟨w.heap.size, 0, none⟩), .pointer none] 68)
    have hd2 := hd.alloc (.cells #[.int .u8 4, .pointer (some ⟨w.heap.size, 0, none⟩), .pointer none] 68)
    have hb2 := hb1.alloc hb1.size (.cells #[.int .u8 4, .pointer (some ⟨w.heap.size, 0, none⟩), .pointer none] 68)
    clear hd1 hd
    go_wp2_with fail
    refine (Z.gnew_calls _).mono ?_
    rintro e w3 ⟨rfl, hd3, hb3⟩
    have hn3 := (hb3.block w1.heap.size (by simp)).trans hn
    have hc := blk_cell hn3 2
    have hf := blk_frozen hn3 2
    have hdd := hd2.below hb3
    have hbb := below_then hb2 hb2.size hb3
    have hsz : (w1.alloc (.cells #[.int .u8 4, .pointer (some ⟨w.heap.size, 0, none⟩), .pointer none] 68)).heap.size = w1.heap.size + 1 := by simp
    rw [hsz] at hd3
    simp at hc
    go_wp2_with fail
    go_ret2
    have hset := blk_set hn3 2 (.pointer (some ⟨w1.heap.size + 1, 0, none⟩))
    refine ⟨w1.heap.size, by first | rfl | simp, ⟨w.heap.size, .pointer (some ⟨w1.heap.size + 1, 0, none⟩), (fun x => w.heap.size ≤ x ∧ x < w1.heap.size), hb1.size, ?_, ?_, ?_, .inr ⟨rfl, w1.heap.size + 1, (fun x => x = w1.heap.size + 1), rfl, ?_, ?_⟩⟩, ?_⟩
    · simpa using hset
    · rw [run_nil]
      exact hdd.step (fun x hx hl => Below.heap_setCell _ _ _ x (by have := hx.2; show x ≠ w1.heap.size; omega))
    · exact fun x hx => ⟨hx.1, by have := hx.2; omega⟩
    · rw [run_nil]
      unfold Z.GateG
      rw [Z.heldG_nil, Z.isG_nil]
      exact (gate_lower hd3 (by have := hb1.size; omega)).step (fun x hx hl => Below.heap_setCell _ _ _ x (by show x ≠ w1.heap.size; omega))
    · exact fun x hx => ⟨by have := hb1.size; omega, by omega, fun h => by have := h.2; omega⟩
    · exact hbb.setCell hb1.size _
  · have h4' : (k == 4) = false := beq_eq_false_iff_ne.2 h4
    go_enter Tryd.func49, Tryd.ntmps49
    go_wp2_with fail
    refine (V.new_calls w).mono ?_
    rintro e w1 ⟨rfl, hd1, hb1⟩
    have hd := hd1.bound
    have hdl := hd1.lt
    have hn := heap_alloc_new w1 (.cells #[.int .u8 k, .pointer (some ⟨w.heap.size, 0, none⟩), .pointer none] 68)
    have hd2 := hd.alloc (.cells #[.int .u8 k, .pointer (some ⟨w.heap.size, 0, none⟩), .pointer none] 68)
    have hb2 := hb1.alloc hb1.size (.cells #[.int .u8 k, .pointer (some ⟨w.heap.size, 0, none⟩), .pointer none] 68)
    clear hd1 hd
    go_wp2_with fail
    go_ret2
    refine ⟨w1.heap.size, rfl, ⟨w.heap.size, .pointer none, (fun x => w.heap.size ≤ x ∧ x < w1.heap.size), hb1.size, hn, ?_, fun x hx => ⟨hx.1, by omega⟩, .inl ⟨h4, rfl⟩⟩, hb2⟩
    rw [run_nil]
    exact hd2
theorem let_none (b : Nat) (A : Option Addr) (n c : Nat) (w : World) (h : w.cell? ⟨b, 2, none⟩ = some (.pointer none)) : Calls Tryd.prog 74 #[.pointer (some ⟨b, 0, none⟩), .slice A n c] w fun e w' => e = .returned (.slice A n c) ∧ w' = w := by
  go_enter Tryd.func74, Tryd.ntmps74
  go_wp2
  go_ret
  exact ⟨rfl, rfl⟩
theorem let_gate (b g : Nat) (A : Option Addr) (n c : Nat) (w : World) (R : Ending → World → Prop) (h : w.cell? ⟨b, 2, none⟩ = some (.pointer (some ⟨g, 0, none⟩)))
    (hc : Calls Tryd.prog 44 #[.pointer (some ⟨g, 0, none⟩), .slice A n c] w fun e w' => ∃ A1 n1 c1, e = .returned (.slice A1 n1 c1) ∧ R e w') :
    Calls Tryd.prog 74 #[.pointer (some ⟨b, 0, none⟩), .slice A n c] w R := by
  go_enter Tryd.func74, Tryd.ntmps74
  go_wp2_with fail
  refine hc.mono ?_
  rintro e w' ⟨A1, n1, c1, rfl, hR⟩
  go_wp2
  exact hR
end Go.Proofs.YtdpnnglfaofjeaaDoor.Y
namespace Go.Proofs.YtdpnnglfaofjeaaDoor.Y
open Go.RowKit Go.Proofs.YtdpnnglfaofjeaaDoorW.PrintWords Go.Proofs.YtdpnnglfaofjeaaDoorW.PrintLast Go.Proofs.YtdpnnglfaofjeaaDoorW.PrintMore
open Go.Proofs.YtdpnnglfaofjeaaDoor.V (RB RB.of_OB RB.lit info5 runeOf run rest3 clean chars DecIs IsB fffd only_setCell)
open Go.Proofs.YtdpnnglfaofjeaaDoor.Z (GateG GateIs FeedG FinG Only outG heldG wantL sureG passL SchOK blockedL)
set_option linter.unusedVariables false
set_option linter.unusedSimpArgs false
set_option maxRecDepth 1000000
def EnvOK (w : World) : Prop := SchOK w ∧ U.TabOK w
theorem EnvOK.below {w w1 : World} (h : EnvOK w) (hb : Below w.heap.size w w1) : EnvOK w1 := ⟨h.1.below hb, h.2.below hb⟩
theorem EnvOK.only {w w1 : World} {P : Nat → Prop} (h : EnvOK w) (hO : Only P w w1) (h6 : ∀ x, P x → 6 ≤ x) : EnvOK w1 := by
  refine ⟨h.1.only hO h6, ?_⟩
  have ht : w.cell? ⟨3, 15, none⟩ = some (.int .u8 4) := h.2
  have hbl := hO.block 3 (World.block_lt_of_cell? w _ ht) (fun e => by have := h6 3 e; omega)
  show w1.cell? ⟨3, 15, none⟩ = some (.int .u8 4)
  unfold World.cell? at *
  simp only at *
  rw [hbl]
  exact ht
theorem EnvOK.drew {w : World} (h : EnvOK w) : EnvOK w.drew := h.below (below_drew (Below.refl _ _))
theorem unitsOf_calls (k : Int) (hk : 1 ≤ k ∧ k ≤ 10) (x : List Int) (hx : Valid x) (A : Option Addr) (c : Nat) (w : World) (hp : Kd.C (Kd.int .u8) w A x.length x) (hN : x.length ≤ 1099511627776) (hT : U.TabOK w) :
    Calls Tryd.prog 73 #[.int .u8 k, .slice A x.length c] w (UnitsIs w (unitsOf k x)) := by
  have h := units_calls k hk (chars x) hx.form A c w (by rw [hx.flat]; exact hp) (by rw [hx.flat]; exact hN) hT
  rw [hx.flat] at h
  exact h
def FeedE (w : World) (P : Nat → Prop) (B b : Nat) (k : Int) (S' : List Int) (L : List (List Int)) (e : Ending) (w' : World) : Prop :=
  ∃ m v, e = .returned v ∧ w.heap.size ≤ m ∧ Kd.N (Kd.slice 5 (Kd.int .u8)) 22 w' m (fun x => m ≤ x) v L ∧ EscIs w' (fun x => P x ∧ x < m) B b k S' ∧ Only P w w'
theorem run_more (S p : List Int) : run (S ++ p) = ((run S).1 ++ (run ((run S).2 ++ p)).1, (run ((run S).2 ++ p)).2) := V.run_append S p
theorem after_text {w w1 : World} {P : Nat → Prop} {B b d : Nat} {D : Nat → Prop} {k : Int} {S p : List Int} {gp v : Value} {e : Ending}
    (he : w.heap[b]? = some (.cells #[.int .u8 k, .pointer (some ⟨d, 0, none⟩), gp] 68 (0, 0))) (hD : ∀ x, D x → P x ∧ x ≠ b) (hd : D d) (hPn : ∀ x, w.heap.size ≤ x → P x)
    (hd1 : DecIs w1 (fun x => (x = d ∨ w.heap.size ≤ x) ∧ some x ≠ v.ownBlock) d (run ((run S).2 ++ p)).2) (hg1 : w.grownBy w1 (some d)) :
    w1.heap[b]? = some (.cells #[.int .u8 k, .pointer (some ⟨d, 0, none⟩), gp] 68 (0, 0)) ∧
    DecIs w1 (fun x => (x = d ∨ w.heap.size ≤ x) ∧ x < w1.heap.size) d (run (S ++ p)).2 ∧ (∀ x, (x = d ∨ w.heap.size ≤ x) ∧ x < w1.heap.size → P x ∧ x ≠ b) ∧ Only P w w1 := by
  have hbl := blk_lt he
  refine ⟨(hg1.block b hbl (fun e => (hD d hd).2 (Option.some.inj e).symm)).trans he, ?_, fun x hx => ?_, Only.of_grown hg1 (fun x hx => (Option.some.inj hx) ▸ (hD d hd).1)⟩
  · rw [run_more]
    exact hd1.bound.mono (fun x hx => ⟨hx.1.1, hx.2⟩)
  · rcases hx.1 with rfl | h
    · exact hD x hd
    · exact ⟨hPn x h, by omega⟩
theorem grown_drew {w w1 : World} {r : Option Nat} (h : w.drew.grownBy w1 r) : w.grownBy w1 r := ⟨h.os, h.tape, h.output, h.size, h.block⟩
set_option maxHeartbeats 8000000 in
theorem feedE_calls (P : Nat → Prop) (B b : Nat) (k : Int) (hk : 1 ≤ k ∧ k ≤ 10) (S p : List Int) (A : Option Addr) (c : Nat) (w : World) (h : EscIs w P B b k S) (hp : Kd.C (Kd.int .u8) w A p.length p) (hc : p.length ≤ c)
    (hN : S.length + p.length ≤ 1073741824) (hBS : IsB S) (hBp : IsB p) (hE : EnvOK w) (h6 : 6 ≤ B) (hPB : ∀ x, P x → B ≤ x) (hBw : B ≤ w.heap.size) (hPn : ∀ x, w.heap.size ≤ x → P x) :
    Calls Tryd.prog 53 #[.pointer (some ⟨b, 0, none⟩), .slice A p.length c] w (FeedE w P B b k (S ++ p) (unitsOf k (letE k (run S).1 (run ((run S).2 ++ p)).1))) := by
  obtain ⟨d, gp, D, hP, he, hd, hD, hg⟩ := h
  have hdd := hd.1
  have k1 := V.run_len S
  have k2 := V.run_len ((run S).2 ++ p)
  rw [List.length_append] at k2
  have hv : Valid (run ((run S).2 ++ p)).1 := Valid.run (isB_app (isB_rest hBS) hBp)
  have hv1 : Valid (run S).1 := Valid.run hBS
  have hdW : DecIs w.drew D d (run S).2 := hd
  have hpW : Kd.C (Kd.int .u8) w.drew A p.length p := Kd.C_drew hp
  have hlen : (run S).2.length + p.length ≤ 1099511627776 := by omega
  have cF := V.feed_calls D d (run S).2 p A c w.drew hdW hpW hc hlen
  have hc0 : w.cell? ⟨b, 0, none⟩ = some (.int .u8 k) := blk_cell he 0
  have hc1 : w.cell? ⟨b, 1, none⟩ = some (.pointer (some ⟨d, 0, none⟩)) := blk_cell he 1
  have hc0' : w.drew.cell? ⟨b, 0, none⟩ = some (.int .u8 k) := hc0
  have hc1' : w.drew.cell? ⟨b, 1, none⟩ = some (.pointer (some ⟨d, 0, none⟩)) := hc1
  have HE := Lib.hid (fun (W : World) (hO : Only P w W) => hE.only hO (fun x hx => Nat.le_trans h6 (hPB x hx)))
  have HAT := Lib.hid (fun (w1 : World) (v : Value) (e : Ending) => after_text (w := w) (w1 := w1) (P := P) (B := B) (b := b) (d := d) (D := D) (k := k) (S := S) (p := p) (gp := gp) (v := v) (e := e) he hD hdd hPn)
  have HPB := Lib.hid hPB
  have HPN := Lib.hid hPn
  have HV := Lib.hid hv
  clear hE hp hd hPB hPn hv
  rcases hg with ⟨h4, rfl⟩ | ⟨rfl, g, G, rfl, hG, hGx⟩
  · have el : letE k (run S).1 (run ((run S).2 ++ p)).1 = (run ((run S).2 ++ p)).1 := by unfold letE; rw [if_neg h4]
    rw [el]
    generalize ho : (run ((run S).2 ++ p)).1 = o at *
    go_enter Tryd.func53, Tryd.ntmps53
    go_wp2_with fail
    go_region_with (first
      | (go_at_call 75; go_loud (
          refine cF.mono ?_
          rintro e w1 ⟨v1, rfl, hr1, hd1, hg1⟩
          obtain ⟨he1, hd1', hD1, hO1⟩ := HAT.out w1 v1 (.returned v1) hd1 (grown_drew hg1)
          rw [ho] at hr1
          have ho1 : Kd.R (Kd.int .u8) 5 w1 w.heap.size (fun _ => True) v1 o := hr1
          obtain ⟨A1, c1, rfl, hcl1, hC1⟩ := Kd.R_reads ho1
          have hcb0 : w1.cell? ⟨b, 0, none⟩ = some (.int .u8 k) := blk_cell he1 0
          have hcb2 : w1.cell? ⟨b, 2, none⟩ = some (.pointer none) := blk_cell he1 2
          have hE1 := HE.out w1 hO1
          have cL := let_none b A1 o.length c1 w1 hcb2
          have cU := unitsOf_calls k hk o HV.out A1 c1 w1 hC1 (by omega) hE1.2
          clear hr1 hd1 hg1 cF hdW hpW))
      | (go_at_call 74; go_loud (refine cL.mono ?_; rintro e w2 ⟨rfl, hw⟩; obtain rfl : w1 = w2 := hw.symm))
      | (go_at_call 73; go_loud (refine cU.mono ?_; rintro e w3 ⟨v3, rfl, hn3, hb3⟩)))
    all_goals (
      go_wp2
      go_ret
      refine ⟨w1.heap.size, _, rfl, hO1.size, hn3, ?_, hO1.trans (Only.of_below (F := P) hb3) (fun x hx => .inl hx)⟩
      refine ⟨d, .pointer none, _, ⟨hP, blk_lt he1⟩, (hb3.block b (blk_lt he1)).trans he1, hd1'.below hb3, fun x hx => ⟨⟨(hD1 x hx).1, hx.2⟩, (hD1 x hx).2⟩, .inl ⟨h4, rfl⟩⟩)
  · have el : letE 4 (run S).1 (run ((run S).2 ++ p)).1 = outG (run S).1 (run ((run S).2 ++ p)).1 := by unfold letE; rw [if_pos rfl]
    rw [el]
    have hvo := Valid.out hv1 HV.out
    have kol := Z.out_len (run S).1 (run ((run S).2 ++ p)).1
    have HVO := Lib.hid hvo
    have hbs := isB_small hv1.2
    have hbo := isB_small HV.out.2
    have hrm := congrArg Prod.fst (run_more S p)
    simp only at hrm
    have HRM := Lib.hid hrm
    clear hvo hrm el
    generalize hoo : outG (run S).1 (run ((run S).2 ++ p)).1 = oo at *
    have HOO := Lib.hid hoo
    clear hoo
    generalize ho : (run ((run S).2 ++ p)).1 = o at *
    have HO := Lib.hid ho
    clear ho
    have hgl := GateIs.lt hG
    go_enter Tryd.func53, Tryd.ntmps53
    go_wp2_with fail
    go_region_with (first
      | (go_at_call 75; go_loud (
          refine cF.mono ?_
          rintro e w1 ⟨v1, rfl, hr1, hd1, hg1⟩
          obtain ⟨he1, hd1', hD1, hO1⟩ := HAT.out w1 v1 (.returned v1) hd1 (grown_drew hg1)
          rw [HO.out] at hr1
          have ho1 : Kd.R (Kd.int .u8) 5 w1 w.heap.size (fun _ => True) v1 o := hr1
          obtain ⟨A1, c1, rfl, hcl1, hC1⟩ := Kd.R_reads ho1
          have hcb0 : w1.cell? ⟨b, 0, none⟩ = some (.int .u8 4) := blk_cell he1 0
          have hcb2 : w1.cell? ⟨b, 2, none⟩ = some (.pointer (some ⟨g, 0, none⟩)) := blk_cell he1 2
          have hE1 := HE.out w1 hO1
          have hsz1 := hO1.size
          have hG1 := (gate_bound hG).step (fun x hx hl => (grown_drew hg1).block x hl (fun e => (hGx x hx.1).2.2 ((Option.some.inj e) ▸ hdd)))
          have hG1' : GateG w1 (fun x => (G x ∧ x < w.heap.size) ∨ w1.heap.size ≤ x) B g (run S).1 := hG1.mono (fun x hx => .inl hx)
          have cG := Z.feedG_calls (fun x => (G x ∧ x < w.heap.size) ∨ w1.heap.size ≤ x) B g (run S).1 o A1 c1 w1 hG1' hC1 (by omega) hbs hbo hE1.1 h6 (fun x hx => by rcases hx with hx | hx; exact HPB.out x (hGx x hx.1).1; omega) (by omega) (fun x hx => .inr hx)
          clear hr1 hd1 hg1 cF hdW hpW hG1 hG1'))
      | (go_at_call 74; go_loud (
          refine (let_gate b g A1 o.length c1 w1 _ hcb2 (cG.mono (R' := fun e w' => ∃ A1_1 n1 c1_1, e = .returned (.slice A1_1 n1 c1_1) ∧ FeedG w1 (fun x => (G x ∧ x < w.heap.size) ∨ w1.heap.size ≤ x) B g (run S).1 o e w') (fun e w' hf => by have hf0 := hf; obtain ⟨A2, c2, he2, _⟩ := hf; exact ⟨A2, _, c2, he2, hf0⟩))).mono ?_
          rintro e w2 ⟨A2, c2, rfl, hc2, hC2, hG2, hO2, _⟩
          rw [HOO.out] at hc2 hC2 ⊢
          rw [← HRM.out] at hG2
          have hO12 : Only P w w2 := hO1.trans hO2 (fun x hx => by rcases hx with hx | hx; exact .inl (hGx x hx.1).1; exact .inr (by omega))
          have hE2 := HE.out w2 hO12
          have he2 := (hO2.block b (blk_lt he1) (fun hx => by rcases hx with hx | hx; exact (hGx b hx.1).2.1 rfl; have := blk_lt he1; omega)).trans he1
          have hcc0 : w2.cell? ⟨b, 0, none⟩ = some (.int .u8 4) := blk_cell he2 0
          have hd2 := hd1'.step (fun x hx hl => hO2.block x hl (fun hy => by rcases hy with hy | hy; (rcases hx.1 with rfl | h1; exact (hGx _ hy.1).2.2 hdd; omega); omega))
          have hsz2 := hO2.size
          have cU := unitsOf_calls 4 hk oo HVO.out A2 c2 w2 hC2 (by omega) hE2.2
          clear cG))
      | (go_at_call 73; go_loud (refine cU.mono ?_; rintro e w3 ⟨v3, rfl, hn3, hb3⟩)))
    all_goals (
      go_wp2
      go_ret
      refine ⟨w2.heap.size, _, rfl, by omega, hn3, ?_, hO12.trans (Only.of_below (F := P) hb3) (fun x hx => .inl hx)⟩
      refine ⟨d, _, _, ⟨hP, blk_lt he2⟩, (hb3.block b (blk_lt he2)).trans he2, hd2.below hb3, fun x hx => ⟨⟨(hD1 x hx).1, by omega⟩, (hD1 x hx).2⟩, .inr ⟨rfl, g, fun x => ((G x ∧ x < w.heap.size) ∨ w1.heap.size ≤ x) ∧ x < w2.heap.size, rfl, (gate_bound hG2).below hb3, fun x hx => ?_⟩⟩
      rcases hx.1 with h1 | h1
      · exact ⟨⟨(hGx x h1.1).1, hx.2⟩, (hGx x h1.1).2.1, fun hy => by rcases hy.1 with rfl | h2; exact (hGx _ h1.1).2.2 hdd; omega⟩
      · exact ⟨⟨HPN.out x (by omega), hx.2⟩, fun e => by have := blk_lt he1; omega, fun hy => by omega⟩)
end Go.Proofs.YtdpnnglfaofjeaaDoor.Y
namespace Go.Proofs.YtdpnnglfaofjeaaDoor.Y
open Go.RowKit Go.Proofs.YtdpnnglfaofjeaaDoorW.PrintWords Go.Proofs.YtdpnnglfaofjeaaDoorW.PrintLast Go.Proofs.YtdpnnglfaofjeaaDoorW.PrintMore
open Go.Proofs.YtdpnnglfaofjeaaDoor.V (RB RB.of_OB RB.lit info5 runeOf run rest3 clean chars DecIs IsB fffd only_setCell)
open Go.Proofs.YtdpnnglfaofjeaaDoor.Z (GateG GateIs FeedG FinG Only outG heldG wantL sureG passL SchOK blockedL)
set_option linter.unusedVariables false
set_option linter.unusedSimpArgs false
set_option maxRecDepth 1000000
theorem rest3_len (l : List Int) : (rest3 l).length ≤ 3 := by unfold V.rest3; split <;> simp [V.fffd]
set_option maxHeartbeats 8000000 in
theorem finE_calls (P : Nat → Prop) (B b : Nat) (k : Int) (hk : 1 ≤ k ∧ k ≤ 10) (S : List Int) (w : World) (h : EscIs w P B b k S)
    (hN : S.length ≤ 1073741824) (hBS : IsB S) (hE : EnvOK w) (h6 : 6 ≤ B) (hPB : ∀ x, P x → B ≤ x) (hBw : B ≤ w.heap.size) (hPn : ∀ x, w.heap.size ≤ x → P x) :
    Calls Tryd.prog 54 #[.pointer (some ⟨b, 0, none⟩)] w (FeedE w P B b k [] (unitsOf k (letE k (run S).1 (rest3 (run S).2) ++ restE k (clean S)))) := by
  obtain ⟨d, gp, D, hP, he, hd, hD, hg⟩ := h
  have hdd := hd.1
  have k1 := V.run_len S
  have hv1 : Valid (run S).1 := Valid.run hBS
  have hv3 := Valid.rest3 (run S).2
  have k3 := rest3_len (run S).2
  have cF := V.finish_calls (fun x => D x ∧ x < w.heap.size) d (run S).2 w hd.bound
  have hc0 : w.cell? ⟨b, 0, none⟩ = some (.int .u8 k) := blk_cell he 0
  have hc1 : w.cell? ⟨b, 1, none⟩ = some (.pointer (some ⟨d, 0, none⟩)) := blk_cell he 1
  have HE := Lib.hid (fun (W : World) (hO : Only P w W) => hE.only hO (fun x hx => Nat.le_trans h6 (hPB x hx)))
  have HPB := Lib.hid hPB
  have HPN := Lib.hid hPn
  have hbl := blk_lt he
  have hcl : clean S = (run S).1 ++ rest3 (run S).2 := rfl
  clear hE hd hPB hPn
  rcases hg with ⟨h4, rfl⟩ | ⟨rfl, g, G, rfl, hG, hGx⟩
  · have el : letE k (run S).1 (rest3 (run S).2) ++ restE k (clean S) = rest3 (run S).2 := by unfold letE restE; rw [if_neg h4, if_neg h4, List.append_nil]
    rw [el]
    clear hcl el
    generalize ho : rest3 (run S).2 = o at *
    have HO := Lib.hid ho
    clear ho
    go_enter Tryd.func54, Tryd.ntmps54
    go_wp2_with fail
    refine cF.mono ?_
    rintro e w1 ⟨v1, rfl, hr1, hd1, hg1⟩
    rw [HO.out] at hr1
    have hO1 : Only P w w1 := Only.of_grown hg1 (fun x hx => (Option.some.inj hx) ▸ (hD d hdd).1)
    have he1 := (hg1.block b hbl (fun e => (hD d hdd).2 (Option.some.inj e).symm)).trans he
    obtain ⟨A1, c1, rfl, hcl1, hC1⟩ := hr1.reads
    have hcb0 : w1.cell? ⟨b, 0, none⟩ = some (.int .u8 k) := blk_cell he1 0
    have hcb2 : w1.cell? ⟨b, 2, none⟩ = some (.pointer none) := blk_cell he1 2
    have hE1 := HE.out w1 hO1
    have hsz1 := hO1.size
    have cL := let_none b A1 o.length c1 w1 hcb2
    have cU := unitsOf_calls k hk o hv3 A1 c1 w1 hC1 (by omega) hE1.2
    clear cF hr1 hg1
    go_wp2_with (first
      | (go_at_call 74; go_loud (refine cL.mono ?_; rintro e w2 ⟨rfl, hw⟩; obtain rfl : w1 = w2 := hw.symm))
      | (go_at_call 73; go_loud (refine cU.mono ?_; rintro e w3 ⟨v3, rfl, hn3, hb3⟩)))
    go_ret
    refine ⟨w1.heap.size, _, rfl, hO1.size, hn3, ?_, hO1.trans (Only.of_below (F := P) hb3) (fun x hx => .inl hx)⟩
    refine ⟨d, .pointer none, (fun x => D x ∧ x < w.heap.size), ⟨hP, blk_lt he1⟩, (hb3.block b (blk_lt he1)).trans he1, by rw [run_nil]; exact hd1.below hb3, fun x hx => ⟨⟨(hD x hx.1).1, by omega⟩, (hD x hx.1).2⟩, .inl ⟨h4, rfl⟩⟩
  · have el : letE 4 (run S).1 (rest3 (run S).2) ++ restE 4 (clean S) = outG (run S).1 (rest3 (run S).2) ++ heldG (clean S) := by unfold letE restE; rw [if_pos rfl, if_pos rfl]
    rw [el]
    have hvo := Valid.out hv1 hv3
    have hvh := Valid.held (Valid.of_clean hBS)
    have kol := Z.out_len (run S).1 (rest3 (run S).2)
    have khl : (heldG (clean S)).length ≤ (clean S).length := by unfold Z.heldG; split <;> simp
    have kcl : (clean S).length ≤ (run S).1.length + 3 := by rw [hcl, List.length_append]; omega
    have hva := hvo.app hvh
    have hbs := isB_small hv1.2
    have hbo := isB_small hv3.2
    have hbc := isB_small (Valid.of_clean hBS).2
    have HVA := Lib.hid hva
    have HCL := Lib.hid hcl
    clear hvo hvh hva el hcl
    generalize hoo : outG (run S).1 (rest3 (run S).2) = oo at *
    have HOO := Lib.hid hoo
    clear hoo
    generalize hhh : heldG (clean S) = hh at *
    have HHH := Lib.hid hhh
    clear hhh
    generalize ho : rest3 (run S).2 = o at *
    have HO := Lib.hid ho
    clear ho
    have hgl := GateIs.lt hG
    go_enter Tryd.func54, Tryd.ntmps54
    go_wp2_with fail
    refine cF.mono ?_
    rintro e w1 ⟨v1, rfl, hr1, hd1, hg1⟩
    rw [HO.out] at hr1
    have hO1 : Only P w w1 := Only.of_grown hg1 (fun x hx => (Option.some.inj hx) ▸ (hD d hdd).1)
    have he1 := (hg1.block b hbl (fun e => (hD d hdd).2 (Option.some.inj e).symm)).trans he
    obtain ⟨A1, c1, rfl, hcl1, hC1⟩ := hr1.reads
    have hcb2 : w1.cell? ⟨b, 2, none⟩ = some (.pointer (some ⟨g, 0, none⟩)) := blk_cell he1 2
    have hE1 := HE.out w1 hO1
    have hsz1 := hO1.size
    have hG1 := (gate_bound hG).step (fun x hx hl => hg1.block x hl (fun e => (hGx x hx.1).2.2 ((Option.some.inj e) ▸ hdd)))
    have hG1' : GateG w1 (fun x => (G x ∧ x < w.heap.size) ∨ w1.heap.size ≤ x) B g (run S).1 := hG1.mono (fun x hx => .inl hx)
    have cG := Z.feedG_calls (fun x => (G x ∧ x < w.heap.size) ∨ w1.heap.size ≤ x) B g (run S).1 o A1 c1 w1 hG1' hC1 (by omega) hbs hbo hE1.1 h6 (fun x hx => by rcases hx with hx | hx; exact HPB.out x (hGx x hx.1).1; omega) (by omega) (fun x hx => .inr hx)
    have hgg := hG.1
    clear cF hr1 hg1 hG1 hG1'
    go_wp2_with fail
    refine (let_gate b g A1 o.length c1 w1 _ hcb2 (cG.mono (R' := fun e w' => ∃ A1_1 n1 c1_1, e = .returned (.slice A1_1 n1 c1_1) ∧ FeedG w1 (fun x => (G x ∧ x < w.heap.size) ∨ w1.heap.size ≤ x) B g (run S).1 o e w') (fun e w' hf => by have hf0 := hf; obtain ⟨A2, c2, he2, _⟩ := hf; exact ⟨A2, _, c2, he2, hf0⟩))).mono ?_
    rintro e w2 ⟨A2, c2, rfl, hc2, hC2, hG2, hO2, hno, hkeep⟩
    rw [HOO.out] at hc2 hC2 hkeep ⊢
    rw [← HO.out] at hG2 hno
    change GateG w2 (fun x => (G x ∧ x < w.heap.size) ∨ w1.heap.size ≤ x) B g (clean S) at hG2
    change sureG (clean S) = false → A2 = none ∧ c2 = 0 at hno
    have hO12 : Only P w w2 := hO1.trans hO2 (fun x hx => by rcases hx with hx | hx; exact .inl (hGx x hx.1).1; exact .inr (by omega))
    have hE2 := HE.out w2 hO12
    have hsz2 := hO2.size
    have he2 := (hO2.block b (blk_lt he1) (fun hx => by rcases hx with hx | hx; exact (hGx b hx.1).2.1 rfl; have := blk_lt he1; omega)).trans he1
    have hcc2 : w2.cell? ⟨b, 2, none⟩ = some (.pointer (some ⟨g, 0, none⟩)) := blk_cell he2 2
    have hd2 := hd1.step (fun x hx hl => hO2.block x hl (fun hy => by rcases hy with hy | hy; exact (hGx x hy.1).2.2 hx.1; omega))
    have cN := Z.finG_calls _ B g (clean S) w2 hG2 hbc (by omega) hE2.1
    clear cG hd1
    go_wp2_with fail
    refine cN.mono ?_
    rintro e w3 ⟨A3, c3, rfl, hc3, hC3, hG3, hg3, hno3⟩
    rw [HHH.out] at hc3 hC3 ⊢
    have hg3l : g < w3.heap.size := GateIs.lt hG3
    have hO23 : Only P w2 w3 := Only.of_grown hg3 (fun x hx => (Option.some.inj hx) ▸ (hGx g hgg).1)
    have hO13 : Only P w w3 := hO12.trans hO23 (fun x hx => .inl hx)
    have hE3 := HE.out w3 hO13
    have hsz3 := hO23.size
    have he3 := (hg3.block b (blk_lt he2) (fun e => (hGx g hgg).2.1 (Option.some.inj e).symm)).trans he2
    have hk3 : w3.cell? ⟨b, 0, none⟩ = some (.int .u8 4) := blk_cell he3 0
    have hd3 := hd2.step (fun x hx hl => hg3.block x hl (fun e => (hGx g hgg).2.2 ((Option.some.inj e) ▸ hx.1)))
    have hC23 := hkeep w3 hg3
    have hsz03 := hO13.size
    have FIN : ∀ (w4 w5 : World) (v5 : Value) (L : List (List Int)), Below w3.heap.size w3 w4 → Below w4.heap.size w4 w5 → Kd.N (Kd.slice 5 (Kd.int .u8)) 22 w5 w4.heap.size (fun k => w4.heap.size ≤ k) v5 L → FeedE w P B b 4 [] L (.returned v5) w5 := by
      intro w4 w5 v5 L hb4 hb5 hn5
      have hs34 := hb4.size
      have he4 := (hb4.block b (blk_lt he3)).trans he3
      refine ⟨w4.heap.size, v5, rfl, by omega, hn5, ?_, (hO13.trans (Only.of_below (F := P) hb4) (fun x hx => .inl hx)).trans (Only.of_below (F := P) hb5) (fun x hx => .inl hx)⟩
      refine ⟨d, _, (fun x => D x ∧ x < w.heap.size), ⟨hP, blk_lt he4⟩, (hb5.block b (blk_lt he4)).trans he4, by rw [run_nil]; exact (hd3.below hb4).below hb5, fun x hx => ⟨⟨(hD x hx.1).1, by omega⟩, (hD x hx.1).2⟩, .inr ⟨rfl, g, fun x => x = g, rfl, by rw [run_nil]; exact (hG3.below hb4).below hb5, fun x hx => ?_⟩⟩
      subst hx
      exact ⟨⟨(hGx x hgg).1, by omega⟩, (hGx x hgg).2.1, fun hy => (hGx x hgg).2.2 hy.1⟩
    have HFIN := Lib.hid FIN
    clear FIN hd3 hd2 hG3 hG2 hkeep he3 he2 he1
    cases hs : sureG (clean S)
    · obtain ⟨rfl, rfl⟩ := hno hs
      have hoo0 : oo = [] := by
        rw [← HOO.out, ← HO.out]
        unfold Z.outG
        rw [show (run S).1 ++ rest3 (run S).2 = clean S from rfl, hs]
        simp
      subst hoo0
      clear hno hno3 hC2 hC23 hs HOO HHH HO
      go_wp2_with (at_builtin; refine V.appB (w0 := w3) rfl (.tmp 25) (.tmp 30) rfl (.slice none 0 0) [] hh A3 hh.length c3 rfl rfl (Kd.R_nil _ _ _ _ _) hC3 (Below.refl _ _) (by simp; omega) ?_; intro v4 w4 ho4 hb4 _ _; rw [List.nil_append] at ho4; obtain ⟨A4, c4, rfl, hc4, hC4⟩ := Kd.R_reads ho4; have hk4 : w4.cell? ⟨b, 0, none⟩ = some (.int .u8 4) := (hb4.cell (World.block_lt_of_cell? w3 _ hk3)).trans hk3)
      rw [List.nil_append] at HVA
      have cU := unitsOf_calls 4 hk hh HVA.out A4 c4 w4 hC4 (by omega) (hE3.below hb4).2
      clear ho4 hC4 hC3
      go_wp2_with (go_at_call 73; go_loud (refine cU.mono ?_; rintro e w5 ⟨v5, rfl, hn5, hb5⟩))
      go_ret
      exact HFIN.out w4 w5 _ _ hb4 hb5 hn5
    · obtain ⟨rfl, rfl⟩ := hno3 hs
      have hhh0 : hh = [] := by
        rw [← HHH.out]
        unfold Z.heldG
        rw [hs]
        simp
      subst hhh0
      rw [List.append_nil] at HVA
      clear hno hno3 hC2 hC3 hs HOO HHH HO
      go_wp2_with (at_builtin; refine Z.appN rfl (.tmp 25) (.tmp 30) rfl A2 oo.length c2 rfl rfl hc2 ?_)
      have cU := unitsOf_calls 4 hk oo HVA.out A2 c2 w3 hC23 (by omega) hE3.2
      clear hC23
      go_wp2_with (go_at_call 73; go_loud (refine cU.mono ?_; rintro e w5 ⟨v5, rfl, hn5, hb5⟩))
      go_ret
      rw [show oo ++ [] = oo from List.append_nil oo]
      exact HFIN.out w3 w5 _ _ (Below.refl _ _) hb5 hn5
end Go.Proofs.YtdpnnglfaofjeaaDoor.Y
namespace Go.Proofs.YtdpnnglfaofjeaaDoor.Y
open Go.RowKit Go.Proofs.YtdpnnglfaofjeaaDoorW.PrintWords Go.Proofs.YtdpnnglfaofjeaaDoorW.PrintLast Go.Proofs.YtdpnnglfaofjeaaDoorW.PrintMore
open Go.Proofs.YtdpnnglfaofjeaaDoor.V (RB RB.of_OB RB.lit info5 runeOf run rest3 clean chars DecIs IsB fffd only_setCell)
open Go.Proofs.YtdpnnglfaofjeaaDoor.Z (GateG GateIs FeedG FinG Only outG heldG wantL sureG passL SchOK blockedL)
set_option linter.unusedVariables false
set_option linter.unusedSimpArgs false
set_option maxRecDepth 1000000
def rd2 (xs : List (List Int)) (i : Nat) : List Int := xs.getD i []
theorem at_rows {w : World} {A : Option Addr} {n : Nat} {xs : List (List Int)} (h : Kd.C (Kd.slice 5 (Kd.int .u8)) w A n xs) (i : Nat) (h1 : i < n) : ∃ ad A0 c0, A = some ad ∧ w.cell? (ad.add i) = some (.slice A0 (rd2 xs i).length c0) ∧ (rd2 xs i).length ≤ c0 ∧ (Kd.int .u8).C w A0 (rd2 xs i).length (rd2 xs i) := by
  obtain ⟨ad, c, e, _, hK, hc0⟩ := Kd.C_get h ([] : List Int) (i : Int) (by omega) (by omega)
  rw [Int.toNat_natCast] at hc0 hK
  have hc : ∀ j u, c[j]? = some u → w.cell? (ad.add (i * 1 + j)) = some u := hc0
  obtain ⟨A0, c0, rfl, l0, g0⟩ := hK
  exact ⟨ad, A0, c0, e, by have hq := hc 0 _ rfl; rwa [Nat.mul_one, Nat.add_zero] at hq, l0, g0⟩
theorem take_flat (L : List (List Int)) (i : Nat) (h : i < L.length) : (L.take (i + 1)).flatten = (L.take i).flatten ++ rd2 L i := by
  have e : L.take (i + 1) = L.take i ++ [rd2 L i] := by
    have : rd2 L i = L[i] := by simp [rd2, List.getD_eq_getElem?_getD, h]
    rw [this, List.take_append_getElem]
  rw [e, List.flatten_append]
  simp
theorem take_cap (L : List (List Int)) (i : Nat) (h : i < L.length) : (L.take i).flatten.length + (rd2 L i).length ≤ L.flatten.length := by
  have e := take_flat L i h
  have e2 : L.flatten = (L.take (i + 1)).flatten ++ (L.drop (i + 1)).flatten := by rw [← List.flatten_append, List.take_append_drop]
  rw [e2, e, List.length_append, List.length_append]
  omega
def wholeE (k : Int) (p : List Int) : List (List Int) := unitsOf k (fullE k (clean p))
theorem Valid.full (k : Int) {x : List Int} (hx : Valid x) : Valid (fullE k x) := by
  unfold fullE
  split
  · exact hx.pass
  · exact hx
theorem want_nil (k : Int) : wantE k [] = [] := by
  unfold wantE
  split
  · decide
  · rfl
theorem units_more (k : Int) {S p : List Int} (hS : IsB S) (hp : IsB p) : unitsOf k (wantE k (run S).1) ++ unitsOf k (letE k (run S).1 (run ((run S).2 ++ p)).1) = unitsOf k (wantE k (run (S ++ p)).1) := by
  rw [run_more S p, ← want_let, unitsOf_app k _ (Valid.wantE k (Valid.run hS))]
theorem units_end (k : Int) {S : List Int} (hS : IsB S) : unitsOf k (wantE k (run S).1) ++ unitsOf k (letE k (run S).1 (rest3 (run S).2) ++ restE k (clean S)) = wholeE k S := by
  unfold wholeE
  rw [← want_rest k (clean S), show clean S = (run S).1 ++ rest3 (run S).2 from rfl, ← want_let, List.append_assoc, unitsOf_app k _ (Valid.wantE k (Valid.run hS))]
theorem units_two (k : Int) {p : List Int} (hp : IsB p) : unitsOf k (letE k (run []).1 (run ((run []).2 ++ p)).1) ++ unitsOf k (letE k (run p).1 (rest3 (run p).2) ++ restE k (clean p)) = wholeE k p := by
  have h1 := units_more k (S := []) (p := p) (by intro x hx; simp at hx) hp
  rw [List.nil_append] at h1
  rw [← units_end k hp, ← h1, run_nil, want_nil, unitsOf_nil]
  simp only [List.nil_append]
theorem unit_le (k r : Int) : (unitE k r).length ≤ 144 := (unitE_ok k r).2
theorem units_flat (k : Int) (chs : List (List Int)) : (unitsE k chs).flatten.length ≤ 144 * chs.length := by
  induction chs with
  | nil => simp [unitsE]
  | cons a t ih =>
    have := unit_le k (runeOf a)
    unfold unitsE at *
    rw [List.map_cons, List.flatten_cons, List.length_append, List.length_cons]
    omega
theorem full_len (k : Int) (x : List Int) : (fullE k x).length ≤ x.length + 8 := by
  unfold fullE
  split
  · have := Z.pass_length x; omega
  · omega
theorem clean_le (l : List Int) : (clean l).length ≤ 3 * l.length := V.clean_len' l
theorem whole_len (k : Int) {p : List Int} (hp : IsB p) : (wholeE k p).length ≤ 3 * p.length + 8 ∧ (wholeE k p).flatten.length ≤ 144 * (3 * p.length + 8) := by
  have hv := Valid.full k (Valid.of_clean hp)
  have h1 := unitsOf_len k hv
  have h2 := full_len k (clean p)
  have h3 := clean_le p
  have h4 := units_flat k (chars (fullE k (clean p)))
  have h5 : (chars (fullE k (clean p))).length = (wholeE k p).length := by unfold wholeE unitsOf unitsE; rw [List.length_map]
  have h6 : (wholeE k p).flatten.length = (unitsE k (chars (fullE k (clean p)))).flatten.length := rfl
  have h7 : (wholeE k p).length = (unitsOf k (fullE k (clean p))).length := rfl
  rw [← h6, h5] at h4
  exact ⟨by omega, by omega⟩
theorem feed_count (k : Int) {S p : List Int} (hS : IsB S) (hp : IsB p) : (unitsOf k (letE k (run S).1 (run ((run S).2 ++ p)).1)).length ≤ 3 * (S.length + p.length) + 8 := by
  have hv := Valid.let k (Valid.run hS) (Valid.run (isB_app (isB_rest hS) hp))
  have h1 := unitsOf_len k hv
  have h2 := V.run_len S
  have h3 := V.run_len ((run S).2 ++ p)
  rw [List.length_append] at h3
  have h4 : (letE k (run S).1 (run ((run S).2 ++ p)).1).length ≤ (run S).1.length + (run ((run S).2 ++ p)).1.length + 8 := by
    unfold letE
    split
    · exact Z.out_len _ _
    · omega
  omega
def AllIs (w : World) (l : List Int) (e : Ending) (w' : World) : Prop :=
  ∃ v, e = .returned (.tuple #[v, .int .i64 0]) ∧ Kd.R (Kd.int .u8) 5 w' w.heap.size (fun _ => True) v l ∧ Below w.heap.size w w'
set_option maxHeartbeats 8000000 in
theorem all_calls (k : Int) (hk : 1 ≤ k ∧ k ≤ 10) (p : List Int) (A : Option Addr) (c : Nat) (w : World) (hp : Kd.C (Kd.int .u8) w A p.length p) (hc : p.length ≤ c) (hN : p.length ≤ 134217728) (hB : IsB p) (hE : EnvOK w) :
    Calls Tryd.prog 48 #[.int .u8 k, .slice A p.length c] w (AllIs w (wholeE k p).flatten) := by
  have h6 := hE.1.six
  have hu := units_two k hB
  have k1 := feed_count k (S := []) (by intro x hx; simp at hx) hB
  rw [List.length_nil] at k1
  obtain ⟨k2, k3⟩ := whole_len k hB
  rw [← hu] at k2 k3
  obtain ⟨tg, htg⟩ : ∃ t, (wholeE k p).flatten = t := ⟨_, rfl⟩
  rw [htg]
  rw [← hu] at htg
  have HTG := Lib.hid htg
  have HE := Lib.hid hE
  have HB := Lib.hid hB
  have HP := Lib.hid hp
  clear hE hB hp hu htg
  have cN := new_calls k hk w
  go_enter Tryd.func48, Tryd.ntmps48
  go_wp2_with (go_at_call 49; go_loud (refine cN.mono ?_; rintro e w1 ⟨b, rfl, hS1, hb1⟩))
  have hE1 := HE.out.below hb1
  have hsz1 := hb1.size
  have cF := feedE_calls (fun x => w.heap.size ≤ x) w.heap.size b k hk [] p A c w1 hS1 (Kd.C_below HP.out hb1) hc (by simp; omega) (by intro x hx; simp at hx) HB.out hE1 h6 (fun x hx => hx) hsz1 (fun x hx => by omega)
  rw [List.nil_append] at cF
  generalize unitsOf k (letE k (run []).1 (run ((run []).2 ++ p)).1) = L1 at *
  clear hS1 cN
  refine cF.mono ?_
  rintro e w2 ⟨m1, v1, rfl, hm1, hn1, hS2, hO2⟩
  have hsz2 := hO2.size
  have hb2 : Below w.heap.size w w2 := hb1.trans (hO2.below (fun x hx => hx) hsz1)
  have hE2 := HE.out.below hb2
  have cG := finE_calls (fun x => (w.heap.size ≤ x ∧ x < m1) ∨ w2.heap.size ≤ x) w.heap.size b k hk p w2 (hS2.mono (fun x hx => .inl hx)) (by omega) HB.out hE2 h6 (fun x hx => by omega) (by omega) (fun x hx => .inr hx)
  generalize unitsOf k (letE k (run p).1 (rest3 (run p).2) ++ restE k (clean p)) = L2 at *
  clear hS2 cF
  go_wp2_with fail
  refine cG.mono ?_
  rintro e w3 ⟨m2, v2, rfl, hm2, hn2, hS3, hO3⟩
  have hsz3 := hO3.size
  have hb3 : Below w.heap.size w w3 := hb2.trans (hO3.below (fun x hx => by omega) (by omega))
  have hn1' := Kd.N_step (Kd.N_bound hn1) (fun x hx hl => hO3.block x hl (fun hy => by omega))
  have hl1 := Kd.N_lt hn1
  obtain ⟨A2, c2, rfl⟩ := Kd.N_slice hn2
  have hF2 := Kd.N_F hn2
  have hb2n := Kd.N_lower (Kd.N_mono (ok' := fun x => w.heap.size ≤ x) hn1' (fun x hx => by omega)) (show w.heap.size ≤ m1 by omega)
  have hll : L1.length + L2.length = (L1 ++ L2).length := by rw [List.length_append]
  clear hS3 cG hn1 hn1'
  go_wp2_with (at_builtin; go_loud (refine Kd.N_append_rows (Kd.slice 5 (Kd.int .u8)) (w0 := w3) (W := w3) w.heap.size rfl (.tmp 21) (.tmp 23) 38 22 (.slice none 0 0) 24 rfl Tryd.underlying38 info22 rfl (by decide) (by omega) v1 L1 L2 A2 L2.length c2 (fun x => w.heap.size ≤ x) (fun x => m2 ≤ x) rfl rfl hb2n hF2 (fun q hq => ⟨by omega, fun e => by have := hl1 q e.symm; omega⟩) (fun q hq => by omega) (Below.refl _ _) (by omega) (by rw [hll]; omega) ?_; intro v4 w4 hn4 hb4 _ _; obtain ⟨A4, c4, rfl, hc4, hC4⟩ := Kd.N_reads hn4; clear hn4; generalize L1 ++ L2 = L at *))
  have hb4' := hb3.trans hb4
  have hsz4 := hb4.size
  have HC4 := Lib.hid hC4
  clear hC4 hF2 hb2n hn2 hll
  go_loopw [8, 26] (fun v8 v26 wr => ∃ i : Nat, v26 = .int .i64 (i : Int) ∧ i ≤ L.length ∧ Kd.R (Kd.int .u8) 5 wr w4.heap.size (fun _ => True) v8 ((L.take i).flatten) ∧ Below w4.heap.size w4 wr) (fun _ v26 _ => match v26 with | .int _ i => L.length - i.toNat | _ => 0)
  case atStart => exact ⟨0, rfl, Nat.zero_le _, by rw [List.take_zero]; exact Kd.R_nil _ _ _ _ _, Below.refl _ _⟩
  case round =>
    obtain ⟨i, rfl, hi, ho, hb⟩ := hrel
    by_cases hlt : i < L.length
    · have hlt' : (i : Int) < (L.length : Int) := by omega
      have hcap := take_cap L i hlt
      have HNX := Lib.hid (take_flat L i hlt)
      obtain ⟨ad, A5, c5, rfl, hcell, hc5, hC5⟩ := at_rows (Kd.C_below HC4.out hb) i hlt
      generalize rd2 L i = row at *
      generalize (L.take i).flatten = acc at *
      go_wp2_with (at_builtin; refine V.appB (w0 := w4) rfl _ _ rfl u8 _ _ _ _ _ rfl rfl ho hC5 hb (by omega) ?_; intro v6 w6 ho6 hb6 _ _)
      go_roundw
      case rel => exact ⟨i + 1, by first | rfl | simp, by omega, by rw [HNX.out]; exact ho6, hb6⟩
      case measure => simp; omega
    · have hip : i = L.length := by omega
      subst hip
      rw [List.take_length, HTG.out] at ho
      have hlt' : ¬ ((L.length : Int) < (L.length : Int)) := by omega
      go_wp2_with fail
      go_ret2
      exact ⟨_, rfl, Kd.R_lower ho (by omega), below_then hb4' hb4'.size hb⟩
end Go.Proofs.YtdpnnglfaofjeaaDoor.Y
namespace Go.Proofs.YtdpnnglfaofjeaaDoor.Y
open Go.RowKit Go.Proofs.YtdpnnglfaofjeaaDoorW.PrintWords Go.Proofs.YtdpnnglfaofjeaaDoorW.PrintLast Go.Proofs.YtdpnnglfaofjeaaDoorW.PrintMore Go.Proofs.YtdpnnglfaofjeaaDoor.PEr
open Go.Proofs.YtdpnnglfaofjeaaDoor.PEq (bobbinref04_Paths.f bobbinref04_Queries.f bobbinref03_Text.f)
open Go.Proofs.YtdpnnglfaofjeaaDoor.V (runeOf run rest3 clean chars IsB)
open PJh (unitJ)
set_option linter.unusedVariables false
set_option linter.unusedSimpArgs false
set_option maxRecDepth 100000
def finE (x0 : Int) (y : List Int) : List Int := if x0 = 7 ∨ x0 = 9 then y else y.flatMap htmlU
theorem tail_ev (x0 : Int) (y : List Int) (hy : ∀ x ∈ y, 0 ≤ x ∧ x ≤ 255) (hl : y.length ≤ 1000) :
    Ev (fun k => if x0 = 7 then some (strOfNums y) else (if x0 = 9 then some (strOfNums y) else ((bobbinref03_Text.f k y).bind fun t => some t))) (strOfNums (finE x0 y)) := by
  unfold finE
  by_cases h7 : x0 = 7
  · rw [if_pos (.inl h7)]; exact Ev.congr (fun k => if_pos h7) (Ev.now _)
  by_cases h9 : x0 = 9
  · rw [if_pos (.inr h9)]; exact Ev.congr (fun k => by rw [if_neg h7, if_pos h9]) (Ev.now _)
  · rw [if_neg (by omega)]
    exact Ev.congr (fun k => by rw [if_neg h7, if_neg h9]) (Ev.bind (htmls_ev y hy (by omega)) (Ev.now _))
theorem more_ev (x0 : Int) (g : Nat → Option ByteArray) (z : List Int) (hg : Ev g (strOfNums z)) (hz : ∀ x ∈ z, 0 ≤ x ∧ x ≤ 255) (hl : z.length ≤ 1000) :
    Ev (fun k => (g k).bind fun t => (if t.size < 140737488355328 then ((some (([] : List Int) ++ bytesOf t : List Int)).bind fun y => (if x0 = 7 then (some (strOfNums y)) else (if x0 = 9 then (some (strOfNums y)) else ((bobbinref03_Text.f k y).bind fun t => (some t))))) else none)) (strOfNums (finE x0 z)) := by
  refine Ev.bind hg ?_
  refine Ev.congr (fun k => ?_) (tail_ev x0 z hz hl)
  rw [if_pos (by rw [strOfNums_size]; omega), y_bytesOf z hz, List.nil_append, Option.bind_some]
theorem unit_ev (k r : Int) (hk : 1 ≤ k ∧ k ≤ 10) (h0 : 0 ≤ r) (h1 : r ≤ 2147483647) : Ev (fun n => bobbinref08_unit.f n k r) (strOfNums (unitE k r)) := by
  obtain ⟨z1, z2, z3⟩ := encZ_ok r
  have a1 := flat_le isU_path (encZ r) z1
  have a2 := flat_le isU_query (encZ r) z1
  have a3 := flat_le isU_css (encZ r) z1
  have a4 := unitJ_ok r
  have hstart : ∀ n : Nat, bobbinref08_unit.f n k r = (if k = 4 then (bobbinref08_unit.j0 n k r (encZ r) k (k == 4)) else (bobbinref08_unit.j0 n k r (encZ r) k (k == 5))) := fun n => by
    unfold bobbinref08_unit.f bobbinref06_UTF8.f
    rw [Option.bind_some, if_pos (by rw [strOfNums_size]; show (encZ r).length < _; omega), y_bytesOf (Lib.encodeRuneZ r) z1, List.nil_append, Option.bind_some]
    rfl
  refine Ev.congr hstart ?_
  have hpath : ∀ x9 : Int, Ev (fun n => bobbinref08_unit.j0 n k r (encZ r) x9 true) (strOfNums (finE k ((encZ r).flatMap pathU))) := fun x9 =>
    Ev.step (f := fun n => _) (fun n => by rw [bobbinref08_unit.j0, if_pos rfl]) (more_ev k (fun n => bobbinref04_Paths.f n (encZ r)) _ (paths_ev (encZ r) z1 (by omega)) a1.2 (by omega))
  have hquery : Ev (fun n => bobbinref08_unit.j0 n k r (encZ r) 6 false) (strOfNums (finE k ((encZ r).flatMap queryU))) :=
    Ev.step (f := fun n => _) (fun n => by rw [bobbinref08_unit.j0, if_neg (by decide), if_pos rfl]) (more_ev k (fun n => bobbinref04_Queries.f n (encZ r)) _ (queries_ev (encZ r) z1 (by omega)) a2.2 (by omega))
  have hjs : ∀ x9 : Int, Ev (fun n => bobbinref08_unit.j1 n k r (encZ r) x9 true) (strOfNums (finE k (unitJ r))) := fun x9 =>
    Ev.step (f := fun n => _) (fun n => by rw [bobbinref08_unit.j1, if_pos rfl]) (more_ev k (fun n => bobbinref06_Unit.f r) _ (by unfold bobbinref06_Unit.f; rw [if_pos ⟨by omega, by omega⟩]; exact Ev.now _) a4.1 (by omega))
  have hcss : Ev (fun n => bobbinref08_unit.j2 n k (encZ r) true) (strOfNums (finE k ((encZ r).flatMap U.unitL))) :=
    Ev.step (f := fun n => _) (fun n => by rw [bobbinref08_unit.j2, if_pos rfl]) (more_ev k (fun n => bobbinref07_Text.f (encZ r)) _ (by
      unfold bobbinref07_Text.f
      rw [if_pos ⟨by omega, List.all_eq_true.2 fun x hx => by have := z1 x hx; simp; omega⟩]
      exact Ev.now _) a3.2 (by omega))
  have hplain : Ev (fun n => bobbinref08_unit.j2 n k (encZ r) false) (strOfNums (finE k (encZ r))) :=
    Ev.step (f := fun n => _) (fun n => by rw [bobbinref08_unit.j2, if_neg (by decide)]) (tail_ev k (encZ r) z1 (by omega))
  have hcases : k = 1 ∨ k = 2 ∨ k = 3 ∨ k = 4 ∨ k = 5 ∨ k = 6 ∨ k = 7 ∨ k = 8 ∨ k = 9 ∨ k = 10 := by omega
  have e12 : ∀ x9 : Int, x9 ≠ 6 → x9 ≠ 7 → ∀ v, Ev (fun n => bobbinref08_unit.j1 n k r (encZ r) x9 (x9 == 8)) v → Ev (fun n => bobbinref08_unit.j0 n k r (encZ r) x9 false) v := fun x9 h6 h7 v h =>
    Ev.step (f := fun n => bobbinref08_unit.j1 n k r (encZ r) x9 (x9 == 8)) (fun n => by rw [bobbinref08_unit.j0, if_neg (by decide), if_neg h6, if_neg h7]) h
  have e7 : ∀ v, Ev (fun n => bobbinref08_unit.j1 n k r (encZ r) 7 true) v → Ev (fun n => bobbinref08_unit.j0 n k r (encZ r) 7 false) v := fun v h =>
    Ev.step (f := fun n => bobbinref08_unit.j1 n k r (encZ r) 7 true) (fun n => by rw [bobbinref08_unit.j0, if_neg (by decide), if_neg (by decide), if_pos rfl]; rfl) h
  have e9 : ∀ v, Ev (fun n => bobbinref08_unit.j2 n k (encZ r) true) v → Ev (fun n => bobbinref08_unit.j1 n k r (encZ r) 9 false) v := fun v h =>
    Ev.step (f := fun n => bobbinref08_unit.j2 n k (encZ r) true) (fun n => by rw [bobbinref08_unit.j1, if_neg (by decide), if_pos rfl]; rfl) h
  have e10 : ∀ x9 : Int, x9 ≠ 9 → ∀ v, Ev (fun n => bobbinref08_unit.j2 n k (encZ r) (x9 == 10)) v → Ev (fun n => bobbinref08_unit.j1 n k r (encZ r) x9 false) v := fun x9 h9 v h =>
    Ev.step (f := fun n => bobbinref08_unit.j2 n k (encZ r) (x9 == 10)) (fun n => by rw [bobbinref08_unit.j1, if_neg (by decide), if_neg h9]) h
  have hE : ∀ z, baseE k r = z → unitE k r = finE k z := fun z h => by unfold unitE finE; rw [h]
  rcases hcases with rfl | rfl | rfl | rfl | rfl | rfl | rfl | rfl | rfl | rfl
  · rw [hE (encZ r) (by unfold baseE; rfl)]; exact e12 1 (by decide) (by decide) _ (e10 1 (by decide) _ hplain)
  · rw [hE (encZ r) (by unfold baseE; rfl)]; exact e12 2 (by decide) (by decide) _ (e10 2 (by decide) _ hplain)
  · rw [hE (encZ r) (by unfold baseE; rfl)]; exact e12 3 (by decide) (by decide) _ (e10 3 (by decide) _ hplain)
  · rw [hE ((encZ r).flatMap pathU) (by unfold baseE; rfl)]; exact hpath 4
  · rw [hE ((encZ r).flatMap pathU) (by unfold baseE; rfl)]; exact hpath 5
  · rw [hE ((encZ r).flatMap queryU) (by unfold baseE; rfl)]; exact hquery
  · rw [hE (unitJ r) (by unfold baseE; rfl)]; exact e7 _ (hjs 7)
  · rw [hE (unitJ r) (by unfold baseE; rfl)]; exact e12 8 (by decide) (by decide) _ (hjs 8)
  · rw [hE ((encZ r).flatMap U.unitL) (by unfold baseE; rfl)]; exact e12 9 (by decide) (by decide) _ (e9 _ hcss)
  · rw [hE ((encZ r).flatMap U.unitL) (by unfold baseE; rfl)]; exact e12 10 (by decide) (by decide) _ (e10 10 (by decide) _ hcss)
def strs (L : List (List Int)) : List ByteArray := L.map strOfNums
theorem written_loop (k : Int) (hk : 1 ≤ k ∧ k ≤ 10) : ∀ (q pre : List Int) (acc : List ByteArray), (∀ x ∈ q, 0 ≤ x ∧ x ≤ 2147483647) → (pre ++ q).length ≤ 4398046511104 → acc.length = pre.length →
    Ev (fun n => bobbinref08_Written.l0 n k (pre ++ q) acc (pre.length : Int)) (acc ++ q.map fun r => strOfNums (unitE k r))
  | [], pre, acc, hq, hl, ha => by
    refine ⟨1, fun n hn => ?_⟩
    obtain ⟨n, rfl⟩ : ∃ m, n = m + 1 := ⟨n - 1, by omega⟩
    simp [bobbinref08_Written.l0]
  | r :: q, pre, acc, hq, hl, ha => by
    have hr := hq r List.mem_cons_self
    have hlen : (pre ++ r :: q).length = pre.length + (q.length + 1) := by simp
    have ih := written_loop k hk q (pre ++ [r]) (acc ++ [strOfNums (unitE k r)]) (fun x hx => hq x (List.mem_cons_of_mem _ hx)) (by simpa using hl) (by simp [ha])
    have e1 : (pre ++ [r]) ++ q = pre ++ r :: q := by simp
    have e2 : ((pre ++ [r]).length : Int) = (pre.length : Int) + 1 := by simp
    have e3 : (acc ++ [strOfNums (unitE k r)]) ++ q.map (fun r => strOfNums (unitE k r)) = acc ++ (r :: q).map (fun r => strOfNums (unitE k r)) := by simp
    rw [e1, e2, e3] at ih
    have hrd : rd (pre ++ r :: q) (pre.length : Int) = r := by simp [rd, rdOf, List.getD_eq_getElem?_getD]
    refine Ev.step (f := fun n => (bobbinref08_unit.f n k r).bind fun t => (if acc.length < 8796093022208 then (bobbinref08_Written.l0 n k (pre ++ r :: q) (acc ++ [t]) (wrap64 ((pre.length : Int) + 1))) else (none))) (fun n => ?_) ?_
    · rw [bobbinref08_Written.l0, if_pos (by rw [hlen]; omega), if_pos (by omega), hrd]
    · refine Ev.bind (unit_ev k r hk hr.1 hr.2) ?_
      refine Ev.congr (fun n => ?_) ih
      rw [if_pos (by omega), y_wrap _ (by omega)]
theorem rune_le2 {ch : List Int} (h : V.Form ch) : 0 ≤ runeOf ch ∧ runeOf ch ≤ 2147483647 := by
  have := V.rune_le h
  have := V.rune_pos h
  omega
theorem written_ev (k : Int) (hk : 1 ≤ k ∧ k ≤ 10) (x : List Int) (hx : Valid x) (hl : x.length ≤ 1099511627776) : Ev (fun n => bobbinref08_Written.f n k x) (strs (unitsOf k x)) := by
  refine Ev.bind (PUtf.runes_ev x hl hx.2) ?_
  have hc := V.flatten_ge (chars x) hx.form
  rw [hx.flat] at hc
  have h := written_loop k hk ((chars x).map runeOf) [] [] (by
    intro r hr
    obtain ⟨ch, hch, rfl⟩ := List.mem_map.1 hr
    exact rune_le2 (hx.form ch hch)) (by simp; omega) rfl
  rw [List.nil_append, List.nil_append, List.map_map] at h
  have e : strs (unitsOf k x) = (chars x).map ((fun r => strOfNums (unitE k r)) ∘ runeOf) := by
    unfold strs unitsOf unitsE
    rw [List.map_map]
    rfl
  rw [e]
  exact h
theorem pass_ev (x : List Int) (hx : IsB x) (hl : x.length ≤ 1099511627776) : Ev (fun n => PSc.bobbinref05_Pass.f n x) (strOfNums (Z.passL x)) := by
  refine ⟨x.length + 1, fun n hn => ?_⟩
  have h := Z.pass5_ev x (isB_small hx) (by omega) n (by omega)
  show PSc.bobbinref05_Pass.f n x = _
  rw [h]
  unfold Z.passL
  cases Z.stopped x <;> rfl
theorem unitsR_ev (k : Int) (hk : 1 ≤ k ∧ k ≤ 10) (p : List Int) (hp : IsB p) (hl : p.length ≤ 134217728) : Ev (fun n => bobbinref08_Units.f n k p) (strs (wholeE k p)) := by
  refine Ev.bind (PUtf.ref_clean_ev p (by omega)) ?_
  have hc := clean_le p
  have hv := Valid.of_clean hp
  unfold wholeE fullE
  by_cases h4 : k = 4
  · subst h4
    rw [if_pos rfl]
    have hpl := Z.pass_length (clean p)
    refine Ev.congr (fun n => if_pos rfl) ?_
    refine Ev.bind (pass_ev (clean p) hv.2 (by omega)) ?_
    refine Ev.congr (fun n => ?_) (written_ev 4 hk (Z.passL (clean p)) hv.pass (by omega))
    rw [if_pos (by rw [strOfNums_size]; omega), y_bytesOf _ hv.pass.2, List.nil_append]
    cases bobbinref08_Written.f n 4 (Z.passL (clean p)) <;> rfl
  · rw [if_neg h4]
    refine Ev.congr (fun n => if_neg h4) ?_
    exact Ev.bind (written_ev k hk (clean p) hv (by omega)) (Ev.now _)
end Go.Proofs.YtdpnnglfaofjeaaDoor.Y
namespace Go.Proofs.YtdpnnglfaofjeaaDoor.Y
open Go.RowKit Go.Proofs.YtdpnnglfaofjeaaDoorW.PrintWords Go.Proofs.YtdpnnglfaofjeaaDoorW.PrintLast Go.Proofs.YtdpnnglfaofjeaaDoorW.PrintMore
open Go.Proofs.YtdpnnglfaofjeaaDoor.V (RB RB.of_OB RB.lit info5 runeOf run rest3 clean chars DecIs IsB fffd only_setCell)
open Go.Proofs.YtdpnnglfaofjeaaDoor.Z (GateG GateIs FeedG FinG Only outG heldG wantL sureG passL SchOK blockedL)
set_option linter.unusedVariables false
set_option linter.unusedSimpArgs false
set_option maxRecDepth 1000000
theorem whole_lt : (wholeE 1 [60]).flatten = [38, 108, 116, 59] := by decide +kernel
set_option maxHeartbeats 4000000 in
theorem awake8_calls (w : World) (hE : EnvOK w) : Calls Tryd.prog 47 #[] w fun e w' => e = .returned (.bool true) ∧ Below w.heap.size w w' := by
  have kc := Lib.run_convert_bytes_const (P := Tryd.prog) w 22 5 #[.int .u8 60] 1 1 Tryd.underlying22 Tryd.underlying5
  have hn := heap_alloc_new w (.cells #[.int .u8 60] 5 (1, 2))
  obtain ⟨A0, c0, he, hc0, hF⟩ := RB.lit (B := 0) (l := [60]) (c := 1) (by exact hn) (Nat.zero_le _) (by decide) (Nat.le_refl _)
  injection he with h1 h2 h3
  subst h1
  subst h3
  have hC := Kd.F_now hF
  have hb0 := (Below.refl w.heap.size w).alloc (Nat.le_refl _) (.cells #[.int .u8 60] 5 (1, 2))
  have cA := all_calls 1 (by decide) [60] _ 1 _ hC (by decide) (by decide) (by intro x hx; simp at hx; omega) (hE.below hb0)
  rw [whole_lt] at cA
  go_enter Tryd.func47, Tryd.ntmps47
  go_wp2_with fail
  refine cA.mono ?_
  rintro e w1 ⟨v1, rfl, ho1, hb1⟩
  obtain ⟨A1, c1, rfl, hc1, hC1⟩ := Kd.R_reads ho1
  have hs1 := Z.z_string (c := c1) hC1
  have hs2 : (convert 22 9 (.slice A1 4 c1)).run Tryd.prog w1 = .ok (.string ⟨#[38, 108, 116, 59]⟩) w1 := hs1
  clear hs1
  have hb1' := below_then hb0 hb0.size hb1
  go_wp2
  go_ret
  exact ⟨rfl, hb1'⟩
theorem kinds_calls (k : Int) (hk : 0 ≤ k ∧ k ≤ 255) (w : World) : ∃ q, 1 ≤ q ∧ q ≤ 10 ∧ Calls Tryd.prog 51 #[.int .u8 k] w fun e w' => e = .returned (.int .u8 q) ∧ w' = w := by
  refine ⟨1 + k % 10, by omega, by omega, ?_⟩
  have h1 : k.tmod 10 = k % 10 := Int.tmod_eq_emod_of_nonneg (by omega)
  have h2 : IntKind.u8.wrap (k.tmod 10) = k % 10 := by rw [h1, IntKind.wrap_u8]; omega
  have h3 : IntKind.u8.wrap (k % 10) = k % 10 := by rw [IntKind.wrap_u8]; omega
  have h4 : IntKind.u8.wrap (1 + k % 10) = 1 + k % 10 := by rw [IntKind.wrap_u8]; omega
  have h5 : (1 + k % 10) % 256 = 1 + k % 10 := by omega
  go_enter Tryd.func51, Tryd.ntmps51
  go_wp2
  go_ret
  exact ⟨by first | rfl | (simp; done) | (simp [h4, h5]; done), rfl⟩
def JoinIs (w : World) (base : Nat) (v : Value) (l : List Int) (e : Ending) (w' : World) : Prop :=
  ∃ v1, e = .returned v1 ∧ Kd.R (Kd.int .u8) 5 w' base (fun _ => True) v1 l ∧ w.grownBy w' v.ownBlock ∧ (v1.ownBlock = v.ownBlock ∨ ∃ b, v1.ownBlock = some b ∧ w.heap.size ≤ b)
end Go.Proofs.YtdpnnglfaofjeaaDoor.Y
namespace Go.Proofs.YtdpnnglfaofjeaaDoor.Y
open Go.RowKit Go.Proofs.YtdpnnglfaofjeaaDoorW.PrintWords Go.Proofs.YtdpnnglfaofjeaaDoorW.PrintLast Go.Proofs.YtdpnnglfaofjeaaDoorW.PrintMore
open Go.Proofs.YtdpnnglfaofjeaaDoor.V (RB RB.of_OB RB.lit info5 runeOf run rest3 clean chars DecIs IsB fffd only_setCell)
open Go.Proofs.YtdpnnglfaofjeaaDoor.Z (Only)
set_option linter.unusedVariables false
set_option linter.unusedSimpArgs false
set_option maxRecDepth 1000000
theorem R_only {F : Nat → Prop} {w w1 : World} {base : Nat} {v : Value} {xs : List Int} (h : Kd.R (Kd.int .u8) 5 w base (fun _ => True) v xs) (hO : Only F w w1) (hv : ∀ k, v.ownBlock = some k → ¬ F k) : Kd.R (Kd.int .u8) 5 w1 base (fun _ => True) v xs :=
  Kd.R_mono (Kd.R_step (Kd.R_of_own (ok := fun k => v.ownBlock = some k) (Kd.own_of_R h) (fun _ h => h)) (fun k hk hl => hO.block k hl (hv k hk))) (fun _ _ => trivial)
def JS (w0 W : World) (B b : Nat) (k : Int) (S : List Int) (P : Nat → Prop) (v : Value) (xs : List Int) : Prop :=
  EscIs W P B b k S ∧ (∀ x, P x → B ≤ x ∧ x < W.heap.size ∧ some x ≠ v.ownBlock) ∧ Kd.R (Kd.int .u8) 5 W w0.heap.size (fun _ => True) v xs ∧ Below w0.heap.size w0 W ∧ w0.heap.size ≤ B ∧ B ≤ W.heap.size
theorem JS.new {w0 w w' : World} {b : Nat} {k : Int} (hb0 : Below w0.heap.size w0 w) (hE : EscIs w' (fun x => w.heap.size ≤ x) w.heap.size b k []) (hb : Below w.heap.size w w') :
    JS w0 w' w.heap.size b k [] (fun x => w.heap.size ≤ x ∧ x < w'.heap.size) (.slice none 0 0) [] :=
  ⟨hE.bound, fun x hx => ⟨hx.1, hx.2, by simp [Value.ownBlock]⟩, Kd.R_nil _ _ _ _ _, below_then hb0 hb0.size hb, hb0.size, hb.size⟩
theorem JS.below {w0 W W1 : World} {B b : Nat} {k : Int} {S : List Int} {P : Nat → Prop} {v : Value} {xs : List Int} (h : JS w0 W B b k S P v xs) (hb : Below W.heap.size W W1) : JS w0 W1 B b k S P v xs :=
  ⟨h.1.below hb, fun x hx => ⟨(h.2.1 x hx).1, Nat.lt_of_lt_of_le (h.2.1 x hx).2.1 hb.size, (h.2.1 x hx).2.2⟩, Kd.R_below h.2.2.1 hb, below_then h.2.2.2.1 h.2.2.2.1.size hb, h.2.2.2.2.1, Nat.le_trans h.2.2.2.2.2 hb.size⟩
theorem JS.fresh {w0 W : World} {B b : Nat} {k : Int} {S : List Int} {P : Nat → Prop} {v : Value} {xs : List Int} (h : JS w0 W B b k S P v xs) : JS w0 W B b k S P (.slice none 0 0) [] :=
  ⟨h.1, fun x hx => ⟨(h.2.1 x hx).1, (h.2.1 x hx).2.1, by simp [Value.ownBlock]⟩, Kd.R_nil _ _ _ _ _, h.2.2.2⟩
def JP (W : World) (P : Nat → Prop) : Nat → Prop := fun x => P x ∨ W.heap.size ≤ x
theorem JS.feeds {w0 W : World} {B b : Nat} {k : Int} {S p : List Int} {P : Nat → Prop} {v : Value} {xs : List Int} (h : JS w0 W B b k S P v xs) (hk : 1 ≤ k ∧ k ≤ 10) (A : Option Addr) (c : Nat) (hp : Kd.C (Kd.int .u8) W A p.length p) (hc : p.length ≤ c)
    (hN : S.length + p.length ≤ 1073741824) (hBS : IsB S) (hBp : IsB p) (hE : EnvOK w0) :
    Calls Tryd.prog 53 #[.pointer (some ⟨b, 0, none⟩), .slice A p.length c] W (FeedE W (JP W P) B b k (S ++ p) (unitsOf k (letE k (run S).1 (run ((run S).2 ++ p)).1))) :=
  feedE_calls (JP W P) B b k hk S p A c W (h.1.mono (fun x hx => .inl hx)) hp hc hN hBS hBp (hE.below h.2.2.2.1) (Nat.le_trans hE.1.six h.2.2.2.2.1)
    (fun x hx => by rcases hx with hx | hx; exact (h.2.1 x hx).1; exact Nat.le_trans h.2.2.2.2.2 hx) h.2.2.2.2.2 (fun x hx => .inr hx)
theorem JS.fins {w0 W : World} {B b : Nat} {k : Int} {S : List Int} {P : Nat → Prop} {v : Value} {xs : List Int} (h : JS w0 W B b k S P v xs) (hk : 1 ≤ k ∧ k ≤ 10) (hN : S.length ≤ 1073741824) (hBS : IsB S) (hE : EnvOK w0) :
    Calls Tryd.prog 54 #[.pointer (some ⟨b, 0, none⟩)] W (FeedE W (JP W P) B b k [] (unitsOf k (letE k (run S).1 (rest3 (run S).2) ++ restE k (clean S)))) :=
  finE_calls (JP W P) B b k hk S W (h.1.mono (fun x hx => .inl hx)) hN hBS (hE.below h.2.2.2.1) (Nat.le_trans hE.1.six h.2.2.2.2.1)
    (fun x hx => by rcases hx with hx | hx; exact (h.2.1 x hx).1; exact Nat.le_trans h.2.2.2.2.2 hx) h.2.2.2.2.2 (fun x hx => .inr hx)
theorem JS.fed {w0 W W1 : World} {B b : Nat} {k : Int} {S S' : List Int} {P : Nat → Prop} {v : Value} {xs : List Int} {L : List (List Int)} {e : Ending} (h : JS w0 W B b k S P v xs) (hf : FeedE W (JP W P) B b k S' L e W1) :
    ∃ (m : Nat) (A : Option Addr) (c : Nat), e = .returned (.slice A L.length c) ∧ L.length ≤ c ∧ W.heap.size ≤ m ∧ Kd.N (Kd.slice 5 (Kd.int .u8)) 22 W1 m (fun x => m ≤ x) (.slice A L.length c) L ∧ Kd.F (Kd.slice 5 (Kd.int .u8)) W1 (fun x => m ≤ x) A L.length L ∧
      JS w0 W1 B b k S' (fun x => (JP W P x ∧ x < m) ∧ x < W1.heap.size) v xs ∧ Only (JP W P) W W1 ∧ W.heap.size ≤ W1.heap.size := by
  obtain ⟨m, v1, rfl, hm, hn, hE, hO⟩ := hf
  obtain ⟨A, c, rfl, hc, _⟩ := Kd.N_reads hn
  have hl := Kd.R_lt h.2.2.1
  have hsz := hO.size
  have hown : ∀ q, v.ownBlock = some q → ¬ JP W P q := fun q hq hj => by
    rcases hj with hj | hj
    · exact (h.2.1 q hj).2.2 hq.symm
    · have := hl q hq; omega
  refine ⟨m, A, c, rfl, hc, hm, hn, Kd.N_F hn, ⟨hE.bound, fun x hx => ⟨?_, hx.2, fun e => hown x e.symm hx.1.1⟩, R_only h.2.2.1 hO hown, h.2.2.2.1.trans (hO.below (fun x hx => ?_) h.2.2.2.1.size), h.2.2.2.2.1, Nat.le_trans h.2.2.2.2.2 hsz⟩, hO, hsz⟩
  · rcases hx.1.1 with h1 | h1
    · exact (h.2.1 x h1).1
    · exact Nat.le_trans h.2.2.2.2.2 h1
  · rcases hx with h1 | h1
    · exact Nat.le_trans h.2.2.2.2.1 (h.2.1 x h1).1
    · exact Nat.le_trans h.2.2.2.1.size h1
theorem JS.joined {w0 W W1 : World} {B b : Nat} {k : Int} {S : List Int} {P : Nat → Prop} {v : Value} {xs ys : List Int} {e : Ending} (h : JS w0 W B b k S P v xs) (hj : JoinIs W w0.heap.size v ys e W1) :
    ∃ A c, e = .returned (.slice A ys.length c) ∧ ys.length ≤ c ∧ JS w0 W1 B b k S P (.slice A ys.length c) ys ∧ W.grownBy W1 v.ownBlock ∧ ((Value.slice A ys.length c).ownBlock = v.ownBlock ∨ ∃ q, (Value.slice A ys.length c).ownBlock = some q ∧ W.heap.size ≤ q) := by
  obtain ⟨v1, rfl, ho, hg, ha⟩ := hj
  obtain ⟨A, c, rfl, hc, _⟩ := Kd.R_reads ho
  refine ⟨A, c, rfl, hc, ⟨h.1.step (fun x hx hl => hg.block x hl (h.2.1 x hx).2.2), fun x hx => ⟨(h.2.1 x hx).1, Nat.lt_of_lt_of_le (h.2.1 x hx).2.1 hg.size, ?_⟩, ho, pw_below_grown h.2.2.2.1 _ h.2.2.2.1.size hg (fun q hq => Kd.R_base h.2.2.1 q hq), h.2.2.2.2.1, Nat.le_trans h.2.2.2.2.2 hg.size⟩, hg, ha⟩
  rcases ha with e | ⟨q, e, hq⟩
  · rw [e]; exact (h.2.1 x hx).2.2
  · rw [e]; intro e2; injection e2 with e2; have := (h.2.1 x hx).2.1; omega
def Apart (W : World) (P : Nat → Prop) (v u : Value) : Prop := ∀ q, u.ownBlock = some q → q < W.heap.size ∧ ¬ P q ∧ some q ≠ v.ownBlock
theorem Apart.fed {W W1 : World} {P : Nat → Prop} {v u : Value} {m : Nat} (h : Apart W P v u) (hs : W.heap.size ≤ W1.heap.size) : Apart W1 (fun x => (JP W P x ∧ x < m) ∧ x < W1.heap.size) v u := fun q hq =>
  ⟨Nat.lt_of_lt_of_le (h q hq).1 hs, fun hp => by rcases hp.1.1 with h1 | h1; exact (h q hq).2.1 h1; have := (h q hq).1; omega, (h q hq).2.2⟩
theorem Apart.joined {W W1 : World} {P : Nat → Prop} {v v1 u : Value} (h : Apart W P v u) (hg : W.grownBy W1 v.ownBlock) (ha : v1.ownBlock = v.ownBlock ∨ ∃ q, v1.ownBlock = some q ∧ W.heap.size ≤ q) : Apart W1 P v1 u := fun q hq =>
  ⟨Nat.lt_of_lt_of_le (h q hq).1 hg.size, (h q hq).2.1, by
    rcases ha with e | ⟨r, e, hr⟩
    · rw [e]; exact (h q hq).2.2
    · rw [e]; intro e2; injection e2 with e2; have := (h q hq).1; omega⟩
theorem Apart.below {W W1 : World} {P : Nat → Prop} {v u : Value} (h : Apart W P v u) (hb : Below W.heap.size W W1) : Apart W1 P v u := fun q hq => ⟨Nat.lt_of_lt_of_le (h q hq).1 hb.size, (h q hq).2⟩
def ApP (W : World) (P : Nat → Prop) (v : Value) (Q : Nat → Prop) : Prop := ∀ q, Q q → q < W.heap.size ∧ ¬ P q ∧ some q ≠ v.ownBlock
theorem ApP.fed {W W1 : World} {P Q : Nat → Prop} {v : Value} {m : Nat} (h : ApP W P v Q) (hs : W.heap.size ≤ W1.heap.size) : ApP W1 (fun x => (JP W P x ∧ x < m) ∧ x < W1.heap.size) v Q := fun q hq =>
  ⟨Nat.lt_of_lt_of_le (h q hq).1 hs, fun hp => by rcases hp.1.1 with h1 | h1; exact (h q hq).2.1 h1; have := (h q hq).1; omega, (h q hq).2.2⟩
theorem ApP.joined {W W1 : World} {P Q : Nat → Prop} {v v1 : Value} (h : ApP W P v Q) (hg : W.grownBy W1 v.ownBlock) (ha : v1.ownBlock = v.ownBlock ∨ ∃ q, v1.ownBlock = some q ∧ W.heap.size ≤ q) : ApP W1 P v1 Q := fun q hq =>
  ⟨Nat.lt_of_lt_of_le (h q hq).1 hg.size, (h q hq).2.1, by
    rcases ha with e | ⟨r, e, hr⟩
    · rw [e]; exact (h q hq).2.2
    · rw [e]; intro e2; injection e2 with e2; have := (h q hq).1; omega⟩
theorem ApP.below {W W1 : World} {P Q : Nat → Prop} {v : Value} (h : ApP W P v Q) (hb : Below W.heap.size W W1) : ApP W1 P v Q := fun q hq => ⟨Nat.lt_of_lt_of_le (h q hq).1 hb.size, (h q hq).2⟩
end Go.Proofs.YtdpnnglfaofjeaaDoor.Y
namespace Go.Proofs.YtdpnnglfaofjeaaDoor.Y
open Go.RowKit Go.Proofs.YtdpnnglfaofjeaaDoorW.PrintWords Go.Proofs.YtdpnnglfaofjeaaDoorW.PrintLast Go.Proofs.YtdpnnglfaofjeaaDoorW.PrintMore
open Go.Proofs.YtdpnnglfaofjeaaDoor.V (RB RB.of_OB RB.lit info5 runeOf run rest3 clean chars DecIs IsB fffd only_setCell)
set_option linter.unusedVariables false
set_option linter.unusedSimpArgs false
set_option maxRecDepth 1000000
theorem isB_nil : IsB [] := by intro x hx; simp at hx
end Go.Proofs.YtdpnnglfaofjeaaDoor.Y
namespace Go.Proofs.YtdpnnglfaofjeaaDoor.Y
open Go.RowKit Go.Proofs.YtdpnnglfaofjeaaDoorW.PrintWords Go.Proofs.YtdpnnglfaofjeaaDoorW.PrintLast Go.Proofs.YtdpnnglfaofjeaaDoorW.PrintMore
open Go.Proofs.YtdpnnglfaofjeaaDoor.V (RB RB.of_OB RB.lit info5 runeOf run rest3 clean chars DecIs IsB fffd only_setCell)
set_option linter.unusedVariables false
set_option linter.unusedSimpArgs false
set_option maxRecDepth 1000000
def feedU (k : Int) (S p : List Int) : List (List Int) := unitsOf k (letE k (run S).1 (run ((run S).2 ++ p)).1)
def finU (k : Int) (S : List Int) : List (List Int) := unitsOf k (letE k (run S).1 (rest3 (run S).2) ++ restE k (clean S))
theorem JS.feedsU {w0 W : World} {B b : Nat} {k : Int} {S p : List Int} {P : Nat → Prop} {v : Value} {xs : List Int} (h : JS w0 W B b k S P v xs) (hk : 1 ≤ k ∧ k ≤ 10) (A : Option Addr) (c : Nat) (hp : Kd.C (Kd.int .u8) W A p.length p) (hc : p.length ≤ c)
    (hN : S.length + p.length ≤ 8388608) (hBS : IsB S) (hBp : IsB p) (hE : EnvOK w0) : Calls Tryd.prog 53 #[.pointer (some ⟨b, 0, none⟩), .slice A p.length c] W (FeedE W (JP W P) B b k (S ++ p) (feedU k S p)) := h.feeds hk A c hp hc (by omega) hBS hBp hE
theorem JS.finsU {w0 W : World} {B b : Nat} {k : Int} {S : List Int} {P : Nat → Prop} {v : Value} {xs : List Int} (h : JS w0 W B b k S P v xs) (hk : 1 ≤ k ∧ k ≤ 10) (hN : S.length ≤ 8388608) (hBS : IsB S) (hE : EnvOK w0) :
    Calls Tryd.prog 54 #[.pointer (some ⟨b, 0, none⟩)] W (FeedE W (JP W P) B b k [] (finU k S)) := h.fins hk (by omega) hBS hE
end Go.Proofs.YtdpnnglfaofjeaaDoor.Y
namespace Go.Proofs.YtdpnnglfaofjeaaDoor.Y
open Go.RowKit Go.Proofs.YtdpnnglfaofjeaaDoorW.PrintWords Go.Proofs.YtdpnnglfaofjeaaDoorW.PrintLast Go.Proofs.YtdpnnglfaofjeaaDoorW.PrintMore
open Go.Proofs.YtdpnnglfaofjeaaDoor.V (RB RB.of_OB RB.lit info5 runeOf run rest3 clean chars DecIs IsB fffd only_setCell)
open Go.Proofs.YtdpnnglfaofjeaaDoor.Z (GateG GateIs FeedG FinG Only outG heldG wantL sureG passL SchOK blockedL)
set_option linter.unusedVariables false
set_option linter.unusedSimpArgs false
set_option maxRecDepth 1000000
def heldE (k : Int) (S : List Int) : Int := ((run S).2.length : Int) + (if k = 4 then ((heldG (run S).1).length : Int) else 0)
set_option maxHeartbeats 8000000 in
theorem heldE_calls (P : Nat → Prop) (B b : Nat) (k : Int) (S : List Int) (w : World) (h : EscIs w P B b k S) (hN : S.length ≤ 1073741824) :
    Calls Tryd.prog 57 #[.pointer (some ⟨b, 0, none⟩)] w fun e w' => e = .returned (.int .i64 (heldE k S)) ∧ Below w.heap.size w w' := by
  obtain ⟨d, gp, D, hP, he, hd, hD, hg⟩ := h
  have k1 := V.run_len S
  have hc1 : w.cell? ⟨b, 1, none⟩ = some (.pointer (some ⟨d, 0, none⟩)) := blk_cell he 1
  have hc1' : w.drew.cell? ⟨b, 1, none⟩ = some (.pointer (some ⟨d, 0, none⟩)) := hc1
  have hdW : DecIs w.drew D d (run S).2 := hd
  have cC := V.carry_calls D d (run S).2 w.drew hdW (by omega)
  have hbd : Below w.heap.size w w.drew := below_drew (Below.refl _ _)
  rcases hg with ⟨h4, rfl⟩ | ⟨rfl, g, G, rfl, hG, hGx⟩
  · have eh : heldE k S = ((run S).2.length : Int) := by unfold heldE; rw [if_neg h4]; omega
    rw [eh]
    have hc2 : w.cell? ⟨b, 2, none⟩ = some (.pointer none) := blk_cell he 2
    have hc2' : w.drew.cell? ⟨b, 2, none⟩ = some (.pointer none) := hc2
    generalize (run S).2 = r at *
    have hw : IntKind.i64.wrap ((r.length : Int) + 0) = (r.length : Int) := by rw [Int.add_zero]; exact IntWalk.i64_in _ (by omega)
    have hw' : IntKind.i64.wrap (r.length : Int) = (r.length : Int) := IntWalk.i64_in _ (by omega)
    clear eh hD hd hdW
    go_enter Tryd.func57, Tryd.ntmps57
    go_wp2_with fail
    go_region_with (first
      | (go_at_call 79; go_loud (
          refine cC.mono ?_
          rintro e w1 ⟨v1, rfl, ho1, hb1⟩
          have hb1' := below_then hbd hbd.size hb1
          obtain ⟨A1, c1, rfl, hc1n, hC1⟩ := Kd.R_reads ho1
          have he1 := (hb1.block b (blk_lt he)).trans he
          have hcc2 : w1.cell? ⟨b, 2, none⟩ = some (.pointer none) := blk_cell he1 2
          have cG := Z.gheld_nil w1
          clear ho1 hC1))
      | (go_at_call 45; go_loud (refine cG.mono ?_; rintro e w2 ⟨rfl, hw2⟩; obtain rfl : w1 = w2 := hw2.symm)))
    all_goals (
      go_wp2
      go_ret
      exact ⟨by first | rfl | (simp; done) | (simp [hw']; done), hb1'⟩)
  · have eh : heldE 4 S = ((run S).2.length : Int) + ((heldG (run S).1).length : Int) := by unfold heldE; rw [if_pos rfl]
    rw [eh]
    have hc2 : w.cell? ⟨b, 2, none⟩ = some (.pointer (some ⟨g, 0, none⟩)) := blk_cell he 2
    have hc2' : w.drew.cell? ⟨b, 2, none⟩ = some (.pointer (some ⟨g, 0, none⟩)) := hc2
    have khl : (heldG (run S).1).length ≤ (run S).1.length := by unfold Z.heldG; split <;> simp
    have hgc := fun (W : World) (hb : Below w.heap.size w W) => Z.heldG_calls _ _ _ _ W (hG.below hb)
    have HGC := Lib.hid hgc
    generalize (run S).2 = r at *
    generalize (heldG (run S).1).length = hn at *
    have hw : IntKind.i64.wrap ((r.length : Int) + (hn : Int)) = (r.length : Int) + (hn : Int) := IntWalk.i64_in _ (by omega)
    have hw0 : (0 : Int) ≤ (r.length : Int) + (hn : Int) := by omega
    clear eh hD hd hdW hG hGx hgc
    go_enter Tryd.func57, Tryd.ntmps57
    go_wp2_with fail
    go_region_with (first
      | (go_at_call 79; go_loud (
          refine cC.mono ?_
          rintro e w1 ⟨v1, rfl, ho1, hb1⟩
          have hb1' := below_then hbd hbd.size hb1
          obtain ⟨A1, c1, rfl, hc1n, hC1⟩ := Kd.R_reads ho1
          have he1 := (hb1.block b (blk_lt he)).trans he
          have hcc2 : w1.cell? ⟨b, 2, none⟩ = some (.pointer (some ⟨g, 0, none⟩)) := blk_cell he1 2
          have cG := HGC.out w1 hb1'
          clear ho1 hC1))
      | (go_at_call 45; go_loud (refine cG.mono ?_; rintro e w2 ⟨rfl, hw2⟩; obtain rfl : w1 = w2 := hw2.symm)))
    all_goals (
      go_wp2
      go_ret
      exact ⟨by first | rfl | simp, hb1'⟩)
end Go.Proofs.YtdpnnglfaofjeaaDoor.Y
namespace Go.Proofs.YtdpnnglfaofjeaaDoor.Y
open Go.RowKit Go.Proofs.YtdpnnglfaofjeaaDoorW.PrintWords Go.Proofs.YtdpnnglfaofjeaaDoorW.PrintLast Go.Proofs.YtdpnnglfaofjeaaDoorW.PrintMore
open Go.Proofs.YtdpnnglfaofjeaaDoor.V (RB RB.of_OB RB.lit info5 runeOf run rest3 clean chars DecIs IsB fffd only_setCell OB run_len run_rest clean_sure)
set_option linter.unusedVariables false
set_option linter.unusedSimpArgs false
set_option maxRecDepth 1000000
def SureIs (w : World) (A : Option Addr) (l : List Int) (e : Ending) (w' : World) : Prop :=
  ∃ v A2 c2, e = .returned (.tuple #[v, .slice A2 (run l).2.length c2]) ∧ OB w w' v (run l).1 ∧ (run l).2.length ≤ c2 ∧
    (∀ W', Kd.C (Kd.int .u8) W' A l.length l → Kd.C (Kd.int .u8) W' A2 (run l).2.length (run l).2) ∧ Below w.heap.size w w'
set_option maxHeartbeats 4000000 in
theorem sure_calls (l : List Int) (A : Option Addr) (c : Nat) (w : World) (hp : Kd.C (Kd.int .u8) w A l.length l) (hc : l.length ≤ c) (hN : l.length ≤ 1099511627776) :
    Calls Tryd.prog 77 #[.slice A l.length c] w (SureIs w A l) := by
  obtain ⟨i0, hi0, _, hsz0, _⟩ := info_parts info5
  obtain ⟨k1, hk1⟩ := (PUtf.pieces_ev l hN).rounds
  have hsz := run_len l
  have hr := run_rest l
  have hs := clean_sure l
  obtain ⟨m, hm, hml, hn0⟩ : ∃ m : Nat, l.length - (run l).2.length = m ∧ m ≤ l.length ∧ (l.length : Int) - ((run l).2.length : Int) = (m : Int) := ⟨_, rfl, by omega, by omega⟩
  rw [hm] at hr hs
  obtain ⟨htake, hT1, htc⟩ := print_take_of (P := Tryd.prog) (Value.int .u8) 0 22 5 .i64 Tryd.underlying22 hi0 hsz0 A c l (m : Int) (by omega) (by omega) hc
  obtain ⟨A2, hdrop, hT2, hdc⟩ := print_drop_of (P := Tryd.prog) (Value.int .u8) 0 22 5 .i64 Tryd.underlying22 hi0 hsz0 A c l (m : Int) (by omega) (by omega) hc
  rw [Int.toNat_natCast] at htake hT1 htc hdrop hT2 hdc
  have htl : (l.take m).length ≤ 1099511627776 := by rw [List.length_take]; omega
  rw [← hr] at hdrop hT2 hdc
  generalize l.take m = q at htake hT1 htc hs htl
  obtain ⟨k2, hk2⟩ := (PUtf.ref_clean_ev q htl).rounds
  rw [hs] at hk2
  clear hr hs hm
  unfold SureIs
  obtain ⟨o, r, e1⟩ : ∃ o r, run l = (o, r) := ⟨_, _, rfl⟩
  rw [e1] at hk1 hk2 hsz hn0 hdrop hT2 hdc ⊢
  simp only at hk1 hk2 hsz hn0 hdrop hT2 hdc ⊢
  clear e1
  go_enter Tryd.func77, Tryd.ntmps77
  go_wp2_with fail
  refine (PUtf.bobbinref01_Pieces.calls k1 A c l _ _ _ w hp hc hk1).mono ?_
  rintro e w1 ⟨v1, v2, rfl, ho1, ho2, hb1⟩
  clear ho1 ho2
  have hb1' : Below w.heap.size w w1.drew := below_drew hb1
  have hC1 : ∀ W : World, Below w.heap.size w W → Kd.C (Kd.int .u8) W A q.length q := fun W hW => Kd.C_of_reads (h1 := fun _ => rfl) (hT1 _ (Kd.reads_of_C (Kd.C_below hp hW)))
  have hwr : IntKind.i64.wrap ((l.length : Int) - (r.length : Int)) = (m : Int) := by rw [hn0]; exact IntWalk.i64_in _ (by omega)
  have hwr2 : IntKind.i64.wrap (m : Int) = (m : Int) := IntWalk.i64_in _ (by omega)
  go_wp2_with fail
  go_region_with (go_at_call 36; refine (PUtf.bobbinref01_Clean.calls k2 A c q _ _ ?_ htc hk2).mono ?_; exact hC1 _ hb1'; rintro e w2 ⟨v3, rfl, ho3, hb3⟩)
  go_wp2_with fail
  go_ret2
  exact ⟨v3, A2, c - m, rfl, Kd.R_lower ho3 hb1'.size, hdc, fun W' hW => Kd.C_of_reads (h1 := fun _ => rfl) (hT2 _ (Kd.reads_of_C hW)), below_then hb1' hb1'.size hb3⟩
def SureR (w : World) (k : Int) (S : List Int) (e : Ending) (w' : World) : Prop :=
  ∃ v, e = .returned (.tuple #[v, .int .i64 (heldE k S)]) ∧ Kd.R Kd.string 9 w' w.heap.size (fun _ => True) v (strs (unitsOf k (wantE k (run S).1))) ∧ Below w.heap.size w w'
set_option maxHeartbeats 8000000 in
theorem sureR_calls (k : Int) (hk : 1 ≤ k ∧ k ≤ 10) (S : List Int) (A : Option Addr) (c : Nat) (w : World) (hp : Kd.C (Kd.int .u8) w A S.length S) (hc : S.length ≤ c) (hN : S.length ≤ 8388608) (hB : IsB S) :
    Calls Tryd.prog 55 #[.int .i64 k, .slice A S.length c] w (SureR w k S) := by
  have cS := sure_calls S A c w hp hc (by omega)
  have hl := V.run_len S
  have hv := Valid.run hB
  unfold SureIs at cS
  have HP := Lib.hid hp
  clear hp
  by_cases h4 : k = 4
  · subst h4
    have eh : heldE 4 S = ((run S).2.length : Int) + ((Z.heldG (run S).1).length : Int) := by unfold heldE; rw [if_pos rfl]
    have ew : wantE 4 (run S).1 = Z.wantL (run S).1 := by unfold wantE; rw [if_pos rfl]
    unfold SureR
    rw [eh, ew]
    have e1 := Z.sure5_ev (run S).1 (by omega) ((run S).1.length + 1) (by omega)
    have e4 : PSc.bobbinref05_Sure.f ((run S).1.length + 1) (run S).1 = some (Z.sureG (run S).1) := e1
    obtain ⟨np, hnp⟩ := (pass_ev (run S).1 hv.2 (by omega)).rounds
    obtain ⟨nw, hnw⟩ := (written_ev 4 (by decide) (Z.passL (run S).1) hv.pass (by have := Z.pass_length (run S).1; omega)).rounds
    have hbp := y_bytesOf _ hv.pass.2
    have hpl := Z.pass_length (run S).1
    have hhf : Z.sureG (run S).1 = false → Z.heldG (run S).1 = (run S).1 := fun h => by unfold Z.heldG; rw [h]; simp
    have hht : Z.sureG (run S).1 = true → Z.heldG (run S).1 = [] := fun h => by unfold Z.heldG; rw [h]; simp
    have hwf : Z.sureG (run S).1 = false → Z.wantL (run S).1 = [] := fun h => by unfold Z.wantL; rw [h]; simp
    have hwt : Z.sureG (run S).1 = true → Z.wantL (run S).1 = Z.passL (run S).1 := fun h => by unfold Z.wantL; rw [h]; simp
    clear e1 hv eh ew
    generalize (run S).1 = o at *
    generalize (run S).2 = r at *
    cases hs : Z.sureG o
    · rw [hhf hs, hwf hs, unitsOf_nil]
      rw [hs] at e4
      have hw1 : IntKind.i64.wrap ((r.length : Int) + (o.length : Int)) = (r.length : Int) + (o.length : Int) := IntWalk.i64_in _ (by omega)
      clear hhf hht hwf hwt hs hnp hnw hbp hpl
      go_enter Tryd.func55, Tryd.ntmps55
      go_wp2_with fail
      refine cS.mono ?_
      rintro e w1 ⟨v1, A2, c2, rfl, ho1, hc2, hT1, hb1⟩
      obtain ⟨A1, c1, rfl, hc1, hC1⟩ := Kd.R_reads ho1
      have cSu := PSc.bobbinref05_Sure.calls (o.length + 1) A1 c1 o false w1 hC1 hc1 e4
      clear ho1
      go_wp2_with (go_at_call 43; go_loud (refine cSu.mono ?_; rintro e w2 ⟨rfl, hd2⟩))
      go_ret2
      exact ⟨_, rfl, Kd.R_nil _ _ _ _ _, below_then hb1 hb1.size hd2.below⟩
    · rw [hht hs, hwt hs]
      rw [hs] at e4
      have hw1 : IntKind.i64.wrap ((r.length : Int) + ((([] : List Int).length : Nat) : Int)) = (r.length : Int) := by simp; exact IntWalk.i64_in _ (by omega)
      have hr0 : ((r.length : Int) + ((([] : List Int).length : Nat) : Int)) = (r.length : Int) := by simp
      rw [hr0]
      clear hhf hht hwf hwt hs
      generalize Z.passL o = q at *
      go_enter Tryd.func55, Tryd.ntmps55
      go_wp2_with fail
      refine cS.mono ?_
      rintro e w1 ⟨v1, A2, c2, rfl, ho1, hc2, hT1, hb1⟩
      obtain ⟨A1, c1, rfl, hc1, hC1⟩ := Kd.R_reads ho1
      have cSu := PSc.bobbinref05_Sure.calls (o.length + 1) A1 c1 o true w1 hC1 hc1 e4
      have HC1 := Lib.hid hC1
      clear ho1 hC1
      go_wp2_with fail
      refine cSu.mono ?_
      rintro e w2 ⟨rfl, hd2⟩
      have hb2 := below_then hb1 hb1.size hd2.below
      have cP := PSc.bobbinref05_Pass.calls np A1 c1 o (strOfNums q) w2 (Kd.C_below HC1.out hd2.below) hc1 hnp
      go_wp2_with fail
      refine cP.mono ?_
      rintro e w3 ⟨rfl, hb3⟩
      have hb3' := below_then hb2 hb2.size hb3
      obtain ⟨Av, cv, wv, hcv, hlv, hCv, _, hbv⟩ := conv_sb w3 (strOfNums q) q hbp (by rw [strOfNums_size]; omega)
      have hbv' := below_then hb3' hb3'.size hbv
      have cW := PEr.bobbinref08_Written.calls nw 4 Av cv q (strs (unitsOf 4 q)) wv hCv hlv hnw
      clear cP cSu
      go_wp2_with (go_at_call 78; go_loud (refine cW.mono ?_; rintro e w4 ⟨v4, rfl, ho4, hb4⟩))
      go_ret2
      exact ⟨_, rfl, Kd.R_lower ho4 hbv'.size, below_then hbv' hbv'.size hb4⟩
  · have eh : heldE k S = ((run S).2.length : Int) := by unfold heldE; rw [if_neg h4]; omega
    have ew : wantE k (run S).1 = (run S).1 := by unfold wantE; rw [if_neg h4]
    unfold SureR
    rw [eh, ew]
    obtain ⟨nw, hnw⟩ := (written_ev k hk (run S).1 hv (by omega)).rounds
    have h4' : (k == 4) = false := beq_eq_false_iff_ne.2 h4
    have h4'' : (k != 4) = true := bne_iff_ne.2 h4
    clear hv eh ew
    generalize (run S).1 = o at *
    generalize (run S).2 = r at *
    go_enter Tryd.func55, Tryd.ntmps55
    go_wp2_with fail
    refine cS.mono ?_
    rintro e w1 ⟨v1, A2, c2, rfl, ho1, hc2, hT1, hb1⟩
    obtain ⟨A1, c1, rfl, hc1, hC1⟩ := Kd.R_reads ho1
    have cW := PEr.bobbinref08_Written.calls nw k A1 c1 o (strs (unitsOf k o)) w1 hC1 hc1 hnw
    clear ho1
    go_wp2_with (go_at_call 78; go_loud (refine cW.mono ?_; rintro e w4 ⟨v4, rfl, ho4, hb4⟩))
    go_ret2
    exact ⟨_, rfl, Kd.R_lower ho4 hb1.size, below_then hb1 hb1.size hb4⟩
end Go.Proofs.YtdpnnglfaofjeaaDoor.Y
namespace Go.Proofs.YtdpnnglfaofjeaaDoor.Y
open Go.RowKit Go.Proofs.YtdpnnglfaofjeaaDoorW.PrintWords Go.Proofs.YtdpnnglfaofjeaaDoorW.PrintLast Go.Proofs.YtdpnnglfaofjeaaDoorW.PrintMore
open Go.Proofs.YtdpnnglfaofjeaaDoor.V (RB RB.of_OB RB.lit info5 runeOf run rest3 clean chars DecIs IsB fffd only_setCell)
open Go.Proofs.YtdpnnglfaofjeaaDoor.Z (Only)
set_option linter.unusedVariables false
set_option linter.unusedSimpArgs false
set_option maxRecDepth 1000000
theorem strs_len (L : List (List Int)) : (strs L).length = L.length := by unfold strs; rw [List.length_map]
theorem strs_at (L : List (List Int)) (i : Nat) (h : i < L.length) : rdOf ByteArray.empty (strs L) (i : Int) = strOfNums (rd2 L i) := by
  unfold rdOf strs rd2
  simp [List.getD_eq_getElem?_getD, h]
set_option maxHeartbeats 8000000 in
theorem same_calls (L : List (List Int)) (A D : Option Addr) (c d : Nat) (w : World) (hp : Kd.C (Kd.slice 5 (Kd.int .u8)) w A L.length L) (hq : Kd.C Kd.string w D L.length (strs L)) (hL : L.length ≤ 1099511627776) :
    Calls Tryd.prog 56 #[.slice A L.length c, .slice D L.length d] w fun e w' => e = .returned (.bool true) ∧ Below w.heap.size w w' := by
  have HP := Lib.hid hp
  have HQ := Lib.hid hq
  clear hp hq
  go_enter Tryd.func56, Tryd.ntmps56
  go_wp2_with fail
  go_loopw [5] (fun v5 wr => ∃ i : Nat, v5 = .int .i64 (i : Int) ∧ i ≤ L.length ∧ Below w.heap.size w wr) (fun v5 _ => match v5 with | .int _ i => L.length - i.toNat | _ => 0)
  case atStart => exact ⟨0, rfl, Nat.zero_le _, Below.refl _ _⟩
  case round =>
    obtain ⟨i, rfl, hi, hb⟩ := hrel
    by_cases hlt : i < L.length
    · have hlt' : (i : Int) < (L.length : Int) := by omega
      have hw1 : IntKind.i64.wrap ((i : Int) + 1) = (i : Int) + 1 := IntWalk.i64_in _ (by omega)
      have hbd := below_then hb hb.size (below_drew (Below.refl wr.heap.size wr))
      obtain ⟨ad, A5, c5, rfl, hcell, hc5, hC5⟩ := at_rows (Kd.C_below HP.out hbd) i hlt
      obtain ⟨ad2, rfl, hcs⟩ := Kd.at_string (Kd.C_below HQ.out hbd) (i : Int) (by omega) (by omega)
      rw [Int.toNat_natCast, strs_at L i hlt] at hcs
      have hst := Z.z_string (c := c5) hC5
      generalize rd2 L i = row at *
      have hcell' : wr.cell? (ad.add i) = some (.slice A5 row.length c5) := hcell
      have hcs' : wr.cell? (ad2.add i) = some (.string (strOfNums row)) := hcs
      generalize strOfNums row = sr at *
      clear hC5
      go_wp2_with fail
      go_region_with (fail)
      all_goals (
        go_wp2_with fail
        go_roundw
        case rel => exact ⟨i + 1, by first | rfl | simp, by omega, hbd⟩
        case measure => simp; omega)
    · have hlt' : ¬ ((i : Int) < (L.length : Int)) := by omega
      go_wp2_with fail
      go_ret
      exact ⟨rfl, hb⟩
end Go.Proofs.YtdpnnglfaofjeaaDoor.Y
namespace Go.Proofs.YtdpnnglfaofjeaaDoor.V
open Go.RowKit Go.Proofs.YtdpnnglfaofjeaaDoorW.PrintWords Go.Proofs.YtdpnnglfaofjeaaDoorW.PrintLast Go.Proofs.YtdpnnglfaofjeaaDoorW.PrintMore
set_option linter.unusedVariables false
set_option linter.unusedSimpArgs false
theorem tailL_len (x : Int) : (tailL x).length ≤ 3 := by
  unfold tailL
  repeat' split
  all_goals simp
theorem wait_le (a : List Int) : (run a).2.length ≤ 3 := by
  have h := run_idem a
  generalize (run a).2 = r at h
  by_cases hp : 0 < r.length
  · have ho : (firstL r).2.2 = true := by
      cases ho : (firstL r).2.2
      · exfalso
        cases hg : (firstL r).2.1
        · rw [run_bad r hp ho hg] at h
          have := congrArg (fun z => z.1.length) h
          simp [fffd] at this
        · rw [run_good r hp ho hg] at h
          have h1 := firstL_pos r hp
          have h2 := firstL_le r hp
          have := congrArg (fun z => z.1.length) h
          simp only [List.length_append, List.length_take, List.length_nil] at this
          omega
      · rfl
    cases r with
    | nil => simp at hp
    | cons x l =>
      rw [firstL_cons] at ho
      have ht := tailL_len x
      have hm := matchLen_le (tailL x) l
      unfold firstM at ho
      by_cases h1 : x < 128
      · rw [if_pos h1] at ho; simp at ho
      · rw [if_neg h1] at ho
        by_cases h2 : tailL x = []
        · rw [if_pos h2] at ho; simp at ho
        · rw [if_neg h2] at ho
          by_cases h3 : matchLen (tailL x) l = (tailL x).length
          · rw [if_pos h3] at ho; simp at ho
          · rw [if_neg h3] at ho
            by_cases h4 : matchLen (tailL x) l = l.length
            · simp; omega
            · rw [if_neg h4] at ho; simp at ho
  · omega
end Go.Proofs.YtdpnnglfaofjeaaDoor.V
namespace Go.Proofs.YtdpnnglfaofjeaaDoor.Y
open Go.RowKit Go.Proofs.YtdpnnglfaofjeaaDoorW.PrintWords Go.Proofs.YtdpnnglfaofjeaaDoorW.PrintLast Go.Proofs.YtdpnnglfaofjeaaDoorW.PrintMore
open Go.Proofs.YtdpnnglfaofjeaaDoor.V (RB RB.of_OB RB.lit info5 runeOf run rest3 clean chars DecIs IsB fffd only_setCell)
open Go.Proofs.YtdpnnglfaofjeaaDoor.Z (Only)
set_option linter.unusedVariables false
set_option linter.unusedSimpArgs false
set_option maxRecDepth 1000000
theorem heldE_le (k : Int) (S : List Int) : 0 ≤ heldE k S ∧ heldE k S ≤ 19 := by
  have h1 := V.wait_le S
  unfold heldE
  split
  · have : (Z.heldG (run S).1).length ≤ 16 := by
      unfold Z.heldG
      split
      · simp
      · rename_i h
        have := (Z.unsure_iff (run S).1).1 (by simpa using h)
        omega
    omega
  · omega
theorem heldE_nil (k : Int) : heldE k [] = 0 := by
  unfold heldE
  rw [run_nil]
  split
  · rw [Z.heldG_nil]; rfl
  · rfl
def NU (k : Int) (S : List Int) : List (List Int) := unitsOf k (wantE k (run S).1)
theorem NU_nil (k : Int) : NU k [] = [] := by unfold NU; rw [run_nil, want_nil, unitsOf_nil]
theorem NU_feed (k : Int) {S p : List Int} (hS : IsB S) (hp : IsB p) : NU k (S ++ p) = NU k S ++ feedU k S p := (units_more k hS hp).symm
theorem NU_fin (k : Int) {S : List Int} (hS : IsB S) : wholeE k S = NU k S ++ finU k S := (units_end k hS).symm
theorem NU_len (k : Int) {S : List Int} (hS : IsB S) : (NU k S).length ≤ 3 * S.length + 8 := by
  have h1 := unitsOf_len k (Valid.wantE k (Valid.run hS))
  have h2 := V.run_len S
  have h3 : (wantE k (run S).1).length ≤ (run S).1.length + 8 := by
    unfold wantE Z.wantL
    split
    · split
      · have := Z.pass_length (run S).1; omega
      · simp
    · omega
  unfold NU
  omega
theorem strs_drop (L M : List (List Int)) : (strs (L ++ M)).drop L.length = strs M := by
  unfold strs
  rw [List.map_append, List.drop_left' (by rw [List.length_map])]
theorem JS.append {w0 W W1 : World} {B b : Nat} {k : Int} {S : List Int} {P : Nat → Prop} {v v1 : Value} {xs ys : List Int} (h : JS w0 W B b k S P v xs) (ho : Kd.R (Kd.int .u8) 5 W1 w0.heap.size (fun _ => True) v1 ys) (hg : W.grownBy W1 v.ownBlock)
    (ha : v1.ownBlock = v.ownBlock ∨ ∃ q, v1.ownBlock = some q ∧ W.heap.size ≤ q) : JS w0 W1 B b k S P v1 ys := by
  obtain ⟨A, c, he, _, hJ, _⟩ := h.joined (ys := ys) ⟨v1, rfl, ho, hg, ha⟩
  injection he with he
  subst he
  exact hJ
theorem R_onlyS {F : Nat → Prop} {w w1 : World} {base : Nat} {v : Value} {xs : List ByteArray} (h : Kd.R Kd.string 9 w base (fun _ => True) v xs) (hO : Only F w w1) (hv : ∀ k, v.ownBlock = some k → ¬ F k) : Kd.R Kd.string 9 w1 base (fun _ => True) v xs :=
  Kd.R_mono (Kd.R_step (Kd.R_of_own (ok := fun k => v.ownBlock = some k) (Kd.own_of_R h) (fun _ h => h)) (fun k hk hl => hO.block k hl (hv k hk))) (fun _ _ => trivial)
theorem info9 : (Tryd.prog.info? 9).map (fun i => (i.zero, i.size, i.bytes)) = some (some (.string ByteArray.empty), 1, 16) := by kernel_rfl
theorem flatten_drop2 (cs : List (List Int)) (i : Nat) (h : i < cs.length) : (cs.drop i).flatten.length = (rd2 cs i).length + (cs.drop (i + 1)).flatten.length := by
  rw [List.drop_eq_getElem_cons h, List.flatten_cons, List.length_append]
  simp [rd2, List.getD_eq_getElem?_getD, h, -List.length_flatten]
end Go.Proofs.YtdpnnglfaofjeaaDoor.Y
namespace Go.Proofs.YtdpnnglfaofjeaaDoor.Y
open Go.RowKit Go.Proofs.YtdpnnglfaofjeaaDoorW.PrintWords Go.Proofs.YtdpnnglfaofjeaaDoorW.PrintLast Go.Proofs.YtdpnnglfaofjeaaDoorW.PrintMore
open Go.Proofs.YtdpnnglfaofjeaaDoor.V (RB RB.of_OB RB.lit info5 runeOf run rest3 clean chars DecIs IsB fffd only_setCell)
open Go.Proofs.YtdpnnglfaofjeaaDoor.Z (Only)
set_option linter.unusedVariables false
set_option linter.unusedSimpArgs false
set_option maxRecDepth 1000000
set_option maxHeartbeats 32000000 in
theorem feeds8_calls (kk : Int) (hkk : 0 ≤ kk ∧ kk ≤ 255) (cs : List (List Int)) (es : List Bool) (A A1 : Option Addr) (c c1 : Nat) (w : World) (hp : Kd.C (Kd.slice 5 (Kd.int .u8)) w A cs.length cs) (hc : cs.length ≤ c)
    (hq : Kd.C Kd.bool w A1 es.length es) (hc1 : es.length ≤ c1) (hN : cs.flatten.length + cs.length ≤ 1048576) (hB : ∀ i : Nat, IsB (rd2 cs i)) (hE : EnvOK w) :
    Calls Tryd.prog 22 #[.int .u8 kk, .slice A cs.length c, .slice A1 es.length c1] w fun e w' => e = .returned (.bool true) ∧ Below w.heap.size w w' := by
  obtain ⟨i9, hi9, _, hsz9, _⟩ := info_parts info9
  have HP := Lib.hid hp
  have HQ := Lib.hid hq
  have HE := Lib.hid hE
  have HB := Lib.hid hB
  clear hp hq hE hB
  go_enter Tryd.func22, Tryd.ntmps22
  go_wp2_with fail
  refine (awake8_calls w HE.out).mono ?_
  rintro e w1 ⟨rfl, hb1⟩
  obtain ⟨k, hq1, hq2, cK⟩ := kinds_calls kk hkk w1
  have hq : 1 ≤ k ∧ k ≤ 10 := ⟨hq1, hq2⟩
  have hwk : IntKind.i64.wrap k = k := IntWalk.i64_in _ (by omega)
  go_wp2_with fail
  refine cK.mono ?_
  rintro e w2 ⟨rfl, hw2⟩
  obtain rfl : w1 = w2 := hw2.symm
  go_wp2_with fail
  refine (new_calls k hq w1).mono ?_
  rintro e w3 ⟨b, rfl, hE3, hb3⟩
  have D3 := JS.new hb1 hE3 hb3
  clear hE3
  go_wp2_with fail
  go_loopw [10, 11, 12] (fun v10 v11 v12 wr => ∃ (i : Nat) (S : List Int) (P : Nat → Prop), v12 = .int .i64 (i : Int) ∧ v11 = .int .i64 ((NU k S).length : Int) ∧ i ≤ cs.length ∧ S.length + (cs.drop i).flatten.length ≤ 1048576 ∧ IsB S ∧ JS w wr w1.heap.size b k S P v10 S) (fun _ _ v12 _ => match v12 with | .int _ i => cs.length - i.toNat | _ => 0)
  case atStart => exact ⟨0, [], _, rfl, by rw [NU_nil]; rfl, Nat.zero_le _, by rw [List.length_nil, List.drop_zero]; omega, isB_nil, D3⟩
  case round =>
    obtain ⟨i, S, P, rfl, rfl, hi, hS, hBS, D4⟩ := hrel
    by_cases hlt : i < cs.length
    · rw [flatten_drop2 cs i hlt] at hS
      obtain ⟨ad, A0, c0, rfl, hcell0, hc0, hC0⟩ := at_rows HP.out i hlt
      have hBc := HB.out i
      have HX : Hid (∀ W : World, Below w.heap.size w W → W.cell? (ad.add i) = some (.slice A0 (rd2 cs i).length c0)) := Lib.hid (fun W hW => (hW.cell (World.block_lt_of_cell? w _ hcell0)).trans hcell0)
      generalize rd2 cs i = ch at hS hcell0 hc0 hC0 HX hBc
      have hcell3 := HX.out _ D4.2.2.2.1
      have hlt' : (i : Int) < (cs.length : Int) := by omega
      have hwi : IntKind.i64.wrap ((i : Int) + 1) = (i : Int) + 1 := IntWalk.i64_in _ (by omega)
      have HC0 := Lib.hid hC0
      clear hcell0 hC0
      go_wp2_with (at_builtin; refine V.appB (w0 := w) rfl _ _ rfl u10 _ _ _ _ _ rfl rfl D4.2.2.1 (Kd.C_below HC0.out D4.2.2.2.1) D4.2.2.2.1 (by omega) ?_; intro v5 w5 ho5 hb5 hg5 hat5; have D5 := D4.append ho5 hg5 hat5; clear hcell3 D4 ho5 hb5 hg5 hat5)
      have hl1 : (S ++ ch).length = S.length + ch.length := List.length_append
      have hBS' := isB_app hBS hBc
      have hnf := NU_feed k hBS hBc
      have hnl := NU_len k hBS
      have hnl2 := NU_len k hBS'
      have hfin := NU_fin k hBS'
      have hwl := (whole_len k hBS').1
      have hfc := feed_count k hBS hBc
      have cF := fun (W : World) (P : Nat → Prop) (v : Value) (xs : List Int) (h : JS w W w1.heap.size b k S P v xs) => h.feedsU hq A0 c0 (Kd.C_below HC0.out h.2.2.2.1) hc0 (by omega) hBS hBc HE.out
      have cG := fun (W : World) (P : Nat → Prop) (v : Value) (xs : List Int) (h : JS w W w1.heap.size b k (S ++ ch) P v xs) => h.finsU hq (by omega) hBS' HE.out
      have hfl : (feedU k S ch).length ≤ 1099511627776 := by unfold feedU; omega
      have HFL := Lib.hid hfl
      have HCF := Lib.hid cF
      clear hfc hfl cF
      generalize feedU k S ch = L at *
      generalize S ++ ch = S' at *
      have HCG := Lib.hid cG
      obtain ⟨un, hun⟩ := (unitsR_ev k hq S' hBS' (by omega)).rounds
      rw [hfin] at hun hwl
      rw [hnf] at hnl2
      have hl1a : S'.length ≤ S.length + ch.length := by omega
      have hl1b : S.length + ch.length ≤ S'.length := by omega
      have HNF := Lib.hid hnf
      have hML : (finU k S').length ≤ 1099511627776 := by rw [List.length_append] at hwl; omega
      have HML := Lib.hid hML
      have hhe := heldE_le k S'
      have cS := fun (W : World) (A : Option Addr) (c : Nat) (hC : Kd.C (Kd.int .u8) W A S'.length S') (hc : S'.length ≤ c) => sureR_calls k hq S' A c W hC hc (by omega) hBS'
      unfold SureR at cS
      have hNUe : unitsOf k (wantE k (run S').1) = NU k S ++ L := hnf
      rw [hNUe] at cS
      have HCS := Lib.hid cS
      have HHD := Lib.hid (fun (W : World) (P : Nat → Prop) (v : Value) (xs : List Int) (h : JS w W w1.heap.size b k S' P v xs) => heldE_calls P w1.heap.size b k S' W h.1 (by omega))
      have HUN := Lib.hid hun
      have HBS' := Lib.hid hBS'
      clear hl1 hnf hfin cS hNUe cG hwl hnl2 hML hun hBS hBS' hBc
      generalize finU k S' = M at *
      generalize hN0 : NU k S = N0 at *
      clear hN0
      obtain ⟨A5, c5, rfl, hc5, hC5⟩ := Kd.R_reads D5.2.2.1
      go_wp2_with fail
      refine (HCS.out w5 A5 c5 hC5 hc5).mono ?_
      rintro e w6 ⟨v6, rfl, ho6, hb6⟩
      -- ROUND BEGIN
      have D6 := D5.below hb6
      have hown6 : ∀ q, v6.ownBlock = some q → w5.heap.size ≤ q := fun q hq => Kd.R_base ho6 q hq
      have hP5 := D5.2.1
      have hsz6 := hb6.size
      obtain ⟨SL, hSL⟩ : ∃ X, strs (N0 ++ L) = X := ⟨_, rfl⟩
      have hSLl : SL.length = N0.length + L.length := by rw [← hSL, strs_len, List.length_append]
      have hSLd : SL.drop N0.length = strs L := by rw [← hSL, strs_drop]
      rw [hSL] at ho6
      obtain ⟨A6, c6, rfl, hc6, hC6⟩ := Kd.R_reads ho6
      obtain ⟨A7, hdrop, hT7, hdc7⟩ := print_drop_of (P := Tryd.prog) Value.string ByteArray.empty 60 9 .i64 Tryd.underlying60 hi9 hsz9 A6 c6 SL (N0.length : Int) (by omega) (by omega) hc6
      rw [Int.toNat_natCast, hSLd] at hdrop hT7 hdc7
      rw [strs_len] at hdrop hT7 hdc7
      have hgt : ¬ ((N0.length : Int) > (SL.length : Int)) := by omega
      have hgt2 : (N0.length : Int) ≤ (SL.length : Int) := by omega
      have hg1 : decide (SL.length < N0.length) = false := by simp; omega
      have hg2 : decide ((SL.length : Int) < (N0.length : Int)) = false := by simp; omega
      have D6d := D6.below (below_drew (Below.refl _ _))
      have ho6d := Kd.R_below ho6 (below_drew (Below.refl w6.heap.size w6))
      have hcell6 := HX.out _ D6.2.2.2.1
      have hcell6d := HX.out _ D6d.2.2.2.1
      have hSLc := hSLl
      have HSLL := Lib.hid hSLl
      have HSL := Lib.hid hSL
      have hne : (heldE k S' == heldE k S') = true := beq_self_eq_true _
      have hhn : ¬ (heldE k S' > 19) := by omega
      have hhm : heldE k S' ≤ 19 := hhe.2
      have HC5 := Lib.hid hc5
      obtain ⟨hd, hhd⟩ : ∃ n, heldE k S' = n := ⟨_, rfl⟩
      have cF6 := HCF.out w6.drew P _ _ D6d
      rw [hhd] at hne hhn hhm HHD ⊢
      have hg3 : decide (19 < hd) = false := by simp; omega
      clear hSL hSLl hSLc hSLd hC6 ho6 D5 hC5 hhe hhd hne
      go_wp2_with fail
      refine start_ (n := 27) (S := fun w' => w'.cell? (ad.add i) = some (.slice A0 ch.length c0)) (ds := []) #[false, false, false, false, false, false, false, false, false, false, false, false, false, false, false, false, false, false, false, false, false, false, false, false, false, false, false] (by kernel_rfl) rfl rfl hcell6d (fun hHeld => ?_)
      refine pure_ (i := 0) (N := some 50) (v := ?_) (a' := ?_) #[true, false, false, false, false, false, false, false, false, false, false, false, false, false, false, false, false, false, false, false, false, false, false, false, false, false, false] rfl rfl (by kernel_rfl) (fun _ _ _ h => h) (Or.inl ⟨by rfl, ?_⟩) ?_ ?_
      rotate_left
      · intro w'
        go_simp
        try with_reducible rfl
      rotate_left
      · simp only [Act.put, List.setIfInBounds_toArray, List.set_cons_zero, List.set_cons_succ, i64_w, i32_w]
        rfl
      refine pure_ (i := 1) (N := some 51) (v := ?_) (a' := ?_) #[true, true, false, false, false, false, false, false, false, false, false, false, false, false, false, false, false, false, false, false, false, false, false, false, false, false, false] rfl rfl (by kernel_rfl) (fun _ _ _ h => h) (Or.inl ⟨by rfl, ?_⟩) ?_ ?_
      rotate_left
      · intro w'
        go_simp
        try with_reducible rfl
      rotate_left
      · simp only [Act.put, List.setIfInBounds_toArray, List.set_cons_zero, List.set_cons_succ, i64_w, i32_w]
        rfl
      refine pure_ (i := 2) (N := some 52) (v := ?_) (a' := ?_) #[true, true, true, false, false, false, false, false, false, false, false, false, false, false, false, false, false, false, false, false, false, false, false, false, false, false, false] rfl rfl (by kernel_rfl) (fun _ _ _ h => h) (Or.inl ⟨by rfl, ?_⟩) ?_ ?_
      rotate_left
      · intro w'
        go_simp
        try with_reducible rfl
      rotate_left
      · simp only [Act.put, List.setIfInBounds_toArray, List.set_cons_zero, List.set_cons_succ, i64_w, i32_w]
        rfl
      refine pure_ (i := 3) (N := some 53) (v := ?_) (a' := ?_) #[true, true, true, true, false, false, false, false, false, false, false, false, false, false, false, false, false, false, false, false, false, false, false, false, false, false, false] rfl rfl (by kernel_rfl) (fun _ _ _ h => h) (Or.inl ⟨by rfl, ?_⟩) ?_ ?_
      rotate_left
      · intro w'
        go_simp
        try with_reducible rfl
      rotate_left
      · simp only [Act.put, List.setIfInBounds_toArray, List.set_cons_zero, List.set_cons_succ, i64_w, i32_w]
        rfl
      refine pure_ (i := 4) (N := some 54) (v := ?_) (a' := ?_) #[true, true, true, true, true, false, false, false, false, false, false, false, false, false, false, false, false, false, false, false, false, false, false, false, false, false, false] rfl rfl (by kernel_rfl) (fun _ _ _ h => h) (Or.inl ⟨by rfl, ?_⟩) ?_ ?_
      rotate_left
      · intro w'
        go_simp
        try with_reducible rfl
      rotate_left
      · simp only [Act.put, List.setIfInBounds_toArray, List.set_cons_zero, List.set_cons_succ, i64_w, i32_w]
        rfl
      refine pure_ (i := 5) (N := some 55) (v := ?_) (a' := ?_) #[true, true, true, true, true, true, false, false, false, false, false, false, false, false, false, false, false, false, false, false, false, false, false, false, false, false, false] rfl rfl (by kernel_rfl) (fun _ _ _ h => h) (Or.inl ⟨by rfl, ?_⟩) ?_ ?_
      rotate_left
      · intro w'
        go_simp
        try with_reducible rfl
      rotate_left
      · simp only [Act.put, List.setIfInBounds_toArray, List.set_cons_zero, List.set_cons_succ, i64_w, i32_w]
        rfl
      refine pure_ (i := 6) (N := some 56) (v := ?_) (a' := ?_) #[true, true, true, true, true, true, true, false, false, false, false, false, false, false, false, false, false, false, false, false, false, false, false, false, false, false, false] rfl rfl (by kernel_rfl) (fun _ _ _ h => h) (Or.inl ⟨by rfl, ?_⟩) ?_ ?_
      rotate_left
      · intro w'
        go_simp
        try with_reducible rfl
      rotate_left
      · simp only [Act.put, List.setIfInBounds_toArray, List.set_cons_zero, List.set_cons_succ, i64_w, i32_w]
        rfl
      refine pure_ (i := 7) (N := some 57) (v := ?_) (a' := ?_) #[true, true, true, true, true, true, true, true, false, false, false, false, false, false, false, false, false, false, false, false, false, false, false, false, false, false, false] rfl rfl (by kernel_rfl) (fun _ _ _ h => h) (Or.inl ⟨by rfl, ?_⟩) ?_ ?_
      rotate_left
      · intro w'
        go_simp
        try with_reducible rfl
      rotate_left
      · simp only [Act.put, List.setIfInBounds_toArray, List.set_cons_zero, List.set_cons_succ, i64_w, i32_w]
        rfl
      refine pure_ (i := 8) (N := some 58) (v := ?_) (a' := ?_) #[true, true, true, true, true, true, true, true, true, false, false, false, false, false, false, false, false, false, false, false, false, false, false, false, false, false, false] rfl rfl (by kernel_rfl) (fun _ _ _ h => h) (Or.inl ⟨by rfl, ?_⟩) ?_ ?_
      rotate_left
      · intro w'
        go_simp
        try with_reducible rfl
      rotate_left
      · simp only [Act.put, List.setIfInBounds_toArray, List.set_cons_zero, List.set_cons_succ, i64_w, i32_w]
        rfl
      refine take_ (i := 9) (N := some 59) (v := ?_) (a' := ?_) #[true, true, true, true, true, true, true, true, true, true, false, false, false, false, false, false, false, false, false, false, false, false, false, false, false, false, false] rfl rfl (by kernel_rfl) (fun _ _ _ h => h) (Or.inl ⟨by rfl, ?_⟩) hHeld ?_ ?_
      rotate_left
      · intro w' s0
        go_simp
        try with_reducible rfl
      rotate_left
      · simp only [Act.put, List.setIfInBounds_toArray, List.set_cons_zero, List.set_cons_succ, i64_w, i32_w]
        rfl
      refine pure_ (i := 11) (N := some 61) (v := ?_) (a' := ?_) #[true, true, true, true, true, true, true, true, true, true, false, true, false, false, false, false, false, false, false, false, false, false, false, false, false, false, false] rfl rfl (by kernel_rfl) (fun _ _ _ h => h) (Or.inl ⟨by rfl, ?_⟩) ?_ ?_
      rotate_left
      · intro w'
        go_simp
        try with_reducible rfl
      rotate_left
      · simp only [Act.put, List.setIfInBounds_toArray, List.set_cons_zero, List.set_cons_succ, i64_w, i32_w]
        rfl
      refine pure_ (i := 12) (N := some 62) (v := ?_) (a' := ?_) #[true, true, true, true, true, true, true, true, true, true, false, true, true, false, false, false, false, false, false, false, false, false, false, false, false, false, false] rfl rfl (by kernel_rfl) (fun _ _ _ h => h) (Or.inl ⟨by rfl, ?_⟩) ?_ ?_
      rotate_left
      · intro w'
        go_simp
        try with_reducible rfl
      rotate_left
      · simp only [Act.put, List.setIfInBounds_toArray, List.set_cons_zero, List.set_cons_succ, i64_w, i32_w]
        rfl
      refine pure_ (i := 13) (N := some 63) (v := ?_) (a' := ?_) #[true, true, true, true, true, true, true, true, true, true, false, true, true, true, false, false, false, false, false, false, false, false, false, false, false, false, false] rfl rfl (by kernel_rfl) (fun _ _ _ h => h) (Or.inl ⟨by rfl, ?_⟩) ?_ ?_
      rotate_left
      · intro w'
        go_simp
        try with_reducible rfl
      rotate_left
      · simp only [Act.put, List.setIfInBounds_toArray, List.set_cons_zero, List.set_cons_succ, i64_w, i32_w]
        rfl
      refine one_ (i := 10) (N := some 60) #[true, true, true, true, true, true, true, true, true, true, true, true, true, true, false, false, false, false, false, false, false, false, false, false, false, false, false] rfl rfl (by kernel_rfl) (by decide) (fun K hK => ?_)
      refine goes_ Tryd.func53 (by kernel_rfl) rfl #[.pointer (some ⟨b, 0, none⟩), .slice A0 ch.length c0] (by rfl) rfl rfl (by (try simp only [List.map_toArray, List.map_cons, List.map_nil]); first | done | rfl) ?_
      refine cF6.mono ?_
      intro e w7 hf
      obtain ⟨m7, Aa7, ca7, rfl, hca7, hm7, hn7, hF7, D7, hO7, hs7⟩ := D6d.fed hf
      have ho7 := R_onlyS ho6d hO7 (fun q hq hj => by
        have h1 := hown6 q hq
        rcases hj with hj | hj
        · have := (hP5 q hj).2.1; omega
        · have := Kd.R_lt ho6d q hq; omega)
      have hC7 := Kd.C_of_reads (h1 := fun _ => rfl) (hT7 _ (Kd.reads_of_C (Kd.R_reads' ho7).2.2))
      have cS7 := same_calls L Aa7 A7 ca7 (c6 - N0.length) w7 (Kd.F_now hF7) hC7 HFL.out
      clear hf hn7 hF7 hC7 cF6 ho7 hO7 D6d ho6d
      refine ⟨_, rfl, ?_⟩
      refine hK.out _ _ (HX.out _ D7.2.2.2.1) (fun hHeld => ?_)
      clear hK K
      refine norm_ (a' := ?_) ?_ ?_
      rotate_left
      · show Act.put _ (some 60) _ = _
        simp only [Act.put, List.setIfInBounds_toArray, List.set_cons_zero, List.set_cons_succ, i64_w, i32_w]
        rfl
      refine one_ (i := 14) (N := some 64) #[true, true, true, true, true, true, true, true, true, true, true, true, true, true, true, false, false, false, false, false, false, false, false, false, false, false, false] rfl rfl (by kernel_rfl) (by decide) (fun K hK => ?_)
      refine goes_ Tryd.func56 (by kernel_rfl) rfl #[.slice Aa7 L.length ca7, .slice A7 L.length (c6 - N0.length)] (by rfl) rfl rfl (by (try simp only [List.map_toArray, List.map_cons, List.map_nil]); first | done | rfl) ?_
      refine cS7.mono ?_
      rintro e w8 ⟨rfl, hb8⟩
      have D8 := D7.below hb8
      have cH8 := HHD.out w8 _ _ _ D8
      clear cS7 D7
      refine ⟨_, rfl, ?_⟩
      refine hK.out _ _ (HX.out _ D8.2.2.2.1) (fun hHeld => ?_)
      clear hK K
      refine norm_ (a' := ?_) ?_ ?_
      rotate_left
      · show Act.put _ (some 64) _ = _
        simp only [Act.put, List.setIfInBounds_toArray, List.set_cons_zero, List.set_cons_succ, i64_w, i32_w]
        rfl
      refine pure_ (i := 15) (N := some 65) (v := ?_) (a' := ?_) #[true, true, true, true, true, true, true, true, true, true, true, true, true, true, true, true, false, false, false, false, false, false, false, false, false, false, false] rfl rfl (by kernel_rfl) (fun _ _ _ h => h) (Or.inl ⟨by rfl, ?_⟩) ?_ ?_
      rotate_left
      · intro w'
        go_simp
        try with_reducible rfl
      rotate_left
      · simp only [Act.put, List.setIfInBounds_toArray, List.set_cons_zero, List.set_cons_succ, i64_w, i32_w]
        rfl
      refine pure_ (i := 16) (N := some 66) (v := ?_) (a' := ?_) #[true, true, true, true, true, true, true, true, true, true, true, true, true, true, true, true, true, false, false, false, false, false, false, false, false, false, false] rfl rfl (by kernel_rfl) (fun _ _ _ h => h) (Or.inl ⟨by rfl, ?_⟩) ?_ ?_
      rotate_left
      · intro w'
        go_simp
        try with_reducible rfl
      rotate_left
      · simp only [Act.put, List.setIfInBounds_toArray, List.set_cons_zero, List.set_cons_succ, i64_w, i32_w]
        rfl
      refine pure_ (i := 17) (N := some 67) (v := ?_) (a' := ?_) #[true, true, true, true, true, true, true, true, true, true, true, true, true, true, true, true, true, true, false, false, false, false, false, false, false, false, false] rfl rfl (by kernel_rfl) (fun _ _ _ h => h) (Or.inl ⟨by rfl, ?_⟩) ?_ ?_
      rotate_left
      · intro w'
        go_simp
        try with_reducible rfl
      rotate_left
      · simp only [Act.put, List.setIfInBounds_toArray, List.set_cons_zero, List.set_cons_succ, i64_w, i32_w]
        rfl
      refine pure_ (i := 18) (N := some 68) (v := ?_) (a' := ?_) #[true, true, true, true, true, true, true, true, true, true, true, true, true, true, true, true, true, true, true, false, false, false, false, false, false, false, false] rfl rfl (by kernel_rfl) (fun _ _ _ h => h) (Or.inl ⟨by rfl, ?_⟩) ?_ ?_
      rotate_left
      · intro w'
        go_simp
        try with_reducible rfl
      rotate_left
      · simp only [Act.put, List.setIfInBounds_toArray, List.set_cons_zero, List.set_cons_succ, i64_w, i32_w]
        rfl
      refine pure_ (i := 20) (N := some 70) (v := ?_) (a' := ?_) #[true, true, true, true, true, true, true, true, true, true, true, true, true, true, true, true, true, true, true, false, true, false, false, false, false, false, false] rfl rfl (by kernel_rfl) (fun _ _ _ h => h) (Or.inl ⟨by rfl, ?_⟩) ?_ ?_
      rotate_left
      · intro w'
        go_simp
        try with_reducible rfl
      rotate_left
      · simp only [Act.put, List.setIfInBounds_toArray, List.set_cons_zero, List.set_cons_succ, i64_w, i32_w]
        rfl
      refine one_ (i := 19) (N := some 69) #[true, true, true, true, true, true, true, true, true, true, true, true, true, true, true, true, true, true, true, true, true, false, false, false, false, false, false] rfl rfl (by kernel_rfl) (by decide) (fun K hK => ?_)
      refine goes_ Tryd.func57 (by kernel_rfl) rfl #[.pointer (some ⟨b, 0, none⟩)] (by rfl) rfl rfl (by (try simp only [List.map_toArray, List.map_cons, List.map_nil]); first | done | rfl) ?_
      refine cH8.mono ?_
      rintro e w9 ⟨rfl, hb9⟩
      have D9 := D8.below hb9
      clear cH8 D8
      refine ⟨_, rfl, ?_⟩
      refine hK.out _ _ (HX.out _ D9.2.2.2.1) (fun hHeld => ?_)
      clear hK K
      refine norm_ (a' := ?_) ?_ ?_
      rotate_left
      · show Act.put _ (some 69) _ = _
        simp only [Act.put, List.setIfInBounds_toArray, List.set_cons_zero, List.set_cons_succ, i64_w, i32_w]
        rfl
      refine pure_ (i := 21) (N := some 71) (v := ?_) (a' := ?_) #[true, true, true, true, true, true, true, true, true, true, true, true, true, true, true, true, true, true, true, true, true, true, false, false, false, false, false] rfl rfl (by kernel_rfl) (fun _ _ _ h => h) (Or.inl ⟨by rfl, ?_⟩) ?_ ?_
      rotate_left
      · intro w'
        go_simp
        try with_reducible rfl
      rotate_left
      · simp only [Act.put, List.setIfInBounds_toArray, List.set_cons_zero, List.set_cons_succ, i64_w, i32_w]
        rfl
      refine pure_ (i := 22) (N := some 72) (v := ?_) (a' := ?_) #[true, true, true, true, true, true, true, true, true, true, true, true, true, true, true, true, true, true, true, true, true, true, true, false, false, false, false] rfl rfl (by kernel_rfl) (fun _ _ _ h => h) (Or.inl ⟨by rfl, ?_⟩) ?_ ?_
      rotate_left
      · intro w'
        go_simp
        try with_reducible rfl
      rotate_left
      · simp only [Act.put, List.setIfInBounds_toArray, List.set_cons_zero, List.set_cons_succ, i64_w, i32_w]
        rfl
      refine pure_ (i := 23) (N := some 73) (v := ?_) (a' := ?_) #[true, true, true, true, true, true, true, true, true, true, true, true, true, true, true, true, true, true, true, true, true, true, true, true, false, false, false] rfl rfl (by kernel_rfl) (fun _ _ _ h => h) (Or.inl ⟨by rfl, ?_⟩) ?_ ?_
      rotate_left
      · intro w'
        go_simp
        try with_reducible rfl
      rotate_left
      · simp only [Act.put, List.setIfInBounds_toArray, List.set_cons_zero, List.set_cons_succ, i64_w, i32_w]
        rfl
      refine pure_ (i := 24) (N := some 74) (v := ?_) (a' := ?_) #[true, true, true, true, true, true, true, true, true, true, true, true, true, true, true, true, true, true, true, true, true, true, true, true, true, false, false] rfl rfl (by kernel_rfl) (fun _ _ _ h => h) (Or.inl ⟨by rfl, ?_⟩) ?_ ?_
      rotate_left
      · intro w'
        go_simp
        try with_reducible rfl
      rotate_left
      · simp only [Act.put, List.setIfInBounds_toArray, List.set_cons_zero, List.set_cons_succ, i64_w, i32_w]
        rfl
      refine pure_ (i := 25) (N := some 75) (v := ?_) (a' := ?_) #[true, true, true, true, true, true, true, true, true, true, true, true, true, true, true, true, true, true, true, true, true, true, true, true, true, true, false] rfl rfl (by kernel_rfl) (fun _ _ _ h => h) (Or.inl ⟨by rfl, ?_⟩) ?_ ?_
      rotate_left
      · intro w'
        go_simp
        try with_reducible rfl
      rotate_left
      · simp only [Act.put, List.setIfInBounds_toArray, List.set_cons_zero, List.set_cons_succ, i64_w, i32_w]
        rfl
      refine pure_ (i := 26) (N := some 76) (v := ?_) (a' := ?_) #[true, true, true, true, true, true, true, true, true, true, true, true, true, true, true, true, true, true, true, true, true, true, true, true, true, true, true] rfl rfl (by kernel_rfl) (fun _ _ _ h => h) (Or.inl ⟨by rfl, ?_⟩) ?_ ?_
      rotate_left
      · intro w'
        go_simp
        try with_reducible rfl
      rotate_left
      · simp only [Act.put, List.setIfInBounds_toArray, List.set_cons_zero, List.set_cons_succ, i64_w, i32_w]
        rfl
      refine done_ (by kernel_rfl) ?_
      have hbw9 := D9.2.2.2.1
      by_cases he : i < es.length
      · have he' : (i : Int) < (es.length : Int) := by omega
        obtain ⟨ad1, rfl, hcb⟩ := Kd.at_bool HQ.out (i : Int) (by omega) (by omega)
        rw [Int.toNat_natCast] at hcb
        have hcb9 : w9.cell? (ad1.add i) = some (.bool (rdOf false es (i : Int))) := (D9.2.2.2.1.cell (World.block_lt_of_cell? w _ hcb)).trans hcb
        clear hcb
        cases hb : rdOf false es (i : Int) with
        | false =>
          rw [hb] at hcb9
          go_wp2_with fail
          go_roundw
          case rel => exact ⟨i + 1, S', _, by first | rfl | simp, by rw [HNF.out, List.length_append, HSLL.out], by omega, by omega, HBS'.out, D9⟩
          case measure => simp; omega
        | true =>
          rw [hb] at hcb9
          have cU := PEr.bobbinref08_Units.calls un k A5 c5 S' (strs (NU k S' ++ M)) w9 (Kd.R_reads' D9.2.2.1).2.2 HC5.out HUN.out
          rw [HNF.out] at cU
          go_wp2_with fail
          refine cU.mono ?_
          rintro e w10 ⟨v10, rfl, ho10, hb10⟩
          have hown10 : ∀ q, v10.ownBlock = some q → w9.heap.size ≤ q := fun q hq => Kd.R_base ho10 q hq
          have hP9 := D9.2.1
          have D10 := D9.below hb10
          obtain ⟨SA, hSA⟩ : ∃ X, strs (N0 ++ L ++ M) = X := ⟨_, rfl⟩
          have hSAl : SA.length = SL.length + M.length := by rw [← hSA, strs_len, List.length_append, List.length_append, HSLL.out]
          have hSAd : SA.drop SL.length = strs M := by rw [← hSA, HSLL.out, ← List.length_append, strs_drop]
          rw [hSA] at ho10
          obtain ⟨A10, c10, rfl, hc10, hC10⟩ := Kd.R_reads ho10
          obtain ⟨A11, hdropB, hT11, hdc11⟩ := print_drop_of (P := Tryd.prog) Value.string ByteArray.empty 60 9 .i64 Tryd.underlying60 hi9 hsz9 A10 c10 SA (SL.length : Int) (by omega) (by omega) hc10
          rw [Int.toNat_natCast, hSAd] at hdropB hT11 hdc11
          rw [strs_len] at hdropB hT11 hdc11
          have hgtB : ¬ ((SL.length : Int) > (SA.length : Int)) := by omega
          have hgtB2 : (SL.length : Int) ≤ (SA.length : Int) := by omega
          have hgB3 : decide (SA.length < SL.length) = false := by simp; omega
          have hgB4 : decide ((SA.length : Int) < (SL.length : Int)) = false := by simp; omega
          have D10d := D10.below (below_drew (Below.refl _ _))
          have ho10d := Kd.R_below ho10 (below_drew (Below.refl w10.heap.size w10))
          have cG10 := HCG.out w10.drew _ _ _ D10d
          have hcell10 := HX.out _ D10.2.2.2.1
          clear hSA hSAl hSAd hC10 ho10 D9 cU hcb9 hdrop
          go_wp2_with fail
          refine start_ (n := 18) (S := fun w' => True) (ds := []) #[false, false, false, false, false, false, false, false, false, false, false, false, false, false, false, false, false, false] (by kernel_rfl) rfl rfl trivial (fun hHeld => ?_)
          refine pure_ (i := 0) (N := some 93) (v := ?_) (a' := ?_) #[true, false, false, false, false, false, false, false, false, false, false, false, false, false, false, false, false, false] rfl rfl (by kernel_rfl) (fun _ _ _ h => h) (Or.inl ⟨by rfl, ?_⟩) ?_ ?_
          rotate_left
          · intro w'
            go_simp
            try with_reducible rfl
          rotate_left
          · simp only [Act.put, List.setIfInBounds_toArray, List.set_cons_zero, List.set_cons_succ, i64_w, i32_w]
            rfl
          refine pure_ (i := 1) (N := some 94) (v := ?_) (a' := ?_) #[true, true, false, false, false, false, false, false, false, false, false, false, false, false, false, false, false, false] rfl rfl (by kernel_rfl) (fun _ _ _ h => h) (Or.inl ⟨by rfl, ?_⟩) ?_ ?_
          rotate_left
          · intro w'
            go_simp
            try with_reducible rfl
          rotate_left
          · simp only [Act.put, List.setIfInBounds_toArray, List.set_cons_zero, List.set_cons_succ, i64_w, i32_w]
            rfl
          refine pure_ (i := 2) (N := some 95) (v := ?_) (a' := ?_) #[true, true, true, false, false, false, false, false, false, false, false, false, false, false, false, false, false, false] rfl rfl (by kernel_rfl) (fun _ _ _ h => h) (Or.inl ⟨by rfl, ?_⟩) ?_ ?_
          rotate_left
          · intro w'
            go_simp
            try with_reducible rfl
          rotate_left
          · simp only [Act.put, List.setIfInBounds_toArray, List.set_cons_zero, List.set_cons_succ, i64_w, i32_w]
            rfl
          refine pure_ (i := 3) (N := some 96) (v := ?_) (a' := ?_) #[true, true, true, true, false, false, false, false, false, false, false, false, false, false, false, false, false, false] rfl rfl (by kernel_rfl) (fun _ _ _ h => h) (Or.inl ⟨by rfl, ?_⟩) ?_ ?_
          rotate_left
          · intro w'
            go_simp
            try with_reducible rfl
          rotate_left
          · simp only [Act.put, List.setIfInBounds_toArray, List.set_cons_zero, List.set_cons_succ, i64_w, i32_w]
            rfl
          refine pure_ (i := 4) (N := some 97) (v := ?_) (a' := ?_) #[true, true, true, true, true, false, false, false, false, false, false, false, false, false, false, false, false, false] rfl rfl (by kernel_rfl) (fun _ _ _ h => h) (Or.inl ⟨by rfl, ?_⟩) ?_ ?_
          rotate_left
          · intro w'
            go_simp
            try with_reducible rfl
          rotate_left
          · simp only [Act.put, List.setIfInBounds_toArray, List.set_cons_zero, List.set_cons_succ, i64_w, i32_w]
            rfl
          refine pure_ (i := 5) (N := some 98) (v := ?_) (a' := ?_) #[true, true, true, true, true, true, false, false, false, false, false, false, false, false, false, false, false, false] rfl rfl (by kernel_rfl) (fun _ _ _ h => h) (Or.inl ⟨by rfl, ?_⟩) ?_ ?_
          rotate_left
          · intro w'
            go_simp
            try with_reducible rfl
          rotate_left
          · simp only [Act.put, List.setIfInBounds_toArray, List.set_cons_zero, List.set_cons_succ, i64_w, i32_w]
            rfl
          refine pure_ (i := 7) (N := some 100) (v := ?_) (a' := ?_) #[true, true, true, true, true, true, false, true, false, false, false, false, false, false, false, false, false, false] rfl rfl (by kernel_rfl) (fun _ _ _ h => h) (Or.inl ⟨by rfl, ?_⟩) ?_ ?_
          rotate_left
          · intro w'
            go_simp
            try with_reducible rfl
          rotate_left
          · simp only [Act.put, List.setIfInBounds_toArray, List.set_cons_zero, List.set_cons_succ, i64_w, i32_w]
            rfl
          refine pure_ (i := 8) (N := some 101) (v := ?_) (a' := ?_) #[true, true, true, true, true, true, false, true, true, false, false, false, false, false, false, false, false, false] rfl rfl (by kernel_rfl) (fun _ _ _ h => h) (Or.inl ⟨by rfl, ?_⟩) ?_ ?_
          rotate_left
          · intro w'
            go_simp
            try with_reducible rfl
          rotate_left
          · simp only [Act.put, List.setIfInBounds_toArray, List.set_cons_zero, List.set_cons_succ, i64_w, i32_w]
            rfl
          refine pure_ (i := 9) (N := some 102) (v := ?_) (a' := ?_) #[true, true, true, true, true, true, false, true, true, true, false, false, false, false, false, false, false, false] rfl rfl (by kernel_rfl) (fun _ _ _ h => h) (Or.inl ⟨by rfl, ?_⟩) ?_ ?_
          rotate_left
          · intro w'
            go_simp
            try with_reducible rfl
          rotate_left
          · simp only [Act.put, List.setIfInBounds_toArray, List.set_cons_zero, List.set_cons_succ, i64_w, i32_w]
            rfl
          refine one_ (i := 6) (N := some 99) #[true, true, true, true, true, true, true, true, true, true, false, false, false, false, false, false, false, false] rfl rfl (by kernel_rfl) (by decide) (fun K hK => ?_)
          refine goes_ Tryd.func54 (by kernel_rfl) rfl #[.pointer (some ⟨b, 0, none⟩)] (by rfl) rfl rfl (by (try simp only [List.map_toArray, List.map_cons, List.map_nil]); first | done | rfl) ?_
          refine cG10.mono ?_
          intro e w11 hf
          obtain ⟨m11, Aa11, ca11, rfl, hca11, hm11, hn11, hF11, D11, hO11, hs11⟩ := D10d.fed hf
          have ho11 := R_onlyS ho10d hO11 (fun q hq hj => by
            have h1 := hown10 q hq
            rcases hj with hj | hj
            · have := (hP9 q hj).2.1; omega
            · have := Kd.R_lt ho10d q hq; omega)
          have hC11 := Kd.C_of_reads (h1 := fun _ => rfl) (hT11 _ (Kd.reads_of_C (Kd.R_reads' ho11).2.2))
          have cS11 := same_calls M Aa11 A11 ca11 (c10 - SL.length) w11 (Kd.F_now hF11) hC11 HML.out
          clear hf hn11 hF11 hC11 cG10 ho11 hO11 D10d ho10d
          refine ⟨_, rfl, ?_⟩
          refine hK.out _ _ trivial (fun hHeld => ?_)
          clear hK K
          refine norm_ (a' := ?_) ?_ ?_
          rotate_left
          · show Act.put _ (some 99) _ = _
            simp only [Act.put, List.setIfInBounds_toArray, List.set_cons_zero, List.set_cons_succ, i64_w, i32_w]
            rfl
          refine one_ (i := 10) (N := some 103) #[true, true, true, true, true, true, true, true, true, true, true, false, false, false, false, false, false, false] rfl rfl (by kernel_rfl) (by decide) (fun K hK => ?_)
          refine goes_ Tryd.func56 (by kernel_rfl) rfl #[.slice Aa11 M.length ca11, .slice A11 M.length (c10 - SL.length)] (by rfl) rfl rfl (by (try simp only [List.map_toArray, List.map_cons, List.map_nil]); first | done | rfl) ?_
          refine cS11.mono ?_
          rintro e w12 ⟨rfl, hb12⟩
          have D12 := D11.below hb12
          have cH12 : Calls Tryd.prog 57 #[.pointer (some ⟨b, 0, none⟩)] w12 fun e w' => e = .returned (.int .i64 0) ∧ Below w12.heap.size w12 w' := by
            have h := heldE_calls _ _ _ _ _ _ D12.1 (by simp)
            rw [heldE_nil] at h
            exact h
          clear cS11 D11
          refine ⟨_, rfl, ?_⟩
          refine hK.out _ _ trivial (fun hHeld => ?_)
          clear hK K
          refine norm_ (a' := ?_) ?_ ?_
          rotate_left
          · show Act.put _ (some 103) _ = _
            simp only [Act.put, List.setIfInBounds_toArray, List.set_cons_zero, List.set_cons_succ, i64_w, i32_w]
            rfl
          refine pure_ (i := 11) (N := some 104) (v := ?_) (a' := ?_) #[true, true, true, true, true, true, true, true, true, true, true, true, false, false, false, false, false, false] rfl rfl (by kernel_rfl) (fun _ _ _ h => h) (Or.inl ⟨by rfl, ?_⟩) ?_ ?_
          rotate_left
          · intro w'
            go_simp
            try with_reducible rfl
          rotate_left
          · simp only [Act.put, List.setIfInBounds_toArray, List.set_cons_zero, List.set_cons_succ, i64_w, i32_w]
            rfl
          refine pure_ (i := 12) (N := some 105) (v := ?_) (a' := ?_) #[true, true, true, true, true, true, true, true, true, true, true, true, true, false, false, false, false, false] rfl rfl (by kernel_rfl) (fun _ _ _ h => h) (Or.inl ⟨by rfl, ?_⟩) ?_ ?_
          rotate_left
          · intro w'
            go_simp
            try with_reducible rfl
          rotate_left
          · simp only [Act.put, List.setIfInBounds_toArray, List.set_cons_zero, List.set_cons_succ, i64_w, i32_w]
            rfl
          refine pure_ (i := 13) (N := some 106) (v := ?_) (a' := ?_) #[true, true, true, true, true, true, true, true, true, true, true, true, true, true, false, false, false, false] rfl rfl (by kernel_rfl) (fun _ _ _ h => h) (Or.inl ⟨by rfl, ?_⟩) ?_ ?_
          rotate_left
          · intro w'
            go_simp
            try with_reducible rfl
          rotate_left
          · simp only [Act.put, List.setIfInBounds_toArray, List.set_cons_zero, List.set_cons_succ, i64_w, i32_w]
            rfl
          refine pure_ (i := 14) (N := some 107) (v := ?_) (a' := ?_) #[true, true, true, true, true, true, true, true, true, true, true, true, true, true, true, false, false, false] rfl rfl (by kernel_rfl) (fun _ _ _ h => h) (Or.inl ⟨by rfl, ?_⟩) ?_ ?_
          rotate_left
          · intro w'
            go_simp
            try with_reducible rfl
          rotate_left
          · simp only [Act.put, List.setIfInBounds_toArray, List.set_cons_zero, List.set_cons_succ, i64_w, i32_w]
            rfl
          refine one_ (i := 15) (N := some 108) #[true, true, true, true, true, true, true, true, true, true, true, true, true, true, true, true, false, false] rfl rfl (by kernel_rfl) (by decide) (fun K hK => ?_)
          refine goes_ Tryd.func57 (by kernel_rfl) rfl #[.pointer (some ⟨b, 0, none⟩)] (by rfl) rfl rfl (by (try simp only [List.map_toArray, List.map_cons, List.map_nil]); first | done | rfl) ?_
          refine cH12.mono ?_
          rintro e w13 ⟨rfl, hb13⟩
          have D13 := (D12.below hb13).fresh
          clear cH12 D12
          refine ⟨_, rfl, ?_⟩
          refine hK.out _ _ trivial (fun hHeld => ?_)
          clear hK K
          refine norm_ (a' := ?_) ?_ ?_
          rotate_left
          · show Act.put _ (some 108) _ = _
            simp only [Act.put, List.setIfInBounds_toArray, List.set_cons_zero, List.set_cons_succ, i64_w, i32_w]
            rfl
          refine pure_ (i := 16) (N := some 109) (v := ?_) (a' := ?_) #[true, true, true, true, true, true, true, true, true, true, true, true, true, true, true, true, true, false] rfl rfl (by kernel_rfl) (fun _ _ _ h => h) (Or.inl ⟨by rfl, ?_⟩) ?_ ?_
          rotate_left
          · intro w'
            go_simp
            try with_reducible rfl
          rotate_left
          · simp only [Act.put, List.setIfInBounds_toArray, List.set_cons_zero, List.set_cons_succ, i64_w, i32_w]
            rfl
          refine pure_ (i := 17) (N := some 110) (v := ?_) (a' := ?_) #[true, true, true, true, true, true, true, true, true, true, true, true, true, true, true, true, true, true] rfl rfl (by kernel_rfl) (fun _ _ _ h => h) (Or.inl ⟨by rfl, ?_⟩) ?_ ?_
          rotate_left
          · intro w'
            go_simp
            try with_reducible rfl
          rotate_left
          · simp only [Act.put, List.setIfInBounds_toArray, List.set_cons_zero, List.set_cons_succ, i64_w, i32_w]
            rfl
          refine done_ (by kernel_rfl) ?_
          go_wp2_with fail
          go_roundw
          case rel => exact ⟨i + 1, [], _, by first | rfl | simp, by rw [NU_nil]; rfl, by omega, by rw [List.length_nil]; omega, isB_nil, D13⟩
          case measure => simp; omega
      · have he' : ¬ ((i : Int) < (es.length : Int)) := by omega
        go_wp2_with fail
        go_roundw
        case rel => exact ⟨i + 1, S', _, by first | rfl | simp, by rw [HNF.out, List.length_append, HSLL.out], by omega, by omega, HBS'.out, D9⟩
        case measure => simp; omega
      -- ROUND END
    · have hlt' : ¬ ((i : Int) < (cs.length : Int)) := by omega
      go_wp2_with fail
      go_ret
      exact ⟨rfl, D4.2.2.2.1⟩
end Go.Proofs.YtdpnnglfaofjeaaDoor.Y
namespace Go.Proofs.YtdpnnglfaofjeaaDoor.Y
open Go.RowKit Go.Proofs.YtdpnnglfaofjeaaDoorW.PrintWords
set_option linter.unusedVariables false
set_option linter.unusedSimpArgs false
set_option maxRecDepth 1000000
theorem n4 : Tryd.prog.globalNamed "unicode/utf8.first" = some 4 := by kernel_rfl
theorem y4 : (Tryd.prog.globals[4]?).map (·.type) = some 136 := by kernel_rfl
theorem n5 : Tryd.prog.globalNamed "unicode/utf8.acceptRanges" = some 5 := by kernel_rfl
theorem y5 : (Tryd.prog.globals[5]?).map (·.type) = some 139 := by kernel_rfl
theorem c5 : Tryd.prog.cellsOf 5 = 1 := by kernel_rfl
theorem c136 : Tryd.prog.cellsOf 136 = 256 := by kernel_rfl
theorem c138 : Tryd.prog.cellsOf 138 = 2 := by kernel_rfl
theorem first_data : (Rows.laid_unicode_utf8_first : DataW Unit) = Lib.firstData := by kernel_rfl
theorem accept_data : (Rows.laid_unicode_utf8_acceptRanges : DataW Unit) = Lib.acceptData := by kernel_rfl
theorem first_same : ∀ p : Nat, p < 256 → (Lib.firstTab)[p]? = some (Z.firstT p) := by decide +kernel
theorem acc_same : ∀ i : Nat, i < 5 → ((Lib.accLo i : Nat) : Int) = Z.loT i ∧ ((Lib.accHi i : Nat) : Int) = Z.hiT i := by decide +kernel
theorem schOK {W : World} (hL : laidMetH Tryd.prog [("math/bits.deBruijn32tab", Rows.laid_math_bits_deBruijn32tab), ("math/bits.deBruijn64tab", Rows.laid_math_bits_deBruijn64tab), ("internal/strconv.uint64pow10", Rows.laid_internal_strconv_uint64pow10), ("unicode/utf8.acceptRanges", Rows.laid_unicode_utf8_acceptRanges), ("unicode/utf8.first", Rows.laid_unicode_utf8_first)] W) (hsh : W.ShapedOpen Tryd.prog) : Z.SchOK W := by
  have h1 : laidMet Tryd.prog [("math/bits.deBruijn32tab", Rows.laid_math_bits_deBruijn32tab), ("math/bits.deBruijn64tab", Rows.laid_math_bits_deBruijn64tab), ("internal/strconv.uint64pow10", Rows.laid_internal_strconv_uint64pow10), ("unicode/utf8.acceptRanges", Rows.laid_unicode_utf8_acceptRanges), ("unicode/utf8.first", Rows.laid_unicode_utf8_first)] W := (laidMetH_iff.1 hL).1
  have h3 := Lib.laidMet.reads h1 (n := "unicode/utf8.first") (d := Rows.laid_unicode_utf8_first) (by simp)
  have h4 := Lib.laidMet.reads h1 (n := "unicode/utf8.acceptRanges") (d := Rows.laid_unicode_utf8_acceptRanges) (by simp)
  rw [first_data] at h3
  rw [accept_data] at h4
  refine ⟨⟨fun p hp => ?_, fun i hi => ?_⟩, Go.Proofs.cell_of_shapedOpen_int (zero := #[.int .i64 0]) (t := 3) hsh (of_decide_eq_true (by kernel_rfl)) (by kernel_rfl) rfl (by kernel_rfl) (by kernel_rfl) Tryd.underlying3⟩
  · obtain ⟨g, t, cs, fuel, p', hg, hty, hvar, hd⟩ := h3
    obtain rfl := Option.some.inj (n4.symm.trans hg)
    obtain rfl := Option.some.inj (y4.symm.trans hty)
    have hcs := Lib.cells_of_tab Tryd.underlying136 Tryd.underlying5 c5 c136 hd
    have := World.var?_cell hg hvar p
    rw [this, ← Array.getElem?_toList, hcs]
    rw [List.getElem?_map, first_same p hp]
    rfl
  · obtain ⟨g, t, cs, fuel, p', hg, hty, hvar, hd⟩ := h4
    obtain rfl := Option.some.inj (n5.symm.trans hg)
    obtain rfl := Option.some.inj (y5.symm.trans hty)
    obtain ⟨fuel', d, q, hdi, he⟩ := Lib.array_elem Tryd.underlying139 hd i (by omega)
    simp only [List.getElem?_map, List.getElem?_range (show i < 16 by omega), Option.map_some, Option.some.injEq] at hdi
    subst hdi
    rw [c138] at he
    have hcs := Lib.ints_of_struct Tryd.underlying138 (fun j f hj => by
      match j, hj with
      | 0, hj => simp at hj; subst hj; exact ⟨Tryd.underlying5, rfl, c5⟩
      | 1, hj => simp at hj; subst hj; exact ⟨Tryd.underlying5, rfl, c5⟩
      | j + 2, hj => simp at hj) (by rw [c138]; rfl) he
    have e0 := congrArg (·[0]?) hcs
    have e1 := congrArg (·[1]?) hcs
    simp only [List.getElem?_take, List.getElem?_drop] at e0 e1
    obtain ⟨a0, a1⟩ := acc_same i hi
    rw [← a0, ← a1]
    constructor
    · rw [World.var?_cell hg hvar (i * 2), ← Array.getElem?_toList]
      simpa [Nat.mul_comm] using e0
    · rw [World.var?_cell hg hvar (i * 2 + 1), ← Array.getElem?_toList]
      simpa [Nat.mul_comm] using e1
theorem gTab : Tryd.prog.globalNamed "math/bits.deBruijn64tab" = some 3 := by kernel_rfl
theorem gTabType : (Tryd.prog.globals[3]?).map (·.type) = some 135 := by kernel_rfl
theorem under135 : Tryd.prog.underlying 135 = some (.array 64 5) := by kernel_rfl
theorem cells135 : Tryd.prog.cellsOf 135 = 64 := by kernel_rfl
theorem cells5 : Tryd.prog.cellsOf 5 = 1 := by kernel_rfl
def tab64 : List Int := [0, 1, 56, 2, 57, 49, 28, 3, 61, 58, 42, 50, 38, 29, 17, 4, 62, 47, 59, 36, 45, 43, 51, 22, 53, 39, 33, 30, 24, 18, 12, 5, 63, 55, 48, 27, 60, 41, 37, 16, 46, 35, 44, 21, 52, 32, 23, 11, 54, 26, 40, 15, 34, 20, 31, 10, 25, 14, 19, 9, 13, 8, 7, 6]
theorem tab_eq : (Rows.laid_math_bits_deBruijn64tab : DataW Unit) = Lib.tabData .u8 tab64 := rfl
theorem tabOK {W : World} (h : laidMetH Tryd.prog [("math/bits.deBruijn32tab", Rows.laid_math_bits_deBruijn32tab), ("math/bits.deBruijn64tab", Rows.laid_math_bits_deBruijn64tab), ("internal/strconv.uint64pow10", Rows.laid_internal_strconv_uint64pow10), ("unicode/utf8.acceptRanges", Rows.laid_unicode_utf8_acceptRanges), ("unicode/utf8.first", Rows.laid_unicode_utf8_first)] W) : U.TabOK W := by
  have h1 := (laidMetH_iff.1 h).1
  have h2 := h1.filter (fun x => x.1 == "math/bits.deBruijn64tab")
  have h3 : laidMet Tryd.prog [("math/bits.deBruijn64tab", Lib.tabData .u8 tab64)] W := h2
  exact (Lib.tabIs_of_head gTab gTabType under135 Tryd.underlying5 cells5 cells135 h3).cell gTab 15 (by decide)
theorem envOK {W : World} (hL : laidMetH Tryd.prog [("math/bits.deBruijn32tab", Rows.laid_math_bits_deBruijn32tab), ("math/bits.deBruijn64tab", Rows.laid_math_bits_deBruijn64tab), ("internal/strconv.uint64pow10", Rows.laid_internal_strconv_uint64pow10), ("unicode/utf8.acceptRanges", Rows.laid_unicode_utf8_acceptRanges), ("unicode/utf8.first", Rows.laid_unicode_utf8_first)] W) (hsh : W.ShapedOpen Tryd.prog) : EnvOK W := ⟨schOK hL hsh, tabOK hL⟩
end Go.Proofs.YtdpnnglfaofjeaaDoor.Y
namespace Go.Proofs.YtdpnnglfaofjeaaDoor.Opening
open Go.RowKit Go.Deep Go.Proofs.YtdpnnglfaofjeaaDoorW.PrintWords Go.ChangeShapes
theorem one_le {H : Type} (d : DataW H) : 1 ≤ Rows.uptoBulk d := by
  cases d with
  | lit l => cases l <;> simp [Rows.uptoBulk]
  | nil => simp [Rows.uptoBulk]
  | ptr d => simp [Rows.uptoBulk]
  | slice elems spare => simp [Rows.uptoBulk]
  | agg parts => simp [Rows.uptoBulk]
  | iface t d => simp [Rows.uptoBulk]
  | map entries => simp [Rows.uptoBulk]
  | held h => simp [Rows.uptoBulk]
def Opens {α : Type} (P : Program) (t : Nat) (d : Kd α) (good : α → Prop) (bulk : α → Nat) : Prop :=
  ∀ {H : Type} {enc : TypeId × Value → H} {w : World} {base : Nat} {spare : Nat → Bool} {held : Bool} {fuel : Nat} {cs : List Value} {x : DataW H × List MemPlace},
    DataW.trod enc P w base spare held fuel t cs = some x → ∃ v : α, d.K w v cs ∧ good v ∧ bulk v ≤ Rows.uptoBulk x.1
theorem opens_int {P : Program} {t : Nat} {k : IntKind} (ht : P.underlying t = some (.int k)) : Opens P t (Kd.int k) (fun n => (Lit.int k n).wf = true) (fun _ => 1) := by
  intro H enc w base spare held fuel cs x h
  obtain ⟨n, rfl, rfl, hw⟩ := DataW.trod_int ht h
  exact ⟨n, rfl, hw, one_le _⟩
theorem opens_bool {P : Program} {t : Nat} (ht : P.underlying t = some .bool) : Opens P t Kd.bool (fun _ => True) (fun _ => 1) := by
  intro H enc w base spare held fuel cs x h
  obtain ⟨b, rfl, rfl⟩ := DataW.trod_bool ht h
  exact ⟨b, rfl, trivial, one_le _⟩
theorem opens_string {P : Program} {t : Nat} (ht : P.underlying t = some .string) : Opens P t Kd.string (fun s => s.size ≤ maxLen) (fun s => s.size + 1) := by
  intro H enc w base spare held fuel cs x h
  obtain ⟨s, rfl, rfl, hs⟩ := DataW.trod_string ht h
  refine ⟨s, rfl, hs, ?_⟩
  have e : s.data.toList.length = s.size := data_length s
  simp only [Rows.uptoBulk, e]
  exact Nat.le_refl _
theorem bulk_map {H α : Type} (bulk : α → Nat) (D : Nat → DataW H) (l : List α) : ∀ (m : Nat), l.length = m → (∀ (i : Nat) (v : α), l[i]? = some v → bulk v ≤ Rows.uptoBulk (D i)) → (l.map bulk).sum ≤ Rows.uptoBulkAll ((List.range m).map D) := by
  induction l generalizing D with
  | nil => intro m hm h; simp
  | cons a l ih =>
    intro m hm h
    obtain ⟨m, rfl⟩ : ∃ k, m = k + 1 := ⟨m - 1, by simp at hm; omega⟩
    rw [List.range_succ_eq_map]
    simp only [List.map_cons, List.sum_cons, Rows.uptoBulkAll, List.map_map]
    have h0 := h 0 a rfl
    have h1 := ih (fun i => D (i + 1)) m (by simpa using hm) (fun i v hv => h (i + 1) v (by simpa using hv))
    have e : (D ∘ Nat.succ) = fun i => D (i + 1) := rfl
    rw [e]
    omega
theorem opens_slice {P : Program} {α : Type} {t e : Nat} {d : Kd α} {good : α → Prop} {bulk : α → Nat} (ht : P.underlying t = some (.slice e)) (hsz : P.cellsOf e = d.sz) (h : Opens P e d good bulk) :
    Opens P t (Kd.slice e d) (fun l => l.length ≤ maxLen ∧ ∀ v ∈ l, good v) (fun l => (l.map bulk).sum + 1) := by
  intro H enc w base spare held fuel cs x hx
  rcases open_slice ht hx with ⟨rfl, rfl⟩ | ⟨a, len, cap, m, n, D, Pl, rfl, hb, hlc, hcm, hm, rfl, hi⟩
  · exact ⟨[], ⟨none, 0, rfl, Nat.le_refl _, Kd.C_nil _ _⟩, ⟨Nat.zero_le _, fun v hv => by simp at hv⟩, by simp [Rows.uptoBulk]⟩
  · have hlm : len ≤ m := by rw [hm]; split <;> omega
    have step : ∀ i, i < len → ∃ (v : α) (c : List Value), c.length = d.sz ∧ d.K w v c ∧ good v ∧ bulk v ≤ Rows.uptoBulk (D i) ∧ ∀ j u, c[j]? = some u → w.cell? (a.add (i * d.sz + j)) = some u := by
      intro i hil
      obtain ⟨c, hc, htr⟩ := hi i (by omega)
      obtain ⟨v, hK, hg, hbk⟩ := h htr
      obtain ⟨_, hcl, hat⟩ := World.cells?_some hc
      refine ⟨v, c, by rw [hcl, hsz], hK, hg, hbk, fun j u hu => ?_⟩
      have hj : j < c.length := (List.getElem?_eq_some_iff.1 hu).1
      have := hat j (by omega)
      rw [← Go.Deep.add_add, ← hsz, this, hu]
    have build : ∀ k, k ≤ len → ∃ l : List α, l.length = k ∧ ∀ (i : Nat) (v : α), l[i]? = some v → ∃ c : List Value, c.length = d.sz ∧ d.K w v c ∧ good v ∧ bulk v ≤ Rows.uptoBulk (D i) ∧ ∀ j u, c[j]? = some u → w.cell? (a.add (i * d.sz + j)) = some u := by
      intro k
      induction k with
      | zero => exact fun _ => ⟨[], rfl, fun i v hv => by simp at hv⟩
      | succ k ih =>
        intro hk
        obtain ⟨l, hl, hall⟩ := ih (by omega)
        obtain ⟨v, c, hcv⟩ := step k (by omega)
        refine ⟨l ++ [v], by simp [hl], fun i u hu => ?_⟩
        rcases Nat.lt_or_ge i l.length with h1 | h1
        · rw [List.getElem?_append_left h1] at hu
          exact hall i u hu
        · rw [List.getElem?_append_right h1] at hu
          have h2 : i - l.length = 0 := by
            rcases Nat.eq_zero_or_pos (i - l.length) with h3 | h3
            · exact h3
            · rw [List.getElem?_eq_none (by simp; omega)] at hu
              cases hu
          rw [h2] at hu
          simp at hu
          subst hu
          obtain rfl : i = k := by omega
          exact ⟨c, hcv⟩
    obtain ⟨l, hl, hall⟩ := build len (Nat.le_refl _)
    subst hl
    refine ⟨l, ⟨some a, cap, rfl, hlc, rfl, by simp only [maxLen] at hcm; omega, fun _ => ⟨a, rfl, fun j p hp => ?_⟩⟩, ⟨by omega, fun v hv => ?_⟩, ?_⟩
    · obtain ⟨c, h1, h2, _, _, h5⟩ := hall j p hp
      exact ⟨c, h1, h2, h5⟩
    · obtain ⟨i, hi', rfl⟩ := List.mem_iff_getElem.1 hv
      obtain ⟨c, _, _, h3, _⟩ := hall i _ (List.getElem?_eq_getElem hi')
      exact h3
    · have := bulk_map bulk D l l.length rfl (fun i v hv => by obtain ⟨c, _, _, _, h4, _⟩ := hall i v hv; exact h4)
      simp only [Rows.uptoBulk]
      omega
theorem sum_ones {α : Type} (l : List α) : (l.map fun _ => 1).sum = l.length := by
  induction l with
  | nil => rfl
  | cons a l ih => simp only [List.map_cons, List.sum_cons, ih, List.length_cons]; omega
theorem u8_range {x : Int} (h : (Lit.int .u8 x).wf = true) : 0 ≤ x ∧ x ≤ 255 := by simpa [Lit.wf, IntKind.min, IntKind.max, IntKind.signed, IntKind.bits] using h
theorem u16_range {x : Int} (h : (Lit.int .u16 x).wf = true) : 0 ≤ x ∧ x ≤ 65535 := by simpa [Lit.wf, IntKind.min, IntKind.max, IntKind.signed, IntKind.bits] using h
end Go.Proofs.YtdpnnglfaofjeaaDoor.Opening

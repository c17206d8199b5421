import Derived.Test.YtdpnnglfaofjeaaDoorProg
import Derived.Test.YtdpnnglfaofjeaaDoorWMore
import Derived.WalkKit
import Derived.WalkLawsBesides
import Derived.WalkSpells
import Derived.Lib.Hide
import Derived.Laws.BitsLemmas
namespace Go.Proofs.YtdpnnglfaofjeaaDoor.U
open Go.RowKit Go.Proofs.YtdpnnglfaofjeaaDoorW.PrintWords Go.Proofs.YtdpnnglfaofjeaaDoorW.PrintLast Go.Proofs.YtdpnnglfaofjeaaDoorW.PrintMore
set_option linter.unusedVariables false
set_option linter.unusedSimpArgs false

/-- What is read of the library's table. -/
def TabOK (w : World) : Prop := w.cell? ⟨3, 15, none⟩ = some (.int .u8 4)
theorem TabOK.below {w w1 : World} (h : TabOK w) (hb : Below w.heap.size w w1) : TabOK w1 := (hb.cell (World.block_lt_of_cell? w _ h)).trans h
set_option maxHeartbeats 1000000 in
theorem tz_calls (w : World) (h : TabOK w) : Calls Tryd.prog 124 #[.int .u64 16] w fun e w' => e = .returned (.int .i64 4) ∧ w = w' := by
  have h1 : w.cell? ⟨3, 15, none⟩ = some (.int .u8 4) := h
  have hE : IntKind.u64.wrap (bits BinOp.and IntKind.u64 16 (IntKind.u64.wrap (-16)) * 285870213051353865) / 288230376151711744 = 15 := by decide +kernel
  go_enter Tryd.func124, Tryd.ntmps124
  go_wp2
  go_ret
  exact ⟨rfl, rfl⟩
theorem tz109_calls (w : World) (h : TabOK w) : Calls Tryd.prog 109 #[.int .u64 16] w fun e w' => e = .returned (.int .i64 4) ∧ w = w' := by
  go_enter Tryd.func109, Tryd.ntmps109
  go_wp2_with (go_at_call 124; refine (tz_calls _ h).mono ?_; rintro e w' ⟨rfl, rfl⟩)
  go_ret
  exact ⟨rfl, rfl⟩
theorem pow_calls (w : World) : Calls Tryd.prog 108 #[.int .i64 16] w fun e w' => e = .returned (.bool true) ∧ w = w' := by
  have hE : bits BinOp.and IntKind.i64 16 15 = 0 := by decide +kernel
  go_enter Tryd.func108, Tryd.ntmps108
  go_wp2
  go_ret
  exact ⟨rfl, rfl⟩
def dig (d : Nat) : Int := if d < 10 then 48 + (d : Int) else 87 + (d : Int)
def hexN (n : Nat) : List Int := if h : n < 16 then [dig n] else hexN (n / 16) ++ [dig (n % 16)]
termination_by n
decreasing_by omega
theorem hexN_small (n : Nat) (h : n < 16) : hexN n = [dig n] := by rw [hexN, dif_pos h]
theorem hexN_big (n : Nat) (h : ¬ n < 16) : hexN n = hexN (n / 16) ++ [dig (n % 16)] := by rw [hexN, dif_neg h]
theorem digs (d : Nat) (h : d < (⟨#[48, 49, 50, 51, 52, 53, 54, 55, 56, 57, 97, 98, 99, 100, 101, 102, 103, 104, 105, 106, 107, 108, 109, 110, 111, 112, 113, 114, 115, 116, 117, 118, 119, 120, 121, 122]⟩ : ByteArray).size) (hd : d < 16) : ((((⟨#[48, 49, 50, 51, 52, 53, 54, 55, 56, 57, 97, 98, 99, 100, 101, 102, 103, 104, 105, 106, 107, 108, 109, 110, 111, 112, 113, 114, 115, 116, 117, 118, 119, 120, 121, 122]⟩ : ByteArray)[d]'h).toNat : Nat) : Int) = dig d := by
  have : d = 0 ∨ d = 1 ∨ d = 2 ∨ d = 3 ∨ d = 4 ∨ d = 5 ∨ d = 6 ∨ d = 7 ∨ d = 8 ∨ d = 9 ∨ d = 10 ∨ d = 11 ∨ d = 12 ∨ d = 13 ∨ d = 14 ∨ d = 15 := by omega
  rcases this with rfl | rfl | rfl | rfl | rfl | rfl | rfl | rfl | rfl | rfl | rfl | rfl | rfl | rfl | rfl | rfl <;> rfl
theorem wraps_u64 (n : Int) (h₀ : 0 ≤ n) (h₁ : n < 2 ^ 64) : IntKind.u64.wrap n = n := by simp [IntKind.wrap, IntKind.bits, IntKind.signed]; omega
theorem u64_and15 (x : Nat) (h : x < 65536) : bits .and .u64 (x : Int) 15 = ((x % 16 : Nat) : Int) := by
  have := bits_mask .u64 64 (by decide) wraps_u64 4 (by decide) (x : Int) (by omega) (by omega)
  simpa using this
theorem info5 : (Tryd.prog.info? 5).map (fun i => (i.zero, i.size, i.bytes)) = some (some (.int .u8 0), 1, 1) := by kernel_rfl
theorem under116 : Tryd.prog.underlying 116 = some (.array (Tryd.prog.arrayLen 116) (Tryd.prog.elem 116)) := by kernel_rfl
theorem len116 : Tryd.prog.arrayLen 116 = 65 := by kernel_rfl
theorem elem116 : Tryd.prog.elem 116 = 5 := by kernel_rfl
theorem slice116 (g j : Nat) (hj : j < 65) (W : World) : (Instr.sliceAt 116 (.pointer (some ⟨g, 0, none⟩)) (some (.int .i64 (j : Int))) none none).run Tryd.prog W = .ok (.slice (some ⟨g, j, none⟩) (65 - j) (65 - j)) W := by
  obtain ⟨i0, hi0, _, hsz0, _⟩ := info_parts info5
  rw [run_sliceAt_array_l W 116 ⟨g, 0, none⟩ under116 .i64 (j : Int) (by omega) (by rw [len116]; omega), len116, elem116]
  have hne : ¬ 65 = j := by omega
  have hadd := add_plain g j
  simp [sizeOf, typeInfo, hi0, hsz0, slicedAt, Result.andThen, hne, hadd]
set_option maxRecDepth 100000 in
set_option maxHeartbeats 4000000 in
theorem bits_calls (u : Nat) (hu : u < 65536) (w : World) (h : TabOK w) : Calls Tryd.prog 93 #[.slice none 0 0, .int .u64 (u : Int), .int .i64 16, .bool false, .bool false] w fun e w' => e = .returned (.tuple #[.slice none 0 0, .string (strOfNums (hexN u))]) ∧ Below w.heap.size w w' := by
  have hb0 := (Below.refl w.heap.size w).alloc (Nat.le_refl _) (.cells Tryd.zeroCells116 116)
  have h0 := h.below hb0
  have hg0 := heap_alloc_new w (.cells Tryd.zeroCells116 116)
  go_enter Tryd.func93, Tryd.ntmps93
  go_wp2_with (first
    | (go_at_call 108; refine (pow_calls _).mono ?_; rintro e w' ⟨rfl, rfl⟩)
    | (go_at_call 109; refine (tz109_calls _ h0).mono ?_; rintro e w' ⟨rfl, rfl⟩))
  go_loopw [1, 13] (fun v1 v13 wr => ∃ (x : Nat) (t : List Int) (cur : Array Value), v1 = .int .u64 (x : Int) ∧ v13 = .int .i64 (65 - (t.length : Int)) ∧ wr.heap[w.heap.size]? = some (.cells cur 116 (0, 0)) ∧ cur.size = 65 ∧
      cur.toList.drop (65 - t.length) = t.map (Value.int .u8) ∧ Below w.heap.size w wr ∧ hexN u = hexN x ++ t ∧ (t.length = 0 ∧ x < 65536 ∨ t.length = 1 ∧ x < 4096 ∨ t.length = 2 ∧ x < 256 ∨ t.length = 3 ∧ x < 16)) (fun v1 _ _ => match v1 with | .int _ x => x.toNat | _ => 0)
  case atStart => exact ⟨u, [], Tryd.zeroCells116, rfl, rfl, hg0, by kernel_rfl, by kernel_rfl, hb0, by simp, .inl ⟨rfl, hu⟩⟩
  case round =>
    obtain ⟨x, t, cur, rfl, rfl, hg, hcs, hct, hb, hhex, hbd⟩ := hrel
    have hlt : t.length ≤ 3 := by omega
    obtain ⟨j, hj, hjl, hjt⟩ : ∃ j : Nat, 65 - (t.length : Int) - 1 = (j : Int) ∧ j < 65 ∧ j + 1 + t.length = 65 := ⟨64 - t.length, by omega, by omega, by omega⟩
    have hc := blk_cell hg j
    have hf := blk_frozen hg j
    have hcc : cur[j]? = some (cur[j]'(by omega)) := by simp [hcs, hjl]
    rw [hcc] at hc
    by_cases hx : x < 16
    · have hx1 : ¬ 16 ≤ (x : Int) := by omega
      have hx2 : (x : Int) < 36 := by omega
      have hxs := digs x (show x < 36 by omega) hx
      have hsl := slice116 w.heap.size j hjl
      have hb2 := hb.setCell (p := ⟨w.heap.size, j, none⟩) (Nat.le_refl _) (.int .u8 (dig x))
      have hbk := blk_set hg j (.int .u8 (dig x))
      have hcur : (cur.setIfInBounds j (.int .u8 (dig x))).toList.drop j = (dig x :: t).map (Value.int .u8) := by
        rw [List.map_cons, ← hct, show 65 - t.length = j + 1 from by omega, Array.toList_setIfInBounds, List.drop_eq_getElem_cons (by simp [hcs, hjl])]
        have e2 : (cur.toList.set j (Value.int .u8 (dig x)))[j]'(by simp [hcs, hjl]) = Value.int .u8 (dig x) := by simp
        rw [e2, List.drop_set_of_lt (by omega)]
      have hC : Kd.C (Kd.int .u8) (wr.setCell ⟨w.heap.size, j, none⟩ (.int .u8 (dig x))) (some ⟨w.heap.size, j, none⟩) (65 - j) (dig x :: t) := by
        refine Kd.C_of_reads (d := 0) (h1 := fun _ => rfl) ⟨by rw [List.length_cons]; omega, by omega, fun _ => ⟨_, rfl, fun k hk => ?_⟩⟩
        have ea : (⟨w.heap.size, j, none⟩ : Addr).add k = ⟨w.heap.size, j + k, none⟩ := by unfold Addr.add; split <;> simp_all
        rw [ea, cell_of_row _ _ _ _ _ _ hbk]
        have h1 := congrArg (fun l => l[k]?) hcur
        have hk2 : k < (dig x :: t).length := by rw [List.length_cons]; omega
        simp only [List.getElem?_drop, Array.getElem?_toList, List.getElem?_map] at h1
        rw [h1, List.getD_eq_getElem?_getD, List.getElem?_eq_getElem hk2]
        rfl
      have hstr := Kd.C_string (P := Tryd.prog) (c := 65 - j) Tryd.underlying22 Tryd.underlying5 Tryd.underlying9 hC
      have hfin : hexN x ++ t = dig x :: t := by rw [hexN_small x hx]; rfl
      generalize dig x = dx at *
      go_wp2_with fail
      go_ret2
      exact ⟨rfl, hb2⟩
    · have hx1 : 16 ≤ (x : Int) := by omega
      obtain ⟨d, hd, hd1, hd16, hd2⟩ : ∃ d : Nat, bits BinOp.and IntKind.u64 (x : Int) 15 = (d : Int) ∧ Hid (d = x % 16) ∧ d < 16 ∧ (d : Int) < 36 := ⟨x % 16, u64_and15 x (by omega), Lib.hid rfl, by omega, by omega⟩
      go_wp2
      go_roundw
      case rel =>
        refine ⟨x / 16, dig d :: t, cur.setIfInBounds j (.int .u8 (dig d)), by simp, by simp; omega, ?_, by simp [hcs], ?_, hb.setCell (p := ⟨w.heap.size, j, none⟩) (Nat.le_refl _) _, ?_, by rw [List.length_cons]; omega⟩
        · rw [digs d (show d < 36 by omega) hd16]
          exact blk_set hg j _
        · have e1 : 65 - (dig d :: t).length = j := by simp; omega
          rw [e1, List.map_cons, ← hct, show 65 - t.length = j + 1 from by omega, Array.toList_setIfInBounds, List.drop_eq_getElem_cons (by simp [hcs, hjl])]
          have e2 : (cur.toList.set j (Value.int .u8 (dig d)))[j]'(by simp [hcs, hjl]) = Value.int .u8 (dig d) := by simp
          rw [e2, List.drop_set_of_lt (by omega)]
        · rw [hhex, hexN_big x hx, hd1.out]
          simp
      case measure => simp; omega
theorem format80_calls (u : Nat) (hu : u < 65536) (w : World) (h : TabOK w) : Calls Tryd.prog 80 #[.int .u64 (u : Int), .int .i64 16] w fun e w' => e = .returned (.string (strOfNums (hexN u))) ∧ Below w.heap.size w w' := by
  go_enter Tryd.func80, Tryd.ntmps80
  go_wp2_with (go_at_call 93; refine (bits_calls u hu _ h).mono ?_; rintro e w' ⟨rfl, hb⟩)
  go_ret
  exact ⟨rfl, hb⟩
theorem format_calls (u : Nat) (hu : u < 65536) (w : World) (h : TabOK w) : Calls Tryd.prog 60 #[.int .u64 (u : Int), .int .i64 16] w fun e w' => e = .returned (.string (strOfNums (hexN u))) ∧ Below w.heap.size w w' := by
  go_enter Tryd.func60, Tryd.ntmps60
  go_wp2_with (go_at_call 80; refine (format80_calls u hu _ h).mono ?_; rintro e w' ⟨rfl, hb⟩)
  go_ret
  exact ⟨rfl, hb⟩
end Go.Proofs.YtdpnnglfaofjeaaDoor.U

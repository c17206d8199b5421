import Derived.Test.YtdpnnglfaofjeaaDoorSB
import Derived.Lib.Walk
import Derived.Lib.Strings
import Derived.Lib.IndexBytes
import Derived.Lib.AsciiSet
import Derived.Laws.Strings3
import Derived.Laws.ResultCell
import Derived.Deep.LoopGhost
import Derived.Deep.WholeRow
import Derived.LoopTactic
namespace Go.Proofs.YtdpnnglfaofjeaaDoor.Z
open Go.RowKit Go.Lib Go.Proofs.YtdpnnglfaofjeaaDoorW.PrintWords Go.Proofs.YtdpnnglfaofjeaaDoorW.PrintLast Go.Proofs.YtdpnnglfaofjeaaDoorW.PrintMore
set_option linter.unusedVariables false
set_option linter.unusedSimpArgs false
set_option maxRecDepth 1000000

/-! ### DecodeRune where the first byte is not ASCII -/
set_option maxHeartbeats 4000000 in
theorem decode_calls (l : List Int) (A : Option Addr) (c : Nat) (w : World) (hp : Kd.C (Kd.int .u8) w A l.length l) (hB : ∀ j : Nat, 0 ≤ l.getD j 0 ∧ l.getD j 0 ≤ 255) (hl : 0 < l.length) (h0 : 128 ≤ l.getD 0 0) (hT : DecOK w) :
    Calls Tryd.prog 115 #[.slice A l.length c] w (DecIs w l) := by
  have cS := slow l A c w hp hB hl h0 hT
  obtain ⟨ad, rfl, hc0⟩ := cell_at hp 0 hl
  have hc0' : w.cell? ad = some (.int .u8 (l.getD 0 0)) := by simpa [Addr.add] using hc0
  have hz : (0 : Int) < (l.length : Int) := by omega
  obtain ⟨b0, hb0⟩ : ∃ b, l.getD 0 0 = b := ⟨_, rfl⟩
  rw [hb0] at hc0' h0
  have ha : ¬ b0 < 128 := by omega
  clear hp hB hT hc0 hb0 h0
  go_enter Tryd.func115, Tryd.ntmps115
  go_wp2
  go_loop [8] (fun i => i = .int .i64 0) (fun _ => 0)
  case atStart => rfl
  case round =>
    subst hrel
    go_wp2_with (go_at_call 130; go_fit cS; rintro e w' ⟨r, n, rfl, hd, hb⟩)
    go_ret2
    exact ⟨r, n, rfl, hd, hb⟩

/-! ### The set of the characters -/
theorem run_zero122 (w : World) : (zeroValue 122).run Tryd.prog w = .ok (.agg (Array.replicate 256 (.bool false))) w := by kernel_rfl
theorem info122 : (Tryd.prog.info? 122).map (·.size) = some 256 := by kernel_rfl

theorem wp_load {P : Program} {o : Oper} {t : TypeId} {x : Operand} (ho : o.op = .load t x) {a : Act} {A v : Value} {w : World} {K : Act → World → Prop} {Q : Exit → Act → World → Prop} (he : a.eval x = A) (h : (Instr.loadAt t A).run P w = .ok v w) (hk : K (a.put o.dst v) w) : Oper.wp P o a w K Q := by
  unfold Oper.wp execOp
  rw [ho]
  simp only [he, Sem.run_bind, h, Result.andThen, Sem.run_pure]
  exact hk
theorem wp_store {P : Program} {o : Oper} {t : TypeId} {x y : Operand} (ho : o.op = .store t x y) {a : Act} {A v : Value} {w w' : World} {K : Act → World → Prop} {Q : Exit → Act → World → Prop} (he : a.eval x = A) (hv : a.eval y = v) (h : (Instr.storeAt t A v).run P w = .ok () w') (hk : K (a.put o.dst undef) w') : Oper.wp P o a w K Q := by
  unfold Oper.wp execOp
  rw [ho]
  simp only [he, hv, Sem.run_bind, h, Result.andThen, Sem.run_pure]
  exact hk
set_option maxHeartbeats 4000000 in
theorem makeSet_calls (chars : ByteArray) (w : World) (hs : chars.size < 4294967281) (hascii : ∀ (j : Nat) b, chars.data.toList[j]? = some b → b.toNat < 128) :
    Calls Tryd.prog 113 #[.string chars] w fun e w' => e = .returned (.tuple #[.agg (Lib.setCells chars.data.toList), .bool true]) ∧ w' = w.alloc (.cells (Lib.setCells chars.data.toList) 122) := by
  have hv116 := run_zero122
  have HA : Aside (∀ (j : Nat) b, chars.data.toList[j]? = some b → b.toNat < 128) := hascii
  clear hascii
  go_enter Tryd.func113, Tryd.ntmps113
  go_wp2
  rw [← Lib.setCells_nil]
  go_loopg [4] chars.size (fun g s4 wx => ∃ i : Nat, i + g = chars.size ∧ s4 = .int .i64 i ∧ wx = w.alloc (.cells (Lib.setCells (chars.data.toList.take i)) 122))
  case atStart => exact ⟨0, by omega, rfl, rfl⟩
  case round =>
    obtain ⟨i, hig, rfl, rfl⟩ := hrel
    cases gk with
    | zero =>
      obtain rfl : i = chars.size := by omega
      have hiz : ¬ ((chars.size : Int) < (chars.size : Int)) := by omega
      rw [show chars.data.toList.take chars.size = chars.data.toList from List.take_of_length_le (by rw [← Lib.size_eq]; exact Nat.le_refl _)]
      have hld := run_loadVar_new (P := Tryd.prog) w 122 (Lib.setCells chars.data.toList) 256 4 Tryd.underlying122 (by rw [Lib.setCells_size]; exact info122)
      have hsz := Lib.setCells_size chars.data.toList
      have hlc := run_loadCellsFrom_new (P := Tryd.prog) w 122 (Lib.setCells chars.data.toList) 256 hsz
      have hsc := run_storeCells_new (P := Tryd.prog) w 122 (Lib.setCells chars.data.toList) (Lib.setCells chars.data.toList) (by rw [hsz]; exact info122) rfl (Lib.setCells_one _)
      go_wp2
      refine wp_load rfl rfl (run_loadAt_new (P := Tryd.prog) w 122 (Lib.setCells chars.data.toList) 256 4 Tryd.underlying122 (by rw [hsz]; exact info122)) ?_
      go_wp2
      refine bodyPost_ret (v := .tuple #[.agg (Lib.setCells chars.data.toList), .bool true]) ?_ rfl ⟨rfl, rfl⟩
      rw [results_cell_tmp rfl]
      simp [asAddr, Result.andThen, hld]
    | succ g =>
      have hi : i < chars.size := by omega
      have hiz : (i : Int) < (chars.size : Int) := by omega
      obtain ⟨x, hx⟩ : ∃ x : UInt8, chars[i]'hi = x := ⟨_, rfl⟩
      have hxl : chars.data.toList[i]? = some x := by rw [← hx]; exact Lib.data_getElem? chars i hi
      have hx128 : ¬ ((128 : Int) ≤ (x.toNat : Int)) := by have := HA.out i x hxl; omega
      have hx256 : (x.toNat : Int) < 256 := by have := HA.out i x hxl; omega
      have hcell := Lib.setCells_at (chars.data.toList.take i) x
      have Hx : Aside (chars.data.toList[i]? = some x) := hxl
      clear hxl
      go_wp2
      go_roundg g
      case measure => omega
      case rel => exact ⟨i + 1, by omega, by first | rfl | simp, by rw [List.take_add_one, Hx.out]; simp only [Option.toList]; rw [Lib.setCells_snoc]⟩

set_option maxHeartbeats 2000000 in
theorem contains_calls (b : Nat) (x : Nat) (v : Bool) (w : World) (hx : x < 256) (hc : w.cell? ⟨b, x, none⟩ = some (.bool v)) :
    Calls Tryd.prog 114 #[.pointer (some ⟨b, 0, none⟩), .int .u8 (x : Int)] w fun e w' => e = .returned (.bool v) ∧ w' = w := by
  have hx256 : (x : Int) < 256 := by omega
  go_enter Tryd.func114, Tryd.ntmps114
  go_wp2
  go_ret
  exact ⟨rfl, rfl⟩
end Go.Proofs.YtdpnnglfaofjeaaDoor.Z

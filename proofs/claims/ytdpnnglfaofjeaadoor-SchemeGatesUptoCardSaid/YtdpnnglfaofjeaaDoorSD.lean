import Derived.Test.YtdpnnglfaofjeaaDoorSC
import Derived.Lib.IndexEntry
import Derived.Lib.Bytealg
import Derived.Laws.RangeString
import Derived.Handy
namespace Go.Proofs.YtdpnnglfaofjeaaDoor.Z
open Go.RowKit Go.Lib Go.Proofs.YtdpnnglfaofjeaaDoorW.PrintWords Go.Proofs.YtdpnnglfaofjeaaDoorW.PrintLast Go.Proofs.YtdpnnglfaofjeaaDoorW.PrintMore
set_option linter.unusedVariables false
set_option linter.unusedSimpArgs false
set_option maxRecDepth 1000000

/-! ### The four characters -/
def C4 : ByteArray := ⟨#[58, 47, 63, 35]⟩
def stop (x : Int) : Prop := x = 58 ∨ x = 47 ∨ x = 63 ∨ x = 35
instance (x : Int) : Decidable (stop x) := by unfold stop; infer_instance
/-- Where the first of the four characters lies. -/
def IsIdx (l : List Int) (r : Int) : Prop := (r = -1 ∧ ∀ j : Nat, j < l.length → ¬ stop (l.getD j 0)) ∨ ∃ i : Nat, r = i ∧ i < l.length ∧ stop (l.getD i 0) ∧ ∀ j : Nat, j < i → ¬ stop (l.getD j 0)
def ib (x : Int) : Int := if x = 58 then 0 else if x = 47 then 1 else if x = 63 then 2 else if x = 35 then 3 else -1
theorem ib_stop (x : Int) : 0 ≤ ib x ↔ stop x := by
  unfold ib stop
  repeat' split
  all_goals omega
theorem ib_all : ∀ n : Nat, n < 256 → Lib.indexByte C4.data.toList ((n : Int)).toNat.toUInt8 = ib (n : Int) := by decide +kernel
theorem run110 (b : Int) (hb : 0 ≤ b ∧ b ≤ 255) (w : World) : (callFunc 110 #[.string C4, .int .u8 b]).run Tryd.prog w = .ok (.value (.int .i64 (ib b))) w := by
  obtain ⟨n, rfl⟩ := Int.eq_ofNat_of_zero_le hb.1
  rw [run_callFunc_extern Tryd.func110 (by kernel_rfl) (by kernel_rfl) (by kernel_rfl) (e := Extern.BytealgIndexByte.indexByte) (by kernel_rfl), Lib.run_indexByteString, ib_all n (by omega)]
  rfl
theorem C4_toNat : ∀ i : Nat, i < 4 → (C4.data.toList.getD i 0).toNat < 128 := by decide +kernel
/-- The bytes of a rune that is not ASCII. -/
theorem enc_two (r : Int) (h0 : 128 ≤ r) (h1 : r ≤ 2047) : Utf8.encode r = ⟨#[UInt8.ofNat (0xC0 + r.toNat / 64), UInt8.ofNat (0x80 + r.toNat % 64)]⟩ := by
  have hv : Utf8.valid r = true := by simp only [Utf8.valid]; simp; omega
  simp only [Utf8.encode, hv, if_true]
  rw [if_neg (by omega), if_pos (by omega)]
theorem enc_three (r : Int) (h0 : 2048 ≤ r) (h1 : r ≤ 65535) (h2 : r < 55296 ∨ 57343 < r) : Utf8.encode r = ⟨#[UInt8.ofNat (0xE0 + r.toNat / 4096), UInt8.ofNat (0x80 + r.toNat / 64 % 64), UInt8.ofNat (0x80 + r.toNat % 64)]⟩ := by
  have hv : Utf8.valid r = true := by simp only [Utf8.valid]; simp; omega
  simp only [Utf8.encode, hv, if_true]
  rw [if_neg (by omega), if_neg (by omega), if_pos (by omega)]
theorem enc_four (r : Int) (h0 : 65536 ≤ r) (h1 : r ≤ 1114111) : Utf8.encode r = ⟨#[UInt8.ofNat (0xF0 + r.toNat / 262144), UInt8.ofNat (0x80 + r.toNat / 4096 % 64), UInt8.ofNat (0x80 + r.toNat / 64 % 64), UInt8.ofNat (0x80 + r.toNat % 64)]⟩ := by
  have hv : Utf8.valid r = true := by simp only [Utf8.valid]; simp; omega
  simp only [Utf8.encode, hv, if_true]
  rw [if_neg (by omega), if_neg (by omega), if_neg (by omega)]
theorem head_ne (n : Nat) (h0 : 128 ≤ n) (h1 : n < 256) : UInt8.ofNat n ≠ 58 ∧ UInt8.ofNat n ≠ 47 ∧ UInt8.ofNat n ≠ 63 ∧ UInt8.ofNat n ≠ 35 := by
  have e : (UInt8.ofNat n).toNat = n := by simp [UInt8.toNat_ofNat']; omega
  refine ⟨fun h => ?_, fun h => ?_, fun h => ?_, fun h => ?_⟩ <;> (rw [h] at e; simp at e; omega)
/-- The string of a rune, where it is not the error: how many bytes, and that none of the four characters heads it. -/
theorem enc_of {l : List Int} {r : Int} {n : Nat} (h : Dec l r n) (hr : r ≠ 65533) : (Utf8.encode r).size = n ∧ ∃ x t, (Utf8.encode r).data.toList = x :: t ∧ x ≠ 58 ∧ x ≠ 47 ∧ x ≠ 63 ∧ x ≠ 35 := by
  rcases h.2.2.2 with ⟨h, _⟩ | ⟨rfl, h0, h1⟩ | ⟨rfl, h0, h1, h2⟩ | ⟨rfl, h0, h1⟩
  · exact absurd h hr
  · rw [enc_two r h0 h1]; exact ⟨rfl, _, _, rfl, head_ne _ (by omega) (by omega)⟩
  · rw [enc_three r h0 h1 h2]; exact ⟨rfl, _, _, rfl, head_ne _ (by omega) (by omega)⟩
  · rw [enc_four r h0 h1]; exact ⟨rfl, _, _, rfl, head_ne _ (by omega) (by omega)⟩
theorem index_none4 (t : List UInt8) (x : UInt8) (h : x ≠ 58 ∧ x ≠ 47 ∧ x ≠ 63 ∧ x ≠ 35) : Lib.index C4.data.toList (x :: t) = -1 := by
  refine Lib.index_none ?_
  intro j hj
  cases ho : Lib.occAt C4.data.toList (x :: t) j with
  | false => rfl
  | true =>
    exfalso
    have hm := List.mem_of_getElem? (Lib.occAt_head rfl ho)
    have hall : ∀ y ∈ C4.data.toList, y = 58 ∨ y = 47 ∨ y = 63 ∨ y = 35 := by decide
    rcases hall x hm with e | e | e | e
    · exact h.1 e
    · exact h.2.1 e
    · exact h.2.2.1 e
    · exact h.2.2.2 e
theorem g116 : Tryd.prog.globals.findIdx? (·.name == "internal/bytealg.MaxLen") = some 1 := by kernel_rfl
theorem run116 {l : List Int} {r m : Int} {n : Nat} (h : Dec l r n) (hr : r ≠ 65533) (w : World) (hm : w.cell? ⟨1, 0, none⟩ = some (.int .i64 m)) (hn : (n : Int) ≤ m) : (callFunc 116 #[.string C4, .string (Utf8.encode r)]).run Tryd.prog w = .ok (.value (.int .i64 (-1))) w := by
  obtain ⟨hs, x, t, hx, hne⟩ := enc_of h hr
  have h2 : 2 ≤ n := by rcases h.2.2.2 with ⟨h, _⟩ | ⟨rfl, h0, h1⟩ | ⟨rfl, h0, h1, h2⟩ | ⟨rfl, h0, h1⟩ <;> omega
  rw [run_callFunc_extern Tryd.func116 (by kernel_rfl) (by kernel_rfl) (by kernel_rfl) (e := Extern.BytealgIndex.index) (by kernel_rfl), Lib.run_indexString C4 _ _ 1 m g116 hm (by omega) (by omega) (by decide), hx, index_none4 t x hne]
  rfl
/-- One step of the walk over the four characters. -/
theorem next4 (w : World) (ty : TypeId) : (Instr.next (.pointer (some ⟨w.heap.size, 0, none⟩)) true ty).run Tryd.prog (w.iter C4 0) = .ok (.tuple #[.bool true, .int .i64 0, .int .i32 58]) (w.iter C4 1)
    ∧ (Instr.next (.pointer (some ⟨w.heap.size, 0, none⟩)) true ty).run Tryd.prog (w.iter C4 1) = .ok (.tuple #[.bool true, .int .i64 1, .int .i32 47]) (w.iter C4 2)
    ∧ (Instr.next (.pointer (some ⟨w.heap.size, 0, none⟩)) true ty).run Tryd.prog (w.iter C4 2) = .ok (.tuple #[.bool true, .int .i64 2, .int .i32 63]) (w.iter C4 3)
    ∧ (Instr.next (.pointer (some ⟨w.heap.size, 0, none⟩)) true ty).run Tryd.prog (w.iter C4 3) = .ok (.tuple #[.bool true, .int .i64 3, .int .i32 35]) (w.iter C4 4)
    ∧ (Instr.next (.pointer (some ⟨w.heap.size, 0, none⟩)) true ty).run Tryd.prog (w.iter C4 4) = .ok (.tuple #[.bool false]) (w.iter C4 4) :=
  ⟨run_next_ascii w C4 0 ty (by decide) (by decide), run_next_ascii w C4 1 ty (by decide) (by decide), run_next_ascii w C4 2 ty (by decide) (by decide), run_next_ascii w C4 3 ty (by decide) (by decide), run_next_end w C4 4 ty (by decide)⟩
set_option maxHeartbeats 1000000 in
theorem big_calls (n : Int) (w : World) : Calls Tryd.prog 112 #[.int .i64 n] w fun e w' => e = .returned (.bool (decide (8 < n))) ∧ w' = w := by
  go_enter Tryd.func112, Tryd.ntmps112
  go_wp2
  go_ret
  exact ⟨rfl, rfl⟩
end Go.Proofs.YtdpnnglfaofjeaaDoor.Z

import Derived.Test.YtdpnnglfaofjeaaDoorProg
import Derived.Test.YtdpnnglfaofjeaaDoorWMore
import Derived.WalkKit
import Derived.WalkLawsBesides
import Derived.WalkSpells
import Derived.BigQuiet
import Derived.Deep.QuietTactic
import Derived.Lib.Hide
import Derived.Laws.BitsLemmas
namespace Go.Proofs.YtdpnnglfaofjeaaDoor.Z
open Go.RowKit Go.Proofs.YtdpnnglfaofjeaaDoorW.PrintWords Go.Proofs.YtdpnnglfaofjeaaDoorW.PrintLast Go.Proofs.YtdpnnglfaofjeaaDoorW.PrintMore
set_option linter.unusedVariables false
set_option linter.unusedSimpArgs false
set_option maxRecDepth 100000

/-! ### DecodeRune at a byte that is not ASCII -/
def firstT (p : Nat) : Int := if p < 128 then 240 else if p < 194 then 241 else if p < 224 then 2 else if p = 224 then 19 else if p < 237 then 3 else if p = 237 then 35 else if p < 240 then 3 else if p = 240 then 52 else if p < 244 then 4 else if p = 244 then 68 else 241
def loT : Nat → Int | 1 => 160 | 3 => 144 | _ => 128
def hiT : Nat → Int | 2 => 159 | 4 => 143 | _ => 191
/-- What is read of the library's two tables. -/
def DecOK (w : World) : Prop := (∀ p : Nat, p < 256 → w.cell? ⟨4, p, none⟩ = some (.int .u8 (firstT p))) ∧ ∀ i : Nat, i < 5 → w.cell? ⟨5, i * 2, none⟩ = some (.int .u8 (loT i)) ∧ w.cell? ⟨5, i * 2 + 1, none⟩ = some (.int .u8 (hiT i))
theorem DecOK.below {w w1 : World} (h : DecOK w) (hb : Below w.heap.size w w1) : DecOK w1 :=
  ⟨fun p hp => (hb.cell (World.block_lt_of_cell? w _ (h.1 p hp))).trans (h.1 p hp), fun i hi => ⟨(hb.cell (World.block_lt_of_cell? w _ (h.2 i hi).1)).trans (h.2 i hi).1, (hb.cell (World.block_lt_of_cell? w _ (h.2 i hi).2)).trans (h.2 i hi).2⟩⟩
/-- What DecodeRune tells at a byte that is not ASCII. -/
def Dec (l : List Int) (r : Int) (n : Nat) : Prop :=
  1 ≤ n ∧ n ≤ l.length ∧ (∀ i : Nat, i < n → 128 ≤ l.getD i 0) ∧ (r = 65533 ∧ n = 1 ∨ n = 2 ∧ 128 ≤ r ∧ r ≤ 2047 ∨ n = 3 ∧ 2048 ≤ r ∧ r ≤ 65535 ∧ (r < 55296 ∨ 57343 < r) ∨ n = 4 ∧ 65536 ≤ r ∧ r ≤ 1114111)
def DecIs (w : World) (l : List Int) (e : Ending) (w' : World) : Prop := ∃ r n, e = .returned (.tuple #[.int .i32 r, .int .i64 ((n : Nat) : Int)]) ∧ Dec l r n ∧ Below w.heap.size w w'
theorem wraps_u8 (n : Int) (h₀ : 0 ≤ n) (h₁ : n < 2 ^ 8) : IntKind.u8.wrap n = n := by rw [IntKind.wrap_u8]; omega
theorem wraps_i32 (n : Int) (h₀ : 0 ≤ n) (h₁ : n < 2 ^ 31) : IntKind.i32.wrap n = n := by rw [IntKind.wrap_i32]; omega
theorem and63 (x : Int) (h : 0 ≤ x ∧ x ≤ 255) : bits .and .u8 x 63 = x % 64 := bits_mask .u8 8 (by decide) wraps_u8 6 (by decide) x h.1 (by omega)
theorem and31 (x : Int) (h : 0 ≤ x ∧ x ≤ 255) : bits .and .u8 x 31 = x % 32 := bits_mask .u8 8 (by decide) wraps_u8 5 (by decide) x h.1 (by omega)
theorem and15 (x : Int) (h : 0 ≤ x ∧ x ≤ 255) : bits .and .u8 x 15 = x % 16 := bits_mask .u8 8 (by decide) wraps_u8 4 (by decide) x h.1 (by omega)
theorem and7 (x : Int) (h : 0 ≤ x ∧ x ≤ 255) : bits .and .u8 x 7 = x % 8 := bits_mask .u8 8 (by decide) wraps_u8 3 (by decide) x h.1 (by omega)
theorem or6 (x y : Int) (hx₀ : 0 ≤ x) (hx : x % 64 = 0) (hx₁ : x < 2147483648) (h₀ : 0 ≤ y) (h₁ : y < 64) : bits .or .i32 x y = x + y := bits_join .i32 31 (by decide) wraps_i32 6 x y hx₀ hx (by omega) h₀ h₁ (by omega)
theorem or12 (x y : Int) (hx₀ : 0 ≤ x) (hx : x % 4096 = 0) (hx₁ : x < 2147483648) (h₀ : 0 ≤ y) (h₁ : y < 4096) : bits .or .i32 x y = x + y := bits_join .i32 31 (by decide) wraps_i32 12 x y hx₀ hx (by omega) h₀ h₁ (by omega)
theorem or18 (x y : Int) (hx₀ : 0 ≤ x) (hx : x % 262144 = 0) (hx₁ : x < 2147483648) (h₀ : 0 ≤ y) (h₁ : y < 262144) : bits .or .i32 x y = x + y := bits_join .i32 31 (by decide) wraps_i32 18 x y hx₀ hx (by omega) h₀ h₁ (by omega)
theorem cell_at {w : World} {A : Option Addr} {l : List Int} (hp : Kd.C (Kd.int .u8) w A l.length l) (i : Nat) (h : i < l.length) : ∃ ad, A = some ad ∧ w.cell? (ad.add i) = some (.int .u8 (l.getD i 0)) := by
  obtain ⟨ad, h1, h2⟩ := Kd.at_int hp (i : Int) (by omega) (by omega)
  rw [Int.toNat_natCast] at h2
  exact ⟨ad, h1, h2⟩
theorem dec_bad (l : List Int) (hl : 0 < l.length) (h0 : 128 ≤ l.getD 0 0) : Dec l 65533 1 := by
  refine ⟨by omega, by omega, fun i hi => ?_, .inl ⟨rfl, rfl⟩⟩
  obtain rfl : i = 0 := by omega
  exact h0
theorem andNot_all : ∀ n : Nat, n < 256 → bits BinOp.andNot IntKind.i32 (n : Int) (-1) = 0 := by decide +kernel
set_option maxHeartbeats 4000000 in
theorem slow_bad (l : List Int) (A : Option Addr) (c : Nat) (w : World) (hp : Kd.C (Kd.int .u8) w A l.length l) (hl : 0 < l.length) (h0 : 128 ≤ l.getD 0 0 ∧ l.getD 0 0 ≤ 255) (hT : DecOK w) (hx : firstT (l.getD 0 0).toNat = 241) :
    Calls Tryd.prog 130 #[.slice A l.length c] w (DecIs w l) := by
  obtain ⟨ad, rfl, hc0⟩ := cell_at hp 0 hl
  have hc0' : w.cell? ad = some (.int .u8 (l.getD 0 0)) := by simpa [Addr.add] using hc0
  have hfin := dec_bad l hl h0.1
  obtain ⟨p0, hp0⟩ := Int.eq_ofNat_of_zero_le (show 0 ≤ l.getD 0 0 by omega)
  rw [hp0] at hc0 hc0' h0 hx
  rw [Int.toNat_natCast] at hx
  have hf := hT.1 p0 (by omega)
  rw [hx] at hf
  have hll : ¬ (l.length : Int) < 1 := by omega
  have e1 : wrap32 517543559168 / 2147483648 = -1 := by decide +kernel
  have e2 := andNot_all p0 (by omega)
  have e3 : bits BinOp.and IntKind.i32 65533 (-1) = 65533 := by decide +kernel
  have e4 : bits BinOp.or IntKind.i32 0 65533 = 65533 := by decide +kernel
  clear hp0 hx
  go_enter Tryd.func130, Tryd.ntmps130
  go_wp2
  go_ret2
  refine ⟨65533, 1, ?_, hfin, Below.refl _ _⟩
  first | rfl | (rw [e1, e2, e3, e4]; rfl) | (simp [*])
end Go.Proofs.YtdpnnglfaofjeaaDoor.Z

import Derived.Test.YtdpnnglfaofjeaaProg
import Derived.Test.YtdpnnglfaofjeaaWMore
import Derived.WalkLawsBesides
import Derived.WalkSpells
import Derived.Outline
import Derived.Lib.Hide
namespace Go.Proofs.Ytdpnnglfaofjeaa.U
open Go.RowKit Go.Proofs.YtdpnnglfaofjeaaW.PrintWords Go.Proofs.YtdpnnglfaofjeaaW.PrintLast Go.Proofs.YtdpnnglfaofjeaaW.PrintMore
set_option linter.unusedVariables false
set_option linter.unusedSimpArgs false

/-- The bounds of the bytes that follow a first byte. -/
def tailL (b : Int) : List (Int × Int) :=
  if 194 ≤ b ∧ b ≤ 223 then [(128, 191)]
  else if b = 224 then [(160, 191), (128, 191)]
  else if b = 237 then [(128, 159), (128, 191)]
  else if 225 ≤ b ∧ b ≤ 239 then [(128, 191), (128, 191)]
  else if b = 240 then [(144, 191), (128, 191), (128, 191)]
  else if 241 ≤ b ∧ b ≤ 243 then [(128, 191), (128, 191), (128, 191)]
  else if b = 244 then [(128, 143), (128, 191), (128, 191)]
  else []

def spanCells (t : List (Int × Int)) : List Value := t.flatMap fun x => [.int .u8 x.1, .int .u8 x.2]

/-- What tail hands back: nil just where nothing follows; else a row of its own. -/
def TailIs (w w' : World) (v : Value) (t : List (Int × Int)) : Prop :=
  (t = [] ∧ v = .slice none 0 0) ∨ (t ≠ [] ∧ ∃ g, v = .slice (some ⟨g, 0, none⟩) t.length t.length ∧ w.heap.size ≤ g ∧ w'.heap[g]? = some (.cells (spanCells t).toArray 59 (0, 0)))

set_option maxHeartbeats 4000000 in
theorem tail_c2 (b : Int) (w : World) (h1 : 194 ≤ b) (h2 : b ≤ 223) :
    Calls Try.prog 32 #[.int .u8 b] w fun e w' => ∃ v, e = .returned v ∧ TailIs w w' v [(128, 191)] ∧ Below w.heap.size w w' := by
  go_enter Try.func32, Try.ntmps32
  go_wp2
  go_ret
  exact ⟨_, rfl, .inr ⟨by simp, _, rfl, by simp, by simpa [spanCells] using heap_alloc_new (w.alloc (.cells #[.int .u8 128, .int .u8 191] 59)) _⟩, ((Below.refl _ _).alloc (Nat.le_refl _) _).alloc (by simp) _⟩
set_option maxHeartbeats 4000000 in
theorem tail_e0 (b : Int) (w : World) (h1 : b = 224) :
    Calls Try.prog 32 #[.int .u8 b] w fun e w' => ∃ v, e = .returned v ∧ TailIs w w' v [(160, 191), (128, 191)] ∧ Below w.heap.size w w' := by
  subst h1
  go_enter Try.func32, Try.ntmps32
  go_wp2
  go_ret
  exact ⟨_, rfl, .inr ⟨by simp, _, rfl, by simp, by simpa [spanCells] using heap_alloc_new (w.alloc (.cells #[.int .u8 128, .int .u8 191] 59)) _⟩, ((Below.refl _ _).alloc (Nat.le_refl _) _).alloc (by simp) _⟩
set_option maxHeartbeats 4000000 in
theorem tail_ed (b : Int) (w : World) (h1 : b = 237) :
    Calls Try.prog 32 #[.int .u8 b] w fun e w' => ∃ v, e = .returned v ∧ TailIs w w' v [(128, 159), (128, 191)] ∧ Below w.heap.size w w' := by
  subst h1
  go_enter Try.func32, Try.ntmps32
  go_wp2
  go_ret
  exact ⟨_, rfl, .inr ⟨by simp, _, rfl, by simp, by simpa [spanCells] using heap_alloc_new (w.alloc (.cells #[.int .u8 128, .int .u8 191] 59)) _⟩, ((Below.refl _ _).alloc (Nat.le_refl _) _).alloc (by simp) _⟩
set_option maxHeartbeats 4000000 in
theorem tail_e1 (b : Int) (w : World) (h1 : 225 ≤ b) (h2 : b ≤ 239) (h3 : b ≠ 237) :
    Calls Try.prog 32 #[.int .u8 b] w fun e w' => ∃ v, e = .returned v ∧ TailIs w w' v [(128, 191), (128, 191)] ∧ Below w.heap.size w w' := by
  have h4 : (b == 237) = false := by simpa using h3
  go_enter Try.func32, Try.ntmps32
  go_wp2
  go_ret
  exact ⟨_, rfl, .inr ⟨by simp, _, rfl, by simp, by simpa [spanCells] using heap_alloc_new (w.alloc (.cells #[.int .u8 128, .int .u8 191] 59)) _⟩, ((Below.refl _ _).alloc (Nat.le_refl _) _).alloc (by simp) _⟩
set_option maxHeartbeats 4000000 in
theorem tail_f0 (b : Int) (w : World) (h1 : b = 240) :
    Calls Try.prog 32 #[.int .u8 b] w fun e w' => ∃ v, e = .returned v ∧ TailIs w w' v [(144, 191), (128, 191), (128, 191)] ∧ Below w.heap.size w w' := by
  subst h1
  go_enter Try.func32, Try.ntmps32
  go_wp2
  go_ret
  exact ⟨_, rfl, .inr ⟨by simp, _, rfl, by simp, by simpa [spanCells] using heap_alloc_new (w.alloc (.cells #[.int .u8 128, .int .u8 191] 59)) _⟩, ((Below.refl _ _).alloc (Nat.le_refl _) _).alloc (by simp) _⟩
set_option maxHeartbeats 4000000 in
theorem tail_f1 (b : Int) (w : World) (h1 : 241 ≤ b) (h2 : b ≤ 243) :
    Calls Try.prog 32 #[.int .u8 b] w fun e w' => ∃ v, e = .returned v ∧ TailIs w w' v [(128, 191), (128, 191), (128, 191)] ∧ Below w.heap.size w w' := by
  go_enter Try.func32, Try.ntmps32
  go_wp2
  go_ret
  exact ⟨_, rfl, .inr ⟨by simp, _, rfl, by simp, by simpa [spanCells] using heap_alloc_new (w.alloc (.cells #[.int .u8 128, .int .u8 191] 59)) _⟩, ((Below.refl _ _).alloc (Nat.le_refl _) _).alloc (by simp) _⟩
set_option maxHeartbeats 4000000 in
theorem tail_f4 (b : Int) (w : World) (h1 : b = 244) :
    Calls Try.prog 32 #[.int .u8 b] w fun e w' => ∃ v, e = .returned v ∧ TailIs w w' v [(128, 143), (128, 191), (128, 191)] ∧ Below w.heap.size w w' := by
  subst h1
  go_enter Try.func32, Try.ntmps32
  go_wp2
  go_ret
  exact ⟨_, rfl, .inr ⟨by simp, _, rfl, by simp, by simpa [spanCells] using heap_alloc_new (w.alloc (.cells #[.int .u8 128, .int .u8 191] 59)) _⟩, ((Below.refl _ _).alloc (Nat.le_refl _) _).alloc (by simp) _⟩
set_option maxHeartbeats 4000000 in
theorem tail_lo (b : Int) (w : World) (h1 : b < 194) :
    Calls Try.prog 32 #[.int .u8 b] w fun e w' => ∃ v, e = .returned v ∧ TailIs w w' v [] ∧ Below w.heap.size w w' := by
  go_enter Try.func32, Try.ntmps32
  go_wp2
  go_ret
  exact ⟨_, rfl, .inl ⟨rfl, rfl⟩, (Below.refl _ _).alloc (Nat.le_refl _) _⟩
set_option maxHeartbeats 4000000 in
theorem tail_hi (b : Int) (w : World) (h1 : 244 < b) :
    Calls Try.prog 32 #[.int .u8 b] w fun e w' => ∃ v, e = .returned v ∧ TailIs w w' v [] ∧ Below w.heap.size w w' := by
  go_enter Try.func32, Try.ntmps32
  go_wp2
  go_ret
  exact ⟨_, rfl, .inl ⟨rfl, rfl⟩, (Below.refl _ _).alloc (Nat.le_refl _) _⟩
theorem tail_calls (b : Int) (w : World) :
    Calls Try.prog 32 #[.int .u8 b] w fun e w' => ∃ v, e = .returned v ∧ TailIs w w' v (tailL b) ∧ Below w.heap.size w w' := by
  unfold tailL
  split
  · exact tail_c2 b w (by omega) (by omega)
  split
  · exact tail_e0 b w (by omega)
  split
  · exact tail_ed b w (by omega)
  split
  · exact tail_e1 b w (by omega) (by omega) (by omega)
  split
  · exact tail_f0 b w (by omega)
  split
  · exact tail_f1 b w (by omega) (by omega)
  split
  · exact tail_f4 b w (by omega)
  · by_cases h : b < 194
    · exact tail_lo b w h
    · exact tail_hi b w (by omega)
end Go.Proofs.Ytdpnnglfaofjeaa.U

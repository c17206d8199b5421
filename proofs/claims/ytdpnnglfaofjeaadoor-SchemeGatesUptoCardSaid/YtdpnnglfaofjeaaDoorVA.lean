import Derived.Test.YtdpnnglfaofjeaaDoorProg
import Derived.Test.YtdpnnglfaofjeaaDoorWMore
import Derived.WalkLawsBesides
import Derived.WalkSpells
import Derived.Outline
import Derived.Lib.Hide
import Derived.Lib.SlBytesConst
namespace Go.Proofs.YtdpnnglfaofjeaaDoor.V
open Go.RowKit Go.Proofs.YtdpnnglfaofjeaaDoorW.PrintWords Go.Proofs.YtdpnnglfaofjeaaDoorW.PrintLast Go.Proofs.YtdpnnglfaofjeaaDoorW.PrintMore
set_option linter.unusedVariables false
set_option linter.unusedSimpArgs false
set_option maxRecDepth 100000

/-- The bounds of the bytes that follow a first byte. -/
def tailL (b : Int) : List (Int × Int) :=
  if 194 ≤ b ∧ b ≤ 223 then [(128, 191)]
  else if b = 224 then [(160, 191), (128, 191)]
  else if b = 237 then [(128, 159), (128, 191)]
  else if 225 ≤ b ∧ b ≤ 239 then [(128, 191), (128, 191)]
  else if b = 240 then [(144, 191), (128, 191), (128, 191)]
  else if 241 ≤ b ∧ b ≤ 243 then [(128, 191), (128, 191), (128, 191)]
  else if b = 244 then [(128, 143), (128, 191), (128, 191)]
  else []

def spanCells (t : List (Int × Int)) : List Value := t.flatMap fun x => [.int .u8 x.1, .int .u8 x.2]

/-- What tail hands back: nil just where nothing follows; else a row of its own. -/
def TailIs (w w' : World) (v : Value) (t : List (Int × Int)) : Prop :=
  (t = [] ∧ v = .slice none 0 0) ∨ (t ≠ [] ∧ ∃ g, v = .slice (some ⟨g, 0, none⟩) t.length t.length ∧ w.heap.size ≤ g ∧ w'.heap[g]? = some (.cells (spanCells t).toArray 112 (0, 0)))

set_option maxHeartbeats 4000000 in
theorem tail_c2 (b : Int) (w : World) (h1 : 194 ≤ b) (h2 : b ≤ 223) :
    Calls Tryd.prog 101 #[.int .u8 b] w fun e w' => ∃ v, e = .returned v ∧ TailIs w w' v [(128, 191)] ∧ Below w.heap.size w w' := by
  go_enter Tryd.func101, Tryd.ntmps101
  go_wp2
  go_ret
  exact ⟨_, rfl, .inr ⟨by simp, _, rfl, by simp, by simpa [spanCells] using heap_alloc_new (w.alloc (.cells #[.int .u8 128, .int .u8 191] 112)) _⟩, ((Below.refl _ _).alloc (Nat.le_refl _) _).alloc (by simp) _⟩
set_option maxHeartbeats 4000000 in
theorem tail_e0 (b : Int) (w : World) (h1 : b = 224) :
    Calls Tryd.prog 101 #[.int .u8 b] w fun e w' => ∃ v, e = .returned v ∧ TailIs w w' v [(160, 191), (128, 191)] ∧ Below w.heap.size w w' := by
  subst h1
  go_enter Tryd.func101, Tryd.ntmps101
  go_wp2
  go_ret
  exact ⟨_, rfl, .inr ⟨by simp, _, rfl, by simp, by simpa [spanCells] using heap_alloc_new (w.alloc (.cells #[.int .u8 128, .int .u8 191] 112)) _⟩, ((Below.refl _ _).alloc (Nat.le_refl _) _).alloc (by simp) _⟩
set_option maxHeartbeats 4000000 in
theorem tail_ed (b : Int) (w : World) (h1 : b = 237) :
    Calls Tryd.prog 101 #[.int .u8 b] w fun e w' => ∃ v, e = .returned v ∧ TailIs w w' v [(128, 159), (128, 191)] ∧ Below w.heap.size w w' := by
  subst h1
  go_enter Tryd.func101, Tryd.ntmps101
  go_wp2
  go_ret
  exact ⟨_, rfl, .inr ⟨by simp, _, rfl, by simp, by simpa [spanCells] using heap_alloc_new (w.alloc (.cells #[.int .u8 128, .int .u8 191] 112)) _⟩, ((Below.refl _ _).alloc (Nat.le_refl _) _).alloc (by simp) _⟩
set_option maxHeartbeats 4000000 in
theorem tail_e1 (b : Int) (w : World) (h1 : 225 ≤ b) (h2 : b ≤ 239) (h3 : b ≠ 237) :
    Calls Tryd.prog 101 #[.int .u8 b] w fun e w' => ∃ v, e = .returned v ∧ TailIs w w' v [(128, 191), (128, 191)] ∧ Below w.heap.size w w' := by
  have h4 : (b == 237) = false := by simpa using h3
  go_enter Tryd.func101, Tryd.ntmps101
  go_wp2
  go_ret
  exact ⟨_, rfl, .inr ⟨by simp, _, rfl, by simp, by simpa [spanCells] using heap_alloc_new (w.alloc (.cells #[.int .u8 128, .int .u8 191] 112)) _⟩, ((Below.refl _ _).alloc (Nat.le_refl _) _).alloc (by simp) _⟩
set_option maxHeartbeats 4000000 in
theorem tail_f0 (b : Int) (w : World) (h1 : b = 240) :
    Calls Tryd.prog 101 #[.int .u8 b] w fun e w' => ∃ v, e = .returned v ∧ TailIs w w' v [(144, 191), (128, 191), (128, 191)] ∧ Below w.heap.size w w' := by
  subst h1
  go_enter Tryd.func101, Tryd.ntmps101
  go_wp2
  go_ret
  exact ⟨_, rfl, .inr ⟨by simp, _, rfl, by simp, by simpa [spanCells] using heap_alloc_new (w.alloc (.cells #[.int .u8 128, .int .u8 191] 112)) _⟩, ((Below.refl _ _).alloc (Nat.le_refl _) _).alloc (by simp) _⟩
set_option maxHeartbeats 4000000 in
theorem tail_f1 (b : Int) (w : World) (h1 : 241 ≤ b) (h2 : b ≤ 243) :
    Calls Tryd.prog 101 #[.int .u8 b] w fun e w' => ∃ v, e = .returned v ∧ TailIs w w' v [(128, 191), (128, 191), (128, 191)] ∧ Below w.heap.size w w' := by
  go_enter Tryd.func101, Tryd.ntmps101
  go_wp2
  go_ret
  exact ⟨_, rfl, .inr ⟨by simp, _, rfl, by simp, by simpa [spanCells] using heap_alloc_new (w.alloc (.cells #[.int .u8 128, .int .u8 191] 112)) _⟩, ((Below.refl _ _).alloc (Nat.le_refl _) _).alloc (by simp) _⟩
set_option maxHeartbeats 4000000 in
theorem tail_f4 (b : Int) (w : World) (h1 : b = 244) :
    Calls Tryd.prog 101 #[.int .u8 b] w fun e w' => ∃ v, e = .returned v ∧ TailIs w w' v [(128, 143), (128, 191), (128, 191)] ∧ Below w.heap.size w w' := by
  subst h1
  go_enter Tryd.func101, Tryd.ntmps101
  go_wp2
  go_ret
  exact ⟨_, rfl, .inr ⟨by simp, _, rfl, by simp, by simpa [spanCells] using heap_alloc_new (w.alloc (.cells #[.int .u8 128, .int .u8 191] 112)) _⟩, ((Below.refl _ _).alloc (Nat.le_refl _) _).alloc (by simp) _⟩
set_option maxHeartbeats 4000000 in
theorem tail_lo (b : Int) (w : World) (h1 : b < 194) :
    Calls Tryd.prog 101 #[.int .u8 b] w fun e w' => ∃ v, e = .returned v ∧ TailIs w w' v [] ∧ Below w.heap.size w w' := by
  go_enter Tryd.func101, Tryd.ntmps101
  go_wp2
  go_ret
  exact ⟨_, rfl, .inl ⟨rfl, rfl⟩, (Below.refl _ _).alloc (Nat.le_refl _) _⟩
set_option maxHeartbeats 4000000 in
theorem tail_hi (b : Int) (w : World) (h1 : 244 < b) :
    Calls Tryd.prog 101 #[.int .u8 b] w fun e w' => ∃ v, e = .returned v ∧ TailIs w w' v [] ∧ Below w.heap.size w w' := by
  go_enter Tryd.func101, Tryd.ntmps101
  go_wp2
  go_ret
  exact ⟨_, rfl, .inl ⟨rfl, rfl⟩, (Below.refl _ _).alloc (Nat.le_refl _) _⟩
theorem tail_calls (b : Int) (w : World) :
    Calls Tryd.prog 101 #[.int .u8 b] w fun e w' => ∃ v, e = .returned v ∧ TailIs w w' v (tailL b) ∧ Below w.heap.size w w' := by
  unfold tailL
  split
  · exact tail_c2 b w (by omega) (by omega)
  split
  · exact tail_e0 b w (by omega)
  split
  · exact tail_ed b w (by omega)
  split
  · exact tail_e1 b w (by omega) (by omega) (by omega)
  split
  · exact tail_f0 b w (by omega)
  split
  · exact tail_f1 b w (by omega) (by omega)
  split
  · exact tail_f4 b w (by omega)
  · by_cases h : b < 194
    · exact tail_lo b w h
    · exact tail_hi b w (by omega)
end Go.Proofs.YtdpnnglfaofjeaaDoor.V
namespace Go.Proofs.YtdpnnglfaofjeaaDoor.V
open Go.RowKit Go.Proofs.YtdpnnglfaofjeaaDoorW.PrintWords Go.Proofs.YtdpnnglfaofjeaaDoorW.PrintLast Go.Proofs.YtdpnnglfaofjeaaDoorW.PrintMore
set_option linter.unusedVariables false
set_option linter.unusedSimpArgs false
set_option maxRecDepth 100000

def firstGo (l : List Int) (t : List (Int × Int)) : List (Int × Int) → Nat → Int × Bool × Bool
  | [], _ => (1 + t.length, !t.isEmpty, false)
  | s :: r, i => if (l.length : Int) ≤ i + 1 then (l.length, false, true)
    else if rd l (i + 1) < s.1 then (i + 1, false, false) else if s.2 < rd l (i + 1) then (i + 1, false, false)
    else firstGo l t r (i + 1)
def firstL (l : List Int) : Int × Bool × Bool :=
  if rd l 0 < 128 then (1, true, false) else firstGo l (tailL (rd l 0)) (tailL (rd l 0)) 0

theorem tailL_length (b : Int) : (tailL b).length ≤ 3 := by
  unfold tailL
  (repeat' split) <;> simp
theorem cell_al {W : World} {a : Addr} {v : Value} (o : Obj) (h : W.cell? a = some v) : (W.alloc o).cell? a = some v :=
  (World.cell?_alloc_lt W o a (World.block_lt_of_cell? W a h)).trans h
def FirstIs (w : World) (r : Int × Bool × Bool) (e : Ending) (w' : World) : Prop :=
  e = .returned (.tuple #[.int .i64 r.1, .bool r.2.1, .bool r.2.2]) ∧ Below w.heap.size w w'

theorem span_cells {W : World} {g : Nat} {t : List (Int × Int)} (h : W.heap[g]? = some (.cells (spanCells t).toArray 112 (0, 0))) (n : Nat) (s : Int × Int) (hs : t[n]? = some s) :
    W.cell? ⟨g, n * 2, none⟩ = some (.int .u8 s.1) ∧ W.cell? ⟨g, n * 2 + 1, none⟩ = some (.int .u8 s.2) := by
  have key : ∀ (t : List (Int × Int)) (n : Nat), t[n]? = some s → (spanCells t)[n * 2]? = some (.int .u8 s.1) ∧ (spanCells t)[n * 2 + 1]? = some (.int .u8 s.2) := by
    intro t
    induction t with
    | nil => intro n h; simp at h
    | cons a t ih =>
      intro n h
      cases n with
      | zero =>
        simp at h
        subst h
        simp [spanCells]
      | succ n =>
        have := ih n (by simpa using h)
        have e1 : (n + 1) * 2 = n * 2 + 2 := by omega
        rw [e1]
        simpa [spanCells] using this
  obtain ⟨h1, h2⟩ := key t n hs
  rw [blk_cell h, blk_cell h]
  simpa using ⟨h1, h2⟩

set_option maxHeartbeats 8000000 in
theorem first_calls (A : Option Addr) (c : Nat) (l : List Int) (w : World) (hr : Kd.C (Kd.int .u8) w A l.length l) (hc : l.length ≤ c) (hp : 0 < l.length) :
    Calls Tryd.prog 88 #[.slice A l.length c] w (FirstIs w (firstL l)) := by
  have HM := Kd.C_max hr
  obtain ⟨ad, rfl, hx⟩ := Kd.at_int hr 0 (by omega) (by omega)
  rw [show ((0 : Int)).toNat = 0 from rfl, Addr.add_zero'] at hx
  by_cases h1 : rd l 0 < 128
  · have e : firstL l = (1, true, false) := by simp [firstL, h1]
    have E := Lib.hid e
    clear e
    go_enter Tryd.func88, Tryd.ntmps88
    go_wp2
    go_ret3
    exact ⟨by rw [E.out]; rfl, Below.refl _ _⟩
  · have e : firstL l = firstGo l (tailL (rd l 0)) (tailL (rd l 0)) 0 := by simp [firstL, h1]
    have HL := tailL_length (rd l 0)
    generalize ht : tailL (rd l 0) = t at e HL
    have HT := Lib.hid ht
    have E := Lib.hid e
    clear e ht
    go_enter Tryd.func88, Tryd.ntmps88
    go_wp2_with fail
    refine (tail_calls _ _).mono ?_
    rintro e w1 ⟨v, rfl, hv, hb⟩
    rw [HT.out] at hv
    rcases hv with ⟨rfl, rfl⟩ | ⟨hne, g, rfl, hg, hcell⟩
    · have e0 : firstGo l [] [] 0 = (1, false, false) := by simp [firstGo]
      have E0 := Lib.hid e0
      clear e0
      have hneq := Go.run_neq_slice_nil_any (P := Tryd.prog)
      go_wp2
      go_loopw [18] (fun i wr => i = .int .i64 0 ∧ wr = w1) (fun _ _ => 0)
      case atStart => exact ⟨rfl, rfl⟩
      case round =>
        obtain ⟨rfl, rfl⟩ := hrel
        go_wp2
        go_ret3
        exact ⟨by rw [E.out, E0.out]; rfl, hb⟩
    · go_wp2
      go_loopw [18] (fun i wr => ∃ n : Nat, i = .int .i64 n ∧ n ≤ t.length ∧ Hid (firstL l = firstGo l t (t.drop n) n) ∧ wr.heap[g]? = some (.cells (spanCells t).toArray 112 (0, 0)) ∧ Below w.heap.size w wr) (fun i _ => t.length - (intOf i).toNat)
      case atStart => exact ⟨0, rfl, Nat.zero_le _, E, hcell, hb⟩
      case round =>
        obtain ⟨n, rfl, hn, HE, hcl, hbr⟩ := hrel
        by_cases hlt : n < t.length
        · have hs : t[n]? = some t[n] := List.getElem?_eq_getElem hlt
          generalize t[n] = sp at hs
          obtain ⟨hc1, hc2⟩ := span_cells hcl n sp hs
          have hdr : t.drop n = sp :: t.drop (n + 1) := by
            rw [List.drop_eq_getElem_cons hlt]
            congr 1
            rw [List.getElem?_eq_getElem hlt] at hs
            exact Option.some.inj hs
          by_cases hle : (l.length : Int) ≤ n + 1
          · have e2 : firstL l = ((l.length : Int), false, true) := by rw [HE.out, hdr]; simp [firstGo, hle]
            have E2 := Lib.hid e2
            clear e2 hdr hs
            go_wp2
            go_ret3
            exact ⟨by rw [E2.out]; rfl, hbr.alloc hbr.size _⟩
          · obtain ⟨ad', ead, hx1⟩ := Kd.at_int (Kd.C_below hr hbr) ((n : Int) + 1) (by omega) (by omega)
            injection ead with ead
            subst ead
            have q1 : (n : Int) + 1 < (l.length : Int) := by omega
            have q0 : (0 : Int) ≤ (n : Int) + 1 := by omega
            have q2 : ((n : Int) + 1).toNat = n + 1 := by omega
            have qw : IntKind.i64.wrap ((n : Int) + 1) = (n : Int) + 1 := IntWalk.i64_in _ (by omega)
            rw [q2, show ad.add (n + 1) = ⟨ad.block, ad.off + (n + 1), none⟩ from by simp [Addr.add]] at hx1
            have hxa := cell_al (.cells #[.int .u8 sp.1, .int .u8 sp.2] 112) hx1
            by_cases hlo : rd l ((n : Int) + 1) < sp.1
            · have e2 : firstL l = ((n : Int) + 1, false, false) := by rw [HE.out, hdr]; simp [firstGo, hle, hlo]
              have E2 := Lib.hid e2
              have d1 : decide (rd l ((n : Int) + 1) < sp.1) = true := by simpa using hlo
              clear e2 hdr hs
              go_wp2
              go_quiet (fail)
              go_wp2
              go_ret3
              exact ⟨by rw [E2.out]; rfl, pw_below_drewN (hbr.alloc hbr.size _) _⟩
            · have d1 : decide (rd l ((n : Int) + 1) < sp.1) = false := by simpa using hlo
              by_cases hhi : sp.2 < rd l ((n : Int) + 1)
              · have e2 : firstL l = ((n : Int) + 1, false, false) := by rw [HE.out, hdr]; simp [firstGo, hle, hlo, hhi]
                have E2 := Lib.hid e2
                have d2 : decide (sp.2 < rd l ((n : Int) + 1)) = true := by simpa using hhi
                clear e2 hdr hs
                go_wp2
                go_quiet (fail)
                go_wp2
                go_ret3
                exact ⟨by rw [E2.out]; rfl, pw_below_drewN (hbr.alloc hbr.size _) _⟩
              · have e2 : firstL l = firstGo l t (t.drop (n + 1)) (n + 1) := by rw [HE.out, hdr]; simp [firstGo, hle, hlo, hhi]
                have E2 := Lib.hid e2
                have d2 : decide (sp.2 < rd l ((n : Int) + 1)) = false := by simpa using hhi
                clear e2 hdr hs
                go_wp2
                go_quiet (fail)
                go_wp2
                go_roundw
                case rel => exact ⟨n + 1, by go_num, by omega, E2, blk_drewN (blk_alloc hcl _) _, pw_below_drewN (hbr.alloc hbr.size _) _⟩
                case measure => simp [intOf]; omega
        · have e2 : firstL l = (1 + (t.length : Int), true, false) := by
            rw [HE.out, List.drop_of_length_le (by omega)]
            simp [firstGo, hne]
          have E2 := Lib.hid e2
          have hneq := Go.run_neq_slice_nil_any (P := Tryd.prog)
          obtain rfl : n = t.length := by omega
          clear e2
          go_wp2
          go_ret3
          exact ⟨by rw [E2.out]; rfl, hbr⟩
end Go.Proofs.YtdpnnglfaofjeaaDoor.V
namespace Go.Proofs.YtdpnnglfaofjeaaDoor.V
open Go.RowKit Go.Proofs.YtdpnnglfaofjeaaDoorW.PrintWords
set_option linter.unusedVariables false

theorem firstGo_pos (l : List Int) (t : List (Int × Int)) : ∀ (r : List (Int × Int)) (i : Nat), 0 < l.length → 1 ≤ (firstGo l t r i).1
  | [], i, h => by simp [firstGo]; omega
  | s :: r, i, h => by
    unfold firstGo
    split
    · simp; omega
    split
    · simp; omega
    split
    · simp; omega
    · exact firstGo_pos l t r (i + 1) h
theorem firstL_pos (l : List Int) (h : 0 < l.length) : 1 ≤ (firstL l).1 := by
  unfold firstL
  split
  · simp
  · exact firstGo_pos l _ _ 0 h
theorem firstGo_le (l : List Int) (t : List (Int × Int)) : ∀ (r : List (Int × Int)) (i : Nat), i < l.length → t.length = i + r.length → (firstGo l t r i).1 ≤ l.length
  | [], i, h, ht => by simp [firstGo] at *; omega
  | s :: r, i, h, ht => by
    unfold firstGo
    simp at ht
    split
    · simp
    split
    · simp; omega
    split
    · simp; omega
    · exact firstGo_le l t r (i + 1) (by omega) (by omega)
theorem firstL_le (l : List Int) (h : 0 < l.length) : (firstL l).1 ≤ l.length := by
  unfold firstL
  split
  · simp; omega
  · exact firstGo_le l _ _ 0 h (by omega)

def fffd : List Int := [239, 191, 189]
/-- What the pieces of l that are sure make, and what waits. -/
def run (l : List Int) : List Int × List Int :=
  if h : 0 < l.length then
    if (firstL l).2.2 = true then ([], l)
    else ((if (firstL l).2.1 = true then l.take (firstL l).1.toNat else fffd) ++ (run (l.drop (firstL l).1.toNat)).1, (run (l.drop (firstL l).1.toNat)).2)
  else ([], [])
termination_by l.length
decreasing_by
  all_goals
    have := firstL_pos l h
    rw [List.length_drop]
    omega
theorem run_nil : run [] = ([], []) := by unfold run; simp
theorem run_open (l : List Int) (h : 0 < l.length) (ho : (firstL l).2.2 = true) : run l = ([], l) := by rw [run, dif_pos h, if_pos ho]
theorem run_good (l : List Int) (h : 0 < l.length) (ho : (firstL l).2.2 = false) (hg : (firstL l).2.1 = true) :
    run l = (l.take (firstL l).1.toNat ++ (run (l.drop (firstL l).1.toNat)).1, (run (l.drop (firstL l).1.toNat)).2) := by
  rw [run, dif_pos h, if_neg (by simp [ho]), if_pos hg]
theorem run_bad (l : List Int) (h : 0 < l.length) (ho : (firstL l).2.2 = false) (hg : (firstL l).2.1 = false) :
    run l = (fffd ++ (run (l.drop (firstL l).1.toNat)).1, (run (l.drop (firstL l).1.toNat)).2) := by
  rw [run, dif_pos h, if_neg (by simp [ho]), if_neg (by simp [hg])]
theorem run_len (l : List Int) : (run l).1.length + 3 * (run l).2.length ≤ 3 * l.length ∧ (run l).2.length ≤ l.length := by
  induction hn : l.length using Nat.strongRecOn generalizing l with
  | ind n ih =>
    by_cases h : 0 < l.length
    · have h1 := firstL_pos l h
      have h2 := firstL_le l h
      have hd := ih (l.drop (firstL l).1.toNat).length (by rw [List.length_drop]; omega) _ rfl
      rw [List.length_drop] at hd
      cases ho : (firstL l).2.2
      · cases hg : (firstL l).2.1
        · rw [run_bad l h ho hg]
          simp only [List.length_append, fffd, List.length_cons, List.length_nil]
          omega
        · rw [run_good l h ho hg]
          simp only [List.length_append, List.length_take]
          omega
      · rw [run_open l h ho]
        simp
        omega
    · have : l = [] := List.eq_nil_of_length_eq_zero (by omega)
      subst this
      rw [run_nil]
      simp
end Go.Proofs.YtdpnnglfaofjeaaDoor.V
namespace Go.Proofs.YtdpnnglfaofjeaaDoor.V
open Go.RowKit Go.Proofs.YtdpnnglfaofjeaaDoorW.PrintWords Go.Proofs.YtdpnnglfaofjeaaDoorW.PrintLast Go.Proofs.YtdpnnglfaofjeaaDoorW.PrintMore
set_option linter.unusedVariables false
set_option linter.unusedSimpArgs false
set_option maxRecDepth 100000

theorem info5 : (Tryd.prog.info? 5).map (fun i => (i.zero, i.size, i.bytes)) = some (some (.int .u8 0), 1, 1) := by kernel_rfl

/-- A decoder at block g that waits with the bytes l; what it holds lies in the blocks of F. -/
def DecIs (w : World) (F : Nat → Prop) (g : Nat) (l : List Int) : Prop :=
  F g ∧ ∃ v, w.heap[g]? = some (.cells #[v] 98 (0, 0)) ∧ Kd.R (Kd.int .u8) 5 w 0 F v l
theorem DecIs.step {w w1 : World} {F : Nat → Prop} {g : Nat} {l : List Int} (h : DecIs w F g l) (hm : ∀ k, F k → k < w.heap.size → w1.heap[k]? = w.heap[k]?) : DecIs w1 F g l := by
  obtain ⟨hF, v, hg, hr⟩ := h
  exact ⟨hF, v, (hm g hF (blk_lt hg)).trans hg, Kd.R_step hr hm⟩
theorem DecIs.mono {w : World} {F F' : Nat → Prop} {g : Nat} {l : List Int} (h : DecIs w F g l) (hm : ∀ k, F k → F' k) : DecIs w F' g l := by
  obtain ⟨hF, v, hg, hr⟩ := h
  exact ⟨hm g hF, v, hg, Kd.R_mono hr hm⟩
theorem DecIs.bound {w : World} {F : Nat → Prop} {g : Nat} {l : List Int} (h : DecIs w F g l) : DecIs w (fun k => F k ∧ k < w.heap.size) g l := by
  obtain ⟨hF, v, hg, hr⟩ := h
  exact ⟨⟨hF, blk_lt hg⟩, v, hg, Kd.R_mono (Kd.R_bound hr) (fun k hk => ⟨hk.1, hk.2.2.1⟩)⟩
theorem DecIs.lt {w : World} {F : Nat → Prop} {g : Nat} {l : List Int} (h : DecIs w F g l) : g < w.heap.size := by
  obtain ⟨hF, v, hg, hr⟩ := h
  exact blk_lt hg
theorem DecIs.below {w w1 : World} {F : Nat → Prop} {g : Nat} {l : List Int} (h : DecIs w F g l) (hb : Below w.heap.size w w1) : DecIs w1 F g l := h.step fun k _ hk => hb.block k hk
theorem DecIs.alloc {w : World} {F : Nat → Prop} {g : Nat} {l : List Int} (h : DecIs w F g l) (o : Obj) : DecIs (w.alloc o) F g l := h.below (below_alloc (Below.refl _ _) o)
theorem DecIs.drewN {w : World} {F : Nat → Prop} {g : Nat} {l : List Int} (h : DecIs w F g l) (n : Nat) : DecIs (w.drewN n) F g l := h
/-- Behind an append to v (apart from the decoder). -/
theorem DecIs.after {w w1 : World} {F : Nat → Prop} {g : Nat} {l : List Int} {v v1 : Value} (h : DecIs w (fun k => F k ∧ some k ≠ v.ownBlock) g l) (hg : w.grownBy w1 v.ownBlock)
    (hat : v1.ownBlock = v.ownBlock ∨ ∃ b, v1.ownBlock = some b ∧ w.heap.size ≤ b) : DecIs w1 (fun k => F k ∧ some k ≠ v1.ownBlock) g l := by
  refine ((h.bound).step (w1 := w1) (fun k hk hlt => hg.block k hlt hk.1.2)).mono ?_
  rintro k ⟨⟨h1, h2⟩, h3⟩
  refine ⟨h1, ?_⟩
  rcases hat with hat | ⟨b, hb, hle⟩
  · rw [hat]; exact h2
  · rw [hb]
    intro he
    injection he with he
    omega

section
variable {ops : Array Oper} {rest : List Oper} {o : Oper} {a : Act} {Q : Exit → Act → World → Prop}
/-- append of bytes onto a row of the call's own. -/
theorem appB {w0 W : World} (hgd : o.guard = none) (s x : Operand) (ho : o.op = .call { callee := .builtin .append, args := #[s, x], argTypes := #[22, 22] })
    (v : Value) (xs ys : List Int) (A : Option Addr) (m c : Nat) (hs : a.eval s = v) (hx : a.eval x = .slice A m c)
    (HO : Kd.R (Kd.int .u8) 5 W w0.heap.size (fun _ => True) v xs) (HR : Kd.C (Kd.int .u8) W A m ys) (HB : Below w0.heap.size w0 W) (hl : xs.length + m ≤ 140737488355328)
    (h : ∀ v1 w1, Kd.R (Kd.int .u8) 5 w1 w0.heap.size (fun _ => True) v1 (xs ++ ys) → Below w0.heap.size w0 w1 → W.grownBy w1 v.ownBlock → (v1.ownBlock = v.ownBlock ∨ ∃ b, v1.ownBlock = some b ∧ W.heap.size ≤ b) → wpList Tryd.prog ops Q rest (a.put o.dst v1) w1) :
    wpList Tryd.prog ops Q (o :: rest) a W :=
  Kd.R_append_rows (Kd.int .u8) (w0 := w0) w0.heap.size hgd s x 22 5 (.int .u8 0) 1 ho Tryd.underlying22 info5 rfl (by decide) (by omega) v xs ys A m c (fun _ => True) (fun _ => False) hs hx
    HO HR (fun _ _ h => h) (fun _ h => h.elim) (fun _ _ => trivial) HB HB.size (by omega) h
end
/-- Where the row lies behind an append of a text. -/
theorem run_append_str_at {P : Program} (w : World) (base : Nat) (t u ty e : TypeId) (i : TypeInfo) (ht : P.underlying t = some (.slice e)) (hu : P.underlying u = some .string) (hi : P.info? e = some i) (hz : i.zero = some (.int .u8 0))
    (hsize : i.size = 1) (hby : i.bytes = 1) (v : Value) (n : Nat) (xs : List Value) (hown : w.ownsRow base e 1 v n xs) (s : ByteArray) (hbytes : n + s.size ≤ 140737488355328) (hbase : base ≤ w.heap.size) :
    ∃ v' w', (Builtin.append_ #[t, u] ty #[v, .string s]).run P w = .ok v' w' ∧ w'.ownsRow base e 1 v' (n + s.size) (xs ++ Lib.strCells s) ∧ w.grownBy w' v.ownBlock ∧
      (v'.ownBlock = v.ownBlock ∨ ∃ b, v'.ownBlock = some b ∧ w.heap.size ≤ b) := by
  have h63 : n + s.size ≤ maxLen := by simp only [maxLen]; omega
  rcases hown.2 with ⟨rfl, rfl⟩ | ⟨g, cap, cur, rfl, hbg, hg, hnc, hcm, hcs, htake⟩
  · have hown' : w.ownsRow w.heap.size e 1 (.slice none 0 0) 0 xs := ⟨hown.1, .inl ⟨rfl, rfl⟩⟩
    obtain ⟨v', w', hr, h1, h2, _⟩ := Lib.run_append_own_string (P := P) w w.heap.size t u ty e i ht hu hi hz hsize hby _ 0 xs hown' s h63 hbytes (Nat.le_refl _)
    refine ⟨v', w', hr, own_weaken h1 hbase, h2, ?_⟩
    cases hv : v'.ownBlock with
    | none => exact .inl rfl
    | some k => exact .inr ⟨k, rfl, own_base h1 k hv⟩
  · obtain ⟨v', w', hr, h1, h2, _⟩ := Lib.run_append_own_string (P := P) w base t u ty e i ht hu hi hz hsize hby _ n xs hown s h63 hbytes hbase
    refine ⟨v', w', hr, h1, h2, ?_⟩
    by_cases hroom : n + s.size ≤ cap
    · have hr2 := Lib.run_append_room_string (P := P) w t u ty e i ht hu hi hsize g n cap cur hg s hroom (by rw [hcs]; omega)
      rw [hr] at hr2
      injection hr2 with hr2 _
      rw [hr2]
      exact .inl rfl
    · have holds : ∀ j u, xs[j]? = some u → w.cell? ((⟨g, 0, none⟩ : Addr).add j) = some u := hown.cells (g := g) rfl
      have hr2 := Lib.run_append_grow_string (P := P) w t u ty e i _ ht hu hi hz ⟨g, 0, none⟩ n cap xs (by rw [hsize]; exact hown.1) holds s (by omega) (by omega)
        (growslice_fits (by omega) (by rw [hby]; omega))
      rw [hr] at hr2
      injection hr2 with hr2 _
      rw [hr2]
      exact .inr ⟨_, rfl, Nat.le_refl _⟩
section
variable {ops : Array Oper} {rest : List Oper} {o : Oper} {a : Act} {Q : Exit → Act → World → Prop}
/-- append of a text onto a row of the call's own. -/
theorem appS {w0 W : World} (hgd : o.guard = none) (s x : Operand) (ho : o.op = .call { callee := .builtin .append, args := #[s, x], argTypes := #[22, 9] })
    (v : Value) (xs : List Int) (y : ByteArray) (hs : a.eval s = v) (hx : a.eval x = .string y)
    (HO : Kd.R (Kd.int .u8) 5 W w0.heap.size (fun _ => True) v xs) (HB : Below w0.heap.size w0 W) (hl : xs.length + y.size ≤ 140737488355328)
    (h : ∀ v1 w1, Kd.R (Kd.int .u8) 5 w1 w0.heap.size (fun _ => True) v1 (xs ++ bytesOf y) → Below w0.heap.size w0 w1 → W.grownBy w1 v.ownBlock → (v1.ownBlock = v.ownBlock ∨ ∃ b, v1.ownBlock = some b ∧ W.heap.size ≤ b) → wpList Tryd.prog ops Q rest (a.put o.dst v1) w1) :
    wpList Tryd.prog ops Q (o :: rest) a W := by
  obtain ⟨i0, hi, hz0, hz1, hz2⟩ := info_parts info5
  have HO' := Kd.own_of_R HO
  obtain ⟨v1, w1, hr, hown, hg, hat⟩ := run_append_str_at (P := Tryd.prog) W w0.heap.size 22 9 o.type 5 i0 Tryd.underlying22 Tryd.underlying9 hi hz0 hz1 hz2 v xs.length _ HO' y hl HB.size
  refine wpList_plain hgd fun K hK => ?_
  unfold Oper.wp execOp
  simp only [ho, resolve, invoke, builtin, Sem.run_bind, Sem.run_pure, Result.andThen_ok, List.map_toArray, List.map_cons, List.map_nil, hs, hx, hr]
  refine hK _ _ (h v1 w1 (Kd.R_of_own ?_ (fun _ _ => trivial)) (HB.grown hg HB.size (own_base HO')) hg hat)
  have hl2 : (xs ++ bytesOf y).length = xs.length + y.size := by rw [List.length_append, bytesOf_length]
  have hc : encs (Value.int .u8) (xs ++ bytesOf y) = encs (Value.int .u8) xs ++ Lib.strCells y := by
    rw [encs_append]
    congr 1
    simp [encs, bytesOf, Lib.strCells]
  rw [hl2, hc]
  exact hown
end
theorem R_empty (W : World) (base : Nat) (hb : base ≤ W.heap.size) : Kd.R (Kd.int .u8) 5 (W.alloc (.cells #[] 5)) base (fun _ => True) (.slice (some ⟨W.heap.size, 0, none⟩) 0 0) [] :=
  Kd.R_of_own (enc := Value.int .u8) (h1 := fun _ => rfl) (own_lit_of W base 5 ([] : List Int) hb (by simp)) (fun _ _ => trivial)

theorem only_setCell {a w : World} {g : Nat} (h : a.grownBy w (some g)) {p : Addr} (hp : p.block = g ∨ a.heap.size ≤ p.block) (u : Value) : a.grownBy (w.setCell p u) (some g) :=
  ⟨h.os, h.tape, h.output, by simpa [World.setCell] using h.size, fun i hi hne => (Below.heap_setCell w p u i (by
    rintro rfl
    rcases hp with hp | hp
    · exact hne (by rw [hp])
    · omega)).trans (h.block i hi hne)⟩
def FeedIs (w : World) (g : Nat) (r : List Int × List Int) (e : Ending) (w' : World) : Prop :=
  ∃ v, e = .returned v ∧ Kd.R (Kd.int .u8) 5 w' w.heap.size (fun _ => True) v r.1 ∧ DecIs w' (fun k => (k = g ∨ w.heap.size ≤ k) ∧ some k ≠ v.ownBlock) g r.2 ∧ w.grownBy w' (some g)

theorem feed_end {w W w4 : World} {g : Nat} {l : List Int} {v0 v4 v6 : Value} {out rest : List Int} (H : Hid (run l = (out, rest))) (hg : w.heap[g]? = some (.cells #[v0] 98 (0, 0)))
    (ho : Kd.R (Kd.int .u8) 5 W w.heap.size (fun _ => True) v6 out) (hb : Below w.heap.size w W) (ho4 : Kd.R (Kd.int .u8) 5 w4 W.heap.size (fun _ => True) v4 ([] ++ rest)) (hb4 : Below W.heap.size W w4) :
    FeedIs w g (run l) (.returned v6) (w4.setCell ⟨g, 0, none⟩ v4) := by
  have hlt := blk_lt hg
  have hgW : W.heap[g]? = some (.cells #[v0] 98 (0, 0)) := (hb.block g hlt).trans hg
  have hg4 := blk_below hgW hb4
  have h6 := Kd.R_below ho hb4
  have h6s := Kd.R_set h6 hg4 (by simp [Kd.int, Kd.scalar]) 0 v4
  have h4s := Kd.R_set ho4 hg4 (by simp [Kd.int, Kd.scalar]) 0 v4
  refine ⟨v6, rfl, ?_, ⟨⟨.inl rfl, Kd.R_ne h6s (blk_set hg4 0 v4) (by decide)⟩, v4, by simpa using blk_set hg4 0 v4, ?_⟩, only_setCell (grown_of_below (below_then hb hb.size hb4) _) (.inl rfl) _⟩
  · rw [H.out]; exact h6s
  · rw [H.out]
    refine Kd.R_lower (Kd.R_mono (Kd.R_bound h4s) (fun k hk => ⟨.inr (Nat.le_trans hb.size hk.2.1), fun he => ?_⟩)) (Nat.zero_le _)
    have := Kd.R_lt ho k he.symm
    have := hk.2.1
    omega

set_option maxHeartbeats 8000000 in
theorem feed_calls (F : Nat → Prop) (g : Nat) (l p : List Int) (A : Option Addr) (c : Nat) (w : World) (hd : DecIs w F g l) (hp : Kd.C (Kd.int .u8) w A p.length p) (hc : p.length ≤ c) (hN : l.length + p.length ≤ 1099511627776) :
    Calls Tryd.prog 75 #[.pointer (some ⟨g, 0, none⟩), .slice A p.length c] w (FeedIs w g (run (l ++ p))) := by
  obtain ⟨hF, v0, hg, hr0⟩ := hd
  obtain ⟨A0, c0, rfl, hc0, hC0⟩ := Kd.R_reads hr0
  have hgB : ∀ {W : World}, Below w.heap.size w W → W.heap[g]? = some (.cells #[.slice A0 l.length c0] 98 (0, 0)) := fun hb => (hb.block g (blk_lt hg)).trans hg
  have hcell : (w.alloc (.cells #[] 5)).cell? ⟨g, 0, none⟩ = some (.slice A0 l.length c0) := blk_cell (blk_alloc hg _) 0
  have HE := R_empty w w.heap.size (Nat.le_refl _)
  have HBE := (Below.refl w.heap.size w).alloc (Nat.le_refl _) (.cells #[] 5)
  go_enter Tryd.func75, Tryd.ntmps75
  go_wp2_with (first
    | (at_builtin; refine appB (w0 := w) rfl (.tmp 12) (.tmp 16) rfl _ _ _ _ _ _ rfl rfl HE (Kd.C_below hC0 HBE) HBE (by simp; omega) ?_; intro v1 w1 ho1 hb1 _ _; clear HE HBE hcell)
    | (at_builtin; refine appB (w0 := w) rfl (.tmp 17) (.tmp 18) rfl _ _ _ _ _ _ rfl rfl ho1 (Kd.C_below hp hb1) hb1 (by simp; omega) ?_; intro v2 w2 ho2 hb2 _ _; clear ho1 hb1))
  go_loopw [5, 6] (fun v5 v6 wr => ∃ (A : Option Addr) (c : Nat) (rest out : List Int), v5 = .slice A rest.length c ∧ rest.length ≤ c ∧ Kd.F (Kd.int .u8) wr (fun k => True ∧ some k ≠ v6.ownBlock) A rest.length rest ∧
      Kd.R (Kd.int .u8) 5 wr w.heap.size (fun _ => True) v6 out ∧ Below w.heap.size w wr ∧ Hid (run (l ++ p) = (out ++ (run rest).1, (run rest).2)) ∧ out.length + 3 * rest.length ≤ 3 * (l.length + p.length)) (fun v5 _ _ => match v5 with | .slice _ n _ => n | _ => 0)
  case atStart =>
    simp only [List.nil_append] at ho2
    obtain ⟨A2, c2, rfl, hc2, hC2⟩ := Kd.R_reads ho2
    exact ⟨A2, c2, l ++ p, [], rfl, hc2, Kd.F_mono (Kd.R_F ho2) (fun k _ => by simp [Value.ownBlock]), Kd.R_nil _ _ _ _ _, hb2, by exact (rfl : run (l ++ p) = ([] ++ (run (l ++ p)).1, (run (l ++ p)).2)), by simp⟩
  case round =>
    obtain ⟨A3, c3, rest, out, rfl, hc3, hF3, ho3, hb3, HQ, hlen⟩ := hrel
    have hC3 := Kd.F_now hF3
    by_cases hp0 : 0 < rest.length
    · obtain ⟨⟨fn, fg, fo⟩, hf⟩ : ∃ r, firstL rest = r := ⟨_, rfl⟩
      have HFC := first_calls A3 c3 rest wr hC3 hc3 hp0
      have hf1 := firstL_pos rest hp0
      have hf2 := firstL_le rest hp0
      rw [hf] at HFC hf1 hf2
      simp only at hf1 hf2
      cases fo
      · cases fg
        · have e2 : run (l ++ p) = (out ++ fffd ++ (run (rest.drop fn.toNat)).1, (run (rest.drop fn.toNat)).2) := by rw [HQ.out, run_bad rest hp0 (by rw [hf]) (by rw [hf]), hf]; simp
          have E2 := Lib.hid e2
          clear e2 hf
          go_wp2_with fail
          refine HFC.mono ?_
          rintro e w3 ⟨rfl, hb3'⟩
          have hF4 := Kd.F_below hF3 hb3'
          have ho3' := Kd.R_below ho3 hb3'
          have hb3s := below_then hb3 hb3.size hb3'
          have hsz3 := hb3.size
          clear hF3 ho3 HFC hC3
          obtain ⟨i0, hi0, _, hsz0, _⟩ := info_parts info5
          obtain ⟨A5, hcut, hA5, hc5⟩ := print_drop_of (P := Tryd.prog) (Value.int .u8) 0 22 5 .i64 Tryd.underlying22 hi0 hsz0 A3 c3 rest fn (by omega) hf2 hc3
          clear hi0 hsz0
          go_wp2_with (at_builtin; (refine appS (w0 := w) rfl (.tmp 36) (.const (.string ⟨#[239, 191, 189]⟩)) rfl u6 _ ⟨#[239, 191, 189]⟩ rfl rfl ho3' hb3s (by show _ + 3 ≤ _; omega) ?_); intro v6 w6 ho6 hb6 hgr6 hat6; have hF6 := Kd.F_after hF4 hgr6 hat6; clear hgr6 hat6 hF4)
          go_roundw
          case rel =>
            refine ⟨A5, c3 - fn.toNat, rest.drop fn.toNat, _, by rw [List.length_drop], hc5, Kd.F_imp hF6 (fun W' hC => Kd.C_of_reads (h1 := fun _ => rfl) (hA5 _ (Kd.reads_of_C hC))), ho6, hb6, E2, ?_⟩
            have hfl : (bytesOf ⟨#[239, 191, 189]⟩).length = 3 := rfl
            rw [List.length_append, hfl, List.length_drop]
            omega
          case measure => simp [List.length_drop]; omega
        · have e2 : run (l ++ p) = (out ++ rest.take fn.toNat ++ (run (rest.drop fn.toNat)).1, (run (rest.drop fn.toNat)).2) := by rw [HQ.out, run_good rest hp0 (by rw [hf]) (by rw [hf]), hf]; simp
          have E2 := Lib.hid e2
          clear e2 hf
          go_wp2_with fail
          refine HFC.mono ?_
          rintro e w3 ⟨rfl, hb3'⟩
          have hF4 := Kd.F_below hF3 hb3'
          have ho3' := Kd.R_below ho3 hb3'
          have hb3s := below_then hb3 hb3.size hb3'
          have hsz3 := hb3.size
          clear hF3 ho3 HFC hC3
          obtain ⟨i0, hi0, _, hsz0, _⟩ := info_parts info5
          obtain ⟨A5, hcut, hA5, hc5⟩ := print_drop_of (P := Tryd.prog) (Value.int .u8) 0 22 5 .i64 Tryd.underlying22 hi0 hsz0 A3 c3 rest fn (by omega) hf2 hc3
          obtain ⟨htake, hT5, htc⟩ := print_take_of (P := Tryd.prog) (Value.int .u8) 0 22 5 .i64 Tryd.underlying22 hi0 hsz0 A3 c3 rest fn (by omega) hf2 hc3
          have hCT := Kd.C_of_reads (h1 := fun _ => rfl) (hT5 _ (Kd.reads_of_C (Kd.F_now hF4)))
          clear hi0 hsz0 hT5 htc
          have hl5 : (rest.take fn.toNat).length = fn.toNat := by rw [List.length_take]; omega
          rw [hl5] at hCT
          have HL5 := Lib.hid hl5
          clear hl5
          go_wp2_with (at_builtin; refine appB (w0 := w) rfl (.tmp 31) (.tmp 34) rfl u6 _ _ _ _ _ rfl rfl ho3' hCT hb3s (by omega) ?_; intro v6 w6 ho6 hb6 hgr6 hat6; have hF6 := Kd.F_after hF4 hgr6 hat6; clear hgr6 hat6 hCT hF4)
          go_roundw
          case rel =>
            refine ⟨A5, c3 - fn.toNat, rest.drop fn.toNat, _, by rw [List.length_drop], hc5, Kd.F_imp hF6 (fun W' hC => Kd.C_of_reads (h1 := fun _ => rfl) (hA5 _ (Kd.reads_of_C hC))), ho6, hb6, E2, ?_⟩
            rw [List.length_append, HL5.out, List.length_drop]
            omega
          case measure => simp [List.length_drop]; omega
      · have e2 : run (l ++ p) = (out, rest) := by rw [HQ.out, run_open rest hp0 (by rw [hf])]; simp
        have HFIN := Lib.hid e2
        clear e2 hf
        go_wp2_with fail
        refine HFC.mono ?_
        rintro e w3 ⟨rfl, hb3'⟩
        have hF4 := Kd.F_below hF3 hb3'
        have ho3' := Kd.R_below ho3 hb3'
        have hb3s := below_then hb3 hb3.size hb3'
        clear hF3 ho3 HFC
        have hgW := hgB hb3s
        have hE4 := R_empty w3 w3.heap.size (Nat.le_refl _)
        have hB4 := (Below.refl w3.heap.size w3).alloc (Nat.le_refl _) (.cells #[] 5)
        have hC4 := Kd.C_alloc (Kd.F_now hF4) (.cells #[] 5)
        go_wp2_with (at_builtin; refine appB (w0 := w3) rfl (.tmp 42) (.tmp 43) rfl _ _ _ _ _ _ rfl rfl hE4 hC4 hB4 (by simp <;> omega) ?_; intro v4 w4 ho4 hb4 _ _; obtain ⟨A4, c4, e4⟩ := Kd.R_slice ho4; subst e4; have hg4 := blk_below hgW hb4; have hcell4 : w4.cell? ⟨g, 0, none⟩ = some (.slice A0 l.length c0) := blk_cell hg4 0; have hfr4 := blk_frozen hg4 0; clear hE4 hC4 hB4)
        go_ret
        exact feed_end HFIN hg ho3' hb3s ho4 hb4
    · have e1 : rest = [] := List.eq_nil_of_length_eq_zero (by omega)
      subst e1
      have e2 : run (l ++ p) = (out, []) := by rw [HQ.out, run_nil]; simp
      have HFIN := Lib.hid e2
      clear e2
      have hgW := (hgB hb3)
      have hE4 := R_empty wr wr.heap.size (Nat.le_refl _)
      have hB4 := (Below.refl wr.heap.size wr).alloc (Nat.le_refl _) (.cells #[] 5)
      have hC4 := Kd.C_alloc (Kd.F_now hF3) (.cells #[] 5)
      go_wp2_with (at_builtin; refine appB (w0 := wr) rfl (.tmp 42) (.tmp 43) rfl _ _ _ _ _ _ rfl rfl hE4 hC4 hB4 (by simp <;> omega) ?_; intro v4 w4 ho4 hb4 _ _; obtain ⟨A4, c4, e4⟩ := Kd.R_slice ho4; subst e4; have hg4 := blk_below hgW hb4; have hcell4 : w4.cell? ⟨g, 0, none⟩ = some (.slice A0 l.length c0) := blk_cell hg4 0; have hfr4 := blk_frozen hg4 0; clear hE4 hC4 hB4)
      go_ret
      exact feed_end HFIN hg ho3 hb3 ho4 hb4
end Go.Proofs.YtdpnnglfaofjeaaDoor.V
namespace Go.Proofs.YtdpnnglfaofjeaaDoor.V
open Go.RowKit Go.Proofs.YtdpnnglfaofjeaaDoorW.PrintWords Go.Proofs.YtdpnnglfaofjeaaDoorW.PrintLast Go.Proofs.YtdpnnglfaofjeaaDoorW.PrintMore
set_option linter.unusedVariables false
set_option linter.unusedSimpArgs false
set_option maxRecDepth 100000

/-- A row of bytes of the call's own. -/
abbrev OB (w w' : World) (v : Value) (l : List Int) : Prop := Kd.R (Kd.int .u8) 5 w' w.heap.size (fun _ => True) v l

theorem blk_lt' {w : World} {g : Nat} {o : Obj} (h : w.heap[g]? = some o) : g < w.heap.size := (Array.getElem?_eq_some_iff.1 h).1
/-- Bytes that can be read: they lie in blocks from B on. -/
def RB (B : Nat) (W : World) (v : Value) (l : List Int) : Prop := ∃ A c, v = .slice A l.length c ∧ l.length ≤ c ∧ Kd.F (Kd.int .u8) W (fun k => B ≤ k) A l.length l
theorem RB.nil (B : Nat) (W : World) : RB B W (.slice none 0 0) [] := ⟨none, 0, rfl, Nat.le_refl _, Kd.F_nil _ _ _⟩
theorem RB.of_OB {w w' : World} {v : Value} {l : List Int} (h : OB w w' v l) : RB w.heap.size w' v l := by
  obtain ⟨A, c, rfl, hc, _⟩ := Kd.R_reads h
  exact ⟨A, c, rfl, hc, Kd.F_mono (Kd.R_F (Kd.R_bound h)) (fun k hk => hk.2.1)⟩
theorem RB.step {B : Nat} {W W1 : World} {v : Value} {l : List Int} (h : RB B W v l) (hm : ∀ k, B ≤ k → k < W.heap.size → W1.heap[k]? = W.heap[k]?) : RB B W1 v l := by
  obtain ⟨A, c, hv, hc, hF⟩ := h
  exact ⟨A, c, hv, hc, Kd.F_step hF hm⟩
theorem RB.below {B : Nat} {W W1 : World} {v : Value} {l : List Int} (h : RB B W v l) (hb : Below W.heap.size W W1) : RB B W1 v l := h.step (fun k _ hk => hb.block k hk)
theorem RB.lower {B B' : Nat} {W : World} {v : Value} {l : List Int} (h : RB B W v l) (hB : B' ≤ B) : RB B' W v l := by
  obtain ⟨A, c, hv, hc, hF⟩ := h
  exact ⟨A, c, hv, hc, Kd.F_mono hF (fun k hk => Nat.le_trans hB hk)⟩
theorem RB.reads {B : Nat} {W : World} {v : Value} {l : List Int} (h : RB B W v l) : ∃ A c, v = .slice A l.length c ∧ l.length ≤ c ∧ Kd.C (Kd.int .u8) W A l.length l := by
  obtain ⟨A, c, hv, hc, hF⟩ := h
  exact ⟨A, c, hv, hc, Kd.F_now hF⟩
/-- A literal's block. -/
theorem RB.lit {B g c : Nat} {W : World} {l : List Int} {fr : Nat × Nat} (hg : W.heap[g]? = some (.cells (nums .u8 l).toArray 5 fr)) (hB : B ≤ g) (hl : l.length ≤ 9223372036854775807) (hc : l.length ≤ c) : RB B W (.slice (some ⟨g, 0, none⟩) l.length c) l := by
  refine ⟨_, _, rfl, hc, fun W' hW => ?_⟩
  have hg' := (hW g hB (blk_lt' hg)).trans hg
  refine Kd.C_of_reads (d := 0) (h1 := fun _ => rfl) ⟨rfl, hl, fun hn => ⟨_, rfl, fun j hj => ?_⟩⟩
  rw [add_plain, cell_of_row W' g j _ _ _ hg']
  simp [nums, List.getD_eq_getElem?_getD, hj]
theorem size_set (w : World) (p : Addr) (v : Value) : (w.setCell p v).heap.size = w.heap.size := by simp [World.setCell]
/-- A constant text made bytes, behind a store. -/
theorem conv_const (w : World) (p : Addr) (v : Value) (C : Array Value) (n c : Nat) :
    (convert 22 22 (.slice (some ⟨w.heap.size, 0, none⟩) n c)).run Tryd.prog ((w.setCell p v).alloc (.cells C 5)) = .ok (.slice (some ⟨w.heap.size, 0, none⟩) n c) ((w.setCell p v).alloc (.cells C 5 (C.size, C.size + 1))) := by
  have h := Lib.run_convert_bytes_const (P := Tryd.prog) (w.setCell p v) 22 5 C n c Tryd.underlying22 Tryd.underlying5
  rwa [size_set] at h
theorem only_alloc {a w : World} {row : Option Nat} (h : a.grownBy w row) (o : Obj) : a.grownBy (w.alloc o) row :=
  ⟨h.os, h.tape, h.output, Nat.le_trans h.size (by simp), fun i hi hne => (Below.heap_alloc w o i (Nat.lt_of_lt_of_le hi h.size)).trans (h.block i hi hne)⟩
theorem new_calls (w : World) :
    Calls Tryd.prog 72 #[] w fun e w' => e = .returned (.pointer (some ⟨w.heap.size, 0, none⟩)) ∧ DecIs w' (fun k => w.heap.size ≤ k) w.heap.size [] ∧ Below w.heap.size w w' := by
  go_enter Tryd.func72, Tryd.ntmps72
  go_wp2
  go_ret
  exact ⟨rfl, ⟨Nat.le_refl _, .slice none 0 0, by simpa using heap_alloc_new w (.cells #[.slice none 0 0] 98), Kd.R_nil _ _ _ _ _⟩, (Below.refl _ _).alloc (Nat.le_refl _) _⟩

def CarryIs (w : World) (l : List Int) (e : Ending) (w' : World) : Prop := ∃ v, e = .returned v ∧ OB w w' v l ∧ Below w.heap.size w w'
theorem carry_calls (F : Nat → Prop) (g : Nat) (l : List Int) (w : World) (hd : DecIs w F g l) (hN : l.length ≤ 1099511627776) :
    Calls Tryd.prog 79 #[.pointer (some ⟨g, 0, none⟩)] w (CarryIs w l) := by
  obtain ⟨hF, v0, hg, hr0⟩ := hd
  obtain ⟨A0, c0, rfl, hc0, hC0⟩ := Kd.R_reads hr0
  have hcell : w.cell? ⟨g, 0, none⟩ = some (.slice A0 l.length c0) := blk_cell hg 0
  go_enter Tryd.func79, Tryd.ntmps79
  go_wp2_with (at_builtin; refine appB (w0 := w) rfl _ (.tmp 8) rfl (.slice none 0 0) [] _ _ _ _ rfl rfl (Kd.R_nil _ _ _ _ _) hC0 (Below.refl _ _) (by simp; omega) ?_; intro v1 w1 ho1 hb1 _ _)
  go_ret
  exact ⟨_, rfl, by simpa using ho1, hb1⟩
theorem carry_nil (w : World) : Calls Tryd.prog 79 #[.pointer none] w fun e w' => e = .returned (.slice none 0 0) ∧ w = w' := by
  go_enter Tryd.func79, Tryd.ntmps79
  go_wp2
  go_ret
  exact ⟨rfl, rfl⟩
theorem feed_nil (A : Option Addr) (n c : Nat) (w : World) : Calls Tryd.prog 75 #[.pointer none, .slice A n c] w fun e w' => e = .returned (.slice none 0 0) ∧ w = w' := by
  go_enter Tryd.func75, Tryd.ntmps75
  go_wp2
  go_ret
  exact ⟨rfl, rfl⟩
theorem finish_nil (w : World) : Calls Tryd.prog 76 #[.pointer none] w fun e w' => e = .returned (.slice none 0 0) ∧ w = w' := by
  go_enter Tryd.func76, Tryd.ntmps76
  go_wp2
  go_ret
  exact ⟨rfl, rfl⟩

def rest3 (l : List Int) : List Int := if 0 < l.length then fffd else []
def FinishIs (w : World) (F : Nat → Prop) (g : Nat) (l : List Int) (e : Ending) (w' : World) : Prop :=
  ∃ v, e = .returned v ∧ RB w.heap.size w' v (rest3 l) ∧ DecIs w' F g [] ∧ w.grownBy w' (some g)
theorem finish_calls (F : Nat → Prop) (g : Nat) (l : List Int) (w : World) (hd : DecIs w F g l) :
    Calls Tryd.prog 76 #[.pointer (some ⟨g, 0, none⟩)] w (FinishIs w F g l) := by
  have hd0 := hd
  obtain ⟨hF, v0, hg, hr0⟩ := hd
  obtain ⟨A0, c0, rfl, hc0, hC0⟩ := Kd.R_reads hr0
  have hcell : w.cell? ⟨g, 0, none⟩ = some (.slice A0 l.length c0) := blk_cell hg 0
  have hfr := blk_frozen hg 0
  by_cases h : 0 < l.length
  · have h1 : ((l.length : Int) == 0) = false := beq_eq_false_iff_ne.2 (by omega)
    have kc := conv_const w
    go_enter Tryd.func76, Tryd.ntmps76
    go_wp2
    go_ret
    have hlt := blk_lt hg
    have hs := blk_set hg 0 (.slice none 0 0)
    have hn := heap_alloc_new (w.setCell ⟨g, 0, none⟩ (.slice none 0 0)) (.cells #[.int .u8 239, .int .u8 191, .int .u8 189] 5 (3, 4))
    rw [size_set] at hn
    refine ⟨_, rfl, ?_, ⟨hF, _, by simpa using blk_alloc hs _, Kd.R_nil _ _ _ _ _⟩, only_alloc (only_setCell (World.grownBy.refl _ _) (.inl rfl) _) _⟩
    rw [show rest3 l = fffd from if_pos h]
    exact RB.lit (l := fffd) (by exact hn) (Nat.le_refl _) (by decide) (Nat.le_refl _)
  · have h0 : l = [] := List.eq_nil_of_length_eq_zero (by omega)
    subst h0
    go_enter Tryd.func76, Tryd.ntmps76
    go_wp2
    go_ret
    exact ⟨.slice none 0 0, rfl, RB.nil _ _, hd0, World.grownBy.refl _ _⟩

/-- The clean text. -/
def clean (l : List Int) : List Int := (run l).1 ++ rest3 (run l).2
def CleanIs (w : World) (l : List Int) (e : Ending) (w' : World) : Prop := ∃ v, e = .returned v ∧ OB w w' v (clean l) ∧ Below w.heap.size w w'
set_option maxHeartbeats 4000000 in
theorem clean_calls (l : List Int) (A : Option Addr) (c : Nat) (w : World) (hp : Kd.C (Kd.int .u8) w A l.length l) (hc : l.length ≤ c) (hN : l.length ≤ 1099511627776) :
    Calls Tryd.prog 81 #[.slice A l.length c] w (CleanIs w l) := by
  have hlen := run_len l
  go_enter Tryd.func81, Tryd.ntmps81
  go_wp2_with fail
  refine (new_calls _).mono ?_
  rintro e w1 ⟨rfl, hd1, hb1⟩
  have hlt := hd1.lt
  go_wp2_with fail
  refine (feed_calls _ _ [] l _ _ _ hd1 (Kd.C_below hp hb1) hc (by simp; omega)).mono ?_
  rintro e w2 ⟨v2, rfl, ho2, hd2, hg2⟩
  rw [List.nil_append] at ho2 hd2
  have hb2 : Below w.heap.size w w2 := pw_below_grown hb1 _ hb1.size hg2 (by rintro k ⟨⟩; exact Nat.le_refl _)
  have ho2' : Kd.R (Kd.int .u8) 5 w2 w.heap.size (fun k => True ∧ k ≠ w.heap.size) v2 (run l).1 := Kd.R_lower (Kd.R_mono (Kd.R_bound ho2) (fun k hk => ⟨trivial, by have := hk.2.1; omega⟩)) hb1.size
  go_wp2_with fail
  refine (finish_calls _ _ _ _ hd2).mono ?_
  rintro e w3 ⟨v3, rfl, hr3, hd3, hg3⟩
  have ho3 : OB w w3 v2 (run l).1 := Kd.R_mono (Kd.R_grown ho2' hg3 (by rintro k ⟨_, h⟩ he; injection he with he; exact h he)) (fun _ _ => trivial)
  have hb3 : Below w.heap.size w w3 := pw_below_grown hb2 _ hb2.size hg3 (by rintro k ⟨⟩; exact Nat.le_refl _)
  obtain ⟨A3, c3, rfl, hc3, hC3⟩ := hr3.reads
  have hl3 : (rest3 (run l).2).length ≤ 3 := by unfold rest3; split <;> simp [fffd]
  go_wp2_with (at_builtin; refine appB (w0 := w) rfl (.tmp 9) (.tmp 11) rfl v2 _ _ _ _ _ rfl rfl ho3 hC3 hb3 (by omega) ?_; intro v4 w4 ho4 hb4 _ _)
  go_ret
  exact ⟨_, rfl, ho4, hb4⟩
end Go.Proofs.YtdpnnglfaofjeaaDoor.V

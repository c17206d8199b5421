import Derived.Test.YtdpnnglfaofjeaaA
namespace Go.Proofs.Ytdpnnglfaofjeaa.U
open Go.RowKit Go.Proofs.YtdpnnglfaofjeaaW.PrintWords Go.Proofs.YtdpnnglfaofjeaaW.PrintLast Go.Proofs.YtdpnnglfaofjeaaW.PrintMore
set_option linter.unusedVariables false
set_option linter.unusedSimpArgs false

def firstGo (l : List Int) (t : List (Int × Int)) : List (Int × Int) → Nat → Int × Bool × Bool
  | [], _ => (1 + t.length, !t.isEmpty, false)
  | s :: r, i => if (l.length : Int) ≤ i + 1 then (l.length, false, true)
    else if rd l (i + 1) < s.1 then (i + 1, false, false) else if s.2 < rd l (i + 1) then (i + 1, false, false)
    else firstGo l t r (i + 1)
def firstL (l : List Int) : Int × Bool × Bool :=
  if rd l 0 < 128 then (1, true, false) else firstGo l (tailL (rd l 0)) (tailL (rd l 0)) 0

theorem tailL_length (b : Int) : (tailL b).length ≤ 3 := by
  unfold tailL
  (repeat' split) <;> simp
theorem cell_al {W : World} {a : Addr} {v : Value} (o : Obj) (h : W.cell? a = some v) : (W.alloc o).cell? a = some v :=
  (World.cell?_alloc_lt W o a (World.block_lt_of_cell? W a h)).trans h
def FirstIs (w : World) (r : Int × Bool × Bool) (e : Ending) (w' : World) : Prop :=
  e = .returned (.tuple #[.int .i64 r.1, .bool r.2.1, .bool r.2.2]) ∧ Below w.heap.size w w'

theorem span_cells {W : World} {g : Nat} {t : List (Int × Int)} (h : W.heap[g]? = some (.cells (spanCells t).toArray 59 (0, 0))) (n : Nat) (s : Int × Int) (hs : t[n]? = some s) :
    W.cell? ⟨g, n * 2, none⟩ = some (.int .u8 s.1) ∧ W.cell? ⟨g, n * 2 + 1, none⟩ = some (.int .u8 s.2) := by
  have key : ∀ (t : List (Int × Int)) (n : Nat), t[n]? = some s → (spanCells t)[n * 2]? = some (.int .u8 s.1) ∧ (spanCells t)[n * 2 + 1]? = some (.int .u8 s.2) := by
    intro t
    induction t with
    | nil => intro n h; simp at h
    | cons a t ih =>
      intro n h
      cases n with
      | zero =>
        simp at h
        subst h
        simp [spanCells]
      | succ n =>
        have := ih n (by simpa using h)
        have e1 : (n + 1) * 2 = n * 2 + 2 := by omega
        rw [e1]
        simpa [spanCells] using this
  obtain ⟨h1, h2⟩ := key t n hs
  rw [blk_cell h, blk_cell h]
  simpa using ⟨h1, h2⟩

set_option maxHeartbeats 8000000 in
theorem first_calls (A : Option Addr) (c : Nat) (l : List Int) (w : World) (hr : Kd.C (Kd.int .u8) w A l.length l) (hc : l.length ≤ c) (hp : 0 < l.length) :
    Calls Try.prog 27 #[.slice A l.length c] w (FirstIs w (firstL l)) := by
  have HM := Kd.C_max hr
  obtain ⟨ad, rfl, hx⟩ := Kd.at_int hr 0 (by omega) (by omega)
  rw [show ((0 : Int)).toNat = 0 from rfl, Addr.add_zero'] at hx
  by_cases h1 : rd l 0 < 128
  · have e : firstL l = (1, true, false) := by simp [firstL, h1]
    have E := Lib.hid e
    clear e
    go_enter Try.func27, Try.ntmps27
    go_wp2
    go_ret3
    exact ⟨by rw [E.out]; rfl, Below.refl _ _⟩
  · have e : firstL l = firstGo l (tailL (rd l 0)) (tailL (rd l 0)) 0 := by simp [firstL, h1]
    have HL := tailL_length (rd l 0)
    generalize ht : tailL (rd l 0) = t at e HL
    have HT := Lib.hid ht
    have E := Lib.hid e
    clear e ht
    go_enter Try.func27, Try.ntmps27
    go_wp2_with fail
    refine (tail_calls _ _).mono ?_
    rintro e w1 ⟨v, rfl, hv, hb⟩
    rw [HT.out] at hv
    rcases hv with ⟨rfl, rfl⟩ | ⟨hne, g, rfl, hg, hcell⟩
    · have e0 : firstGo l [] [] 0 = (1, false, false) := by simp [firstGo]
      have E0 := Lib.hid e0
      clear e0
      have hneq := Go.run_neq_slice_nil_any (P := Try.prog)
      go_wp2
      go_loopw [18] (fun i wr => i = .int .i64 0 ∧ wr = w1) (fun _ _ => 0)
      case atStart => exact ⟨rfl, rfl⟩
      case round =>
        obtain ⟨rfl, rfl⟩ := hrel
        go_wp2
        go_ret3
        exact ⟨by rw [E.out, E0.out]; rfl, hb⟩
    · go_wp2
      go_loopw [18] (fun i wr => ∃ n : Nat, i = .int .i64 n ∧ n ≤ t.length ∧ Hid (firstL l = firstGo l t (t.drop n) n) ∧ wr.heap[g]? = some (.cells (spanCells t).toArray 59 (0, 0)) ∧ Below w.heap.size w wr) (fun i _ => t.length - (intOf i).toNat)
      case atStart => exact ⟨0, rfl, Nat.zero_le _, E, hcell, hb⟩
      case round =>
        obtain ⟨n, rfl, hn, HE, hcl, hbr⟩ := hrel
        by_cases hlt : n < t.length
        · have hs : t[n]? = some t[n] := List.getElem?_eq_getElem hlt
          generalize t[n] = sp at hs
          obtain ⟨hc1, hc2⟩ := span_cells hcl n sp hs
          have hdr : t.drop n = sp :: t.drop (n + 1) := by
            rw [List.drop_eq_getElem_cons hlt]
            congr 1
            rw [List.getElem?_eq_getElem hlt] at hs
            exact Option.some.inj hs
          by_cases hle : (l.length : Int) ≤ n + 1
          · have e2 : firstL l = ((l.length : Int), false, true) := by rw [HE.out, hdr]; simp [firstGo, hle]
            have E2 := Lib.hid e2
            clear e2 hdr hs
            go_wp2
            go_ret3
            exact ⟨by rw [E2.out]; rfl, hbr.alloc hbr.size _⟩
          · obtain ⟨ad', ead, hx1⟩ := Kd.at_int (Kd.C_below hr hbr) ((n : Int) + 1) (by omega) (by omega)
            injection ead with ead
            subst ead
            have q1 : (n : Int) + 1 < (l.length : Int) := by omega
            have q0 : (0 : Int) ≤ (n : Int) + 1 := by omega
            have q2 : ((n : Int) + 1).toNat = n + 1 := by omega
            have qw : IntKind.i64.wrap ((n : Int) + 1) = (n : Int) + 1 := IntWalk.i64_in _ (by omega)
            rw [q2, show ad.add (n + 1) = ⟨ad.block, ad.off + (n + 1), none⟩ from by simp [Addr.add]] at hx1
            have hxa := cell_al (.cells #[.int .u8 sp.1, .int .u8 sp.2] 59) hx1
            by_cases hlo : rd l ((n : Int) + 1) < sp.1
            · have e2 : firstL l = ((n : Int) + 1, false, false) := by rw [HE.out, hdr]; simp [firstGo, hle, hlo]
              have E2 := Lib.hid e2
              have d1 : decide (rd l ((n : Int) + 1) < sp.1) = true := by simpa using hlo
              clear e2 hdr hs
              go_wp2
              go_quiet (fail)
              go_wp2
              go_ret3
              exact ⟨by rw [E2.out]; rfl, pw_below_drewN (hbr.alloc hbr.size _) _⟩
            · have d1 : decide (rd l ((n : Int) + 1) < sp.1) = false := by simpa using hlo
              by_cases hhi : sp.2 < rd l ((n : Int) + 1)
              · have e2 : firstL l = ((n : Int) + 1, false, false) := by rw [HE.out, hdr]; simp [firstGo, hle, hlo, hhi]
                have E2 := Lib.hid e2
                have d2 : decide (sp.2 < rd l ((n : Int) + 1)) = true := by simpa using hhi
                clear e2 hdr hs
                go_wp2
                go_quiet (fail)
                go_wp2
                go_ret3
                exact ⟨by rw [E2.out]; rfl, pw_below_drewN (hbr.alloc hbr.size _) _⟩
              · have e2 : firstL l = firstGo l t (t.drop (n + 1)) (n + 1) := by rw [HE.out, hdr]; simp [firstGo, hle, hlo, hhi]
                have E2 := Lib.hid e2
                have d2 : decide (sp.2 < rd l ((n : Int) + 1)) = false := by simpa using hhi
                clear e2 hdr hs
                go_wp2
                go_quiet (fail)
                go_wp2
                go_roundw
                case rel => exact ⟨n + 1, by go_num, by omega, E2, blk_drewN (blk_alloc hcl _) _, pw_below_drewN (hbr.alloc hbr.size _) _⟩
                case measure => simp [intOf]; omega
        · have e2 : firstL l = (1 + (t.length : Int), true, false) := by
            rw [HE.out, List.drop_of_length_le (by omega)]
            simp [firstGo, hne]
          have E2 := Lib.hid e2
          have hneq := Go.run_neq_slice_nil_any (P := Try.prog)
          obtain rfl : n = t.length := by omega
          clear e2
          go_wp2
          go_ret3
          exact ⟨by rw [E2.out]; rfl, hbr⟩
end Go.Proofs.Ytdpnnglfaofjeaa.U

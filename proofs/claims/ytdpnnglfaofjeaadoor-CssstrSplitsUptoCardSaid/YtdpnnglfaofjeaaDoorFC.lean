import Derived.Test.YtdpnnglfaofjeaaDoorFB
import Derived.Test.YtdpnnglfaofjeaaDoorFS
namespace Go.Proofs.YtdpnnglfaofjeaaDoor.U
open Go.RowKit Go.Proofs.YtdpnnglfaofjeaaDoorW.PrintWords Go.Proofs.YtdpnnglfaofjeaaDoorW.PrintLast Go.Proofs.YtdpnnglfaofjeaaDoorW.PrintMore
set_option linter.unusedVariables false
set_option linter.unusedSimpArgs false
set_option maxRecDepth 100000

def simpleB (b : Int) : Bool := decide (b = 32 ∨ b = 45 ∨ b = 95 ∨ b = 46 ∨ b = 44 ∨ b ≥ 128 ∨ 97 ≤ b ∧ b ≤ 122 ∨ 65 ≤ b ∧ b ≤ 90 ∨ 48 ≤ b ∧ b ≤ 57)
theorem simple_f (b : Int) : PCs0.cssstr_simple.f b = some (simpleB b) := by
  unfold PCs0.cssstr_simple.f simpleB
  repeat' split
  all_goals (congr 1; rw [Bool.eq_iff_iff]; simp; try omega)
def unitL (b : Int) : List Int := if b = 0 then [239, 191, 189] else if simpleB b = true then [b] else [92] ++ hexN b.toNat ++ [32]
theorem hexN_le : ∀ n : Nat, n < 65536 → (hexN n).length ≤ 4 := by
  intro n h
  rw [hexN]
  split
  · simp
  · rw [hexN]
    split
    · simp
    · rw [hexN]
      split
      · simp
      · rw [hexN_small _ (by omega)]
        simp
theorem unitL_le (b : Int) (h : 0 ≤ b ∧ b ≤ 255) : (unitL b).length ≤ 6 := by
  have := hexN_le b.toNat (by omega)
  unfold unitL
  split
  · simp
  · split <;> simp <;> omega
theorem RB.row {B g c : Nat} {W : World} {l : List Int} {C : Array Value} {fr : Nat × Nat} (hg : W.heap[g]? = some (.cells C 5 fr)) (hC : ∀ (i : Nat) (x : Int), l[i]? = some x → C[i]? = some (Value.int .u8 x)) (hB : B ≤ g) (hl : l.length ≤ 9223372036854775807) (hc : l.length ≤ c) : RB B W (.slice (some ⟨g, 0, none⟩) l.length c) l := by
  refine ⟨_, _, rfl, hc, fun W' hW => ?_⟩
  have hg' := (hW g hB (blk_lt' hg)).trans hg
  refine Kd.C_of_reads (d := 0) (h1 := fun _ => rfl) ⟨rfl, hl, fun hn => ⟨_, rfl, fun j hj => ?_⟩⟩
  rw [add_plain, cell_of_row W' g j _ _ _ hg', hC j (l[j]) (by simp [hj])]
  simp [List.getD_eq_getElem?_getD, hj]
theorem bytesRow_get (l : List Int) (hB : ∀ x ∈ l, 0 ≤ x ∧ x ≤ 255) (s : ByteArray) (hs : s.data.toList = l.map fun x => UInt8.ofNat x.toNat) (cap : Nat) (i : Nat) (x : Int) (h : l[i]? = some x) : (bytesRow s cap)[i]? = some (Value.int .u8 x) := by
  have hi : i < l.length := (List.getElem?_eq_some_iff.1 h).1
  have hx := hB x (List.mem_of_getElem? h)
  have hsz : s.data.size = l.length := by rw [← Array.length_toList, hs, List.length_map]
  have h1 : s.data[i]? = some (UInt8.ofNat x.toNat) := by rw [← Array.getElem?_toList, hs, List.getElem?_map, h]; rfl
  unfold bytesRow
  rw [Array.getElem?_append_left (by rw [Array.size_map]; omega), Array.getElem?_map, h1]
  simp
  omega
theorem dig_range (d : Nat) (h : d < 16) : 0 ≤ dig d ∧ dig d ≤ 255 := by unfold dig; split <;> omega
theorem hexN_range : ∀ n : Nat, ∀ x ∈ hexN n, 0 ≤ x ∧ x ≤ 255 := by
  intro n
  induction n using Nat.strongRecOn with
  | ind n ih =>
    intro x hx
    by_cases h : n < 16
    · rw [hexN_small n h] at hx
      simp at hx
      subst hx
      exact dig_range n h
    · rw [hexN_big n h] at hx
      rcases List.mem_append.1 hx with hx | hx
      · exact ih (n / 16) (by omega) x hx
      · simp at hx
        subst hx
        exact dig_range _ (by omega)
def UnitIs (w : World) (b : Int) (e : Ending) (w' : World) : Prop := ∃ v, e = .returned v ∧ RB w.heap.size w' v (unitL b) ∧ Below w.heap.size w w'
set_option maxHeartbeats 4000000 in
theorem unit_calls (b : Int) (hb : 0 ≤ b ∧ b ≤ 255) (w : World) (h : TabOK w) : Calls Tryd.prog 24 #[.int .u8 b] w (UnitIs w b) := by
  by_cases h0 : b = 0
  · subst h0
    have kc := Lib.run_convert_bytes_const (P := Tryd.prog) w 22 5 #[.int .u8 239, .int .u8 191, .int .u8 189] 3 3 Tryd.underlying22 Tryd.underlying5
    go_enter Tryd.func24, Tryd.ntmps24
    go_wp2
    go_ret
    have hn := heap_alloc_new w (.cells #[.int .u8 239, .int .u8 191, .int .u8 189] 5 (3, 4))
    exact ⟨_, rfl, RB.lit (l := [239, 191, 189]) (by exact hn) (Nat.le_refl _) (by decide) (Nat.le_refl _), (Below.refl _ _).alloc (Nat.le_refl _) _⟩
  · have hs := simple_f b
    cases hsb : simpleB b with
    | true =>
      rw [hsb] at hs
      go_enter Tryd.func24, Tryd.ntmps24
      go_wp2_with (go_at_call 59; refine (PCs0.cssstr_simple.calls b true _ hs).mono ?_; rintro e w1 ⟨rfl, hd⟩)
      go_ret
      have hb1 := hd.below
      have hn := heap_alloc_new w1 (.cells #[.int .u8 b] 5)
      exact ⟨_, rfl, by rw [show unitL b = [b] from by unfold unitL; rw [if_neg h0, if_pos hsb]]; exact RB.lit (l := [b]) (by exact hn) hb1.size (by simp) (Nat.le_refl _), hb1.alloc hb1.size _⟩
    | false =>
      rw [hsb] at hs
      obtain ⟨n, rfl⟩ := Int.eq_ofNat_of_zero_le hb.1
      go_enter Tryd.func24, Tryd.ntmps24
      go_wp2_with fail
      refine (PCs0.cssstr_simple.calls _ false _ hs).mono ?_
      rintro e w1 ⟨rfl, hd⟩
      have hb1 := hd.below
      go_wp2_with fail
      refine (format_calls n (by omega) _ (h.below hb1)).mono ?_
      rintro e w2 ⟨rfl, hb2⟩
      have hb12 := below_then hb1 hb1.size hb2
      have hsz : (strOfNums (hexN n)).size ≤ 4 := by rw [strOfNums_size]; exact hexN_le n (by omega)
      have kcv := fun s : ByteArray => run_bytes_of_string (P := Tryd.prog) w2 9 22 5 s Tryd.underlying9 Tryd.underlying22 Tryd.underlying5
      go_wp2_with fail
      go_ret
      have e1 : unitL (n : Int) = [92] ++ hexN n ++ [32] := by unfold unitL; rw [if_neg h0, if_neg (by simp [hsb])]; rfl
      have e2 : ([92] ++ hexN n ++ [32] : List Int).length = 1 + (strOfNums (hexN n)).size + 1 := by rw [strOfNums_size]; simp; omega
      have hsd : (({ data := #[92] } : ByteArray) ++ strOfNums (hexN n) ++ { data := #[32] }).data.toList = ([92] ++ hexN n ++ [32] : List Int).map fun x => UInt8.ofNat x.toNat := by
        simp [strOfNums]
      have hrg : ∀ x ∈ ([92] ++ hexN n ++ [32] : List Int), 0 ≤ x ∧ x ≤ 255 := by
        intro x hx
        simp only [List.mem_append, List.mem_singleton] at hx
        rcases hx with (rfl | hx) | rfl
        · omega
        · exact hexN_range n x hx
        · omega
      generalize ({ data := #[92] } : ByteArray) ++ strOfNums (hexN n) ++ { data := #[32] } = S at hsd
      have hcap : 1 + (strOfNums (hexN n)).size + 1 ≤ grownCap w2 (1 + (strOfNums (hexN n)).size + 1) 0 5 := grownCap_ge _ _ _ _
      generalize grownCap w2 (1 + (strOfNums (hexN n)).size + 1) 0 5 = cap at hcap
      have hn := heap_alloc_new w2 (.cells (bytesRow S cap) 5 ((bytesRow S cap).size, (bytesRow S cap).size + 1))
      refine ⟨_, rfl, ?_, (hb12.alloc hb12.size _).drew⟩
      rw [e1]
      have hR := RB.row (W := (w2.alloc (.cells (bytesRow S cap) 5 ((bytesRow S cap).size, (bytesRow S cap).size + 1))).drew) (l := [92] ++ hexN n ++ [32]) (c := cap) (B := w.heap.size) (g := w2.heap.size) hn (bytesRow_get _ hrg S hsd cap) hb12.size (by rw [e2]; omega) (by rw [e2]; exact hcap)
      rw [e2] at hR
      exact hR
def textL (l : List Int) : List Int := l.flatMap unitL
theorem textL_take (l : List Int) (i : Nat) (h : i < l.length) : textL (l.take (i + 1)) = textL (l.take i) ++ unitL (rd l (i : Int)) := by
  unfold textL
  rw [List.take_succ_eq_append_getElem h, List.flatMap_append]
  simp [rd, List.getD_eq_getElem?_getD, h]
def TextIs (w : World) (l : List Int) (e : Ending) (w' : World) : Prop := ∃ v, e = .returned v ∧ OB w w' v (textL l) ∧ Below w.heap.size w w'
set_option maxHeartbeats 4000000 in
theorem text_calls (l : List Int) (A : Option Addr) (c : Nat) (w : World) (hp : Kd.C (Kd.int .u8) w A l.length l) (hc : l.length ≤ c) (hB : ∀ x ∈ l, 0 ≤ x ∧ x ≤ 255) (hN : l.length ≤ 1099511627776) (h : TabOK w) :
    Calls Tryd.prog 27 #[.slice A l.length c] w (TextIs w l) := by
  go_enter Tryd.func27, Tryd.ntmps27
  go_wp2_with fail
  go_loopw [3, 8] (fun v3 v8 wr => ∃ (i : Nat), v8 = .int .i64 (i : Int) ∧ i ≤ l.length ∧ OB w wr v3 (textL (l.take i)) ∧ (textL (l.take i)).length ≤ 6 * i ∧ Below w.heap.size w wr) (fun _ v8 _ => match v8 with | .int _ i => l.length - i.toNat | _ => 0)
  case atStart => exact ⟨0, rfl, Nat.zero_le _, Kd.R_nil _ _ _ _ _, by simp [textL], Below.refl _ _⟩
  case round =>
    obtain ⟨i, rfl, hi, ho, hlen, hb⟩ := hrel
    by_cases hlt : i < l.length
    · obtain ⟨ad, rfl, hcell⟩ := Kd.at_int (Kd.C_below hp hb) (i : Int) (by omega) (by omega)
      rw [Int.toNat_natCast] at hcell
      have hx : 0 ≤ rd l (i : Int) ∧ rd l (i : Int) ≤ 255 := by
        have : rd l (i : Int) = l[i] := by simp [rd, List.getD_eq_getElem?_getD, hlt]
        rw [this]
        exact hB _ (List.getElem_mem hlt)
      have hts := textL_take l i hlt
      have hul := unitL_le _ hx
      generalize rd l (i : Int) = b at hcell hx hts hul
      have HT := Lib.hid hts
      have hlen2 : (textL (l.take (i + 1))).length ≤ 6 * (i + 1) := by rw [hts, List.length_append]; omega
      clear hts
      go_wp2_with fail
      refine (unit_calls b hx wr (h.below hb)).mono ?_
      rintro e w1 ⟨v1, rfl, hr1, hb1⟩
      obtain ⟨A1, c1, rfl, hc1, hC1⟩ := hr1.reads
      have ho1 := Kd.R_below ho hb1
      have hb1' := below_then hb hb.size hb1
      generalize textL (l.take i) = tx at ho1 ho hlen HT
      go_wp2_with (at_builtin; refine appB (w0 := w) rfl _ _ rfl u3 _ _ _ _ _ rfl rfl ho1 hC1 hb1' (by omega) ?_; intro v2 w2 ho2 hb2 _ _)
      go_roundw
      case rel => exact ⟨i + 1, rfl, by omega, by rw [HT.out]; exact ho2, hlen2, hb2⟩
      case measure => simp; omega
    · have hie : i = l.length := by omega
      subst hie
      rw [List.take_length] at ho
      go_wp2
      go_ret
      exact ⟨_, rfl, ho, hb⟩
end Go.Proofs.YtdpnnglfaofjeaaDoor.U

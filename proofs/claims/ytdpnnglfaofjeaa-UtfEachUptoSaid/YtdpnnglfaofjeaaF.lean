import Derived.Test.YtdpnnglfaofjeaaE
import Derived.Lib.SlBytesConst
namespace Go.Proofs.Ytdpnnglfaofjeaa.U
open Go.RowKit Go.Proofs.YtdpnnglfaofjeaaW.PrintWords Go.Proofs.YtdpnnglfaofjeaaW.PrintLast Go.Proofs.YtdpnnglfaofjeaaW.PrintMore
set_option linter.unusedVariables false
set_option linter.unusedSimpArgs false

/-- A row of bytes of the call's own. -/
abbrev OB (w w' : World) (v : Value) (l : List Int) : Prop := Kd.R (Kd.int .u8) 5 w' w.heap.size (fun _ => True) v l

theorem blk_lt' {w : World} {g : Nat} {o : Obj} (h : w.heap[g]? = some o) : g < w.heap.size := (Array.getElem?_eq_some_iff.1 h).1
/-- Bytes that can be read: they lie in blocks from B on. -/
def RB (B : Nat) (W : World) (v : Value) (l : List Int) : Prop := ∃ A c, v = .slice A l.length c ∧ l.length ≤ c ∧ Kd.F (Kd.int .u8) W (fun k => B ≤ k) A l.length l
theorem RB.nil (B : Nat) (W : World) : RB B W (.slice none 0 0) [] := ⟨none, 0, rfl, Nat.le_refl _, Kd.F_nil _ _ _⟩
theorem RB.of_OB {w w' : World} {v : Value} {l : List Int} (h : OB w w' v l) : RB w.heap.size w' v l := by
  obtain ⟨A, c, rfl, hc, _⟩ := Kd.R_reads h
  exact ⟨A, c, rfl, hc, Kd.F_mono (Kd.R_F (Kd.R_bound h)) (fun k hk => hk.2.1)⟩
theorem RB.step {B : Nat} {W W1 : World} {v : Value} {l : List Int} (h : RB B W v l) (hm : ∀ k, B ≤ k → k < W.heap.size → W1.heap[k]? = W.heap[k]?) : RB B W1 v l := by
  obtain ⟨A, c, hv, hc, hF⟩ := h
  exact ⟨A, c, hv, hc, Kd.F_step hF hm⟩
theorem RB.below {B : Nat} {W W1 : World} {v : Value} {l : List Int} (h : RB B W v l) (hb : Below W.heap.size W W1) : RB B W1 v l := h.step (fun k _ hk => hb.block k hk)
theorem RB.lower {B B' : Nat} {W : World} {v : Value} {l : List Int} (h : RB B W v l) (hB : B' ≤ B) : RB B' W v l := by
  obtain ⟨A, c, hv, hc, hF⟩ := h
  exact ⟨A, c, hv, hc, Kd.F_mono hF (fun k hk => Nat.le_trans hB hk)⟩
theorem RB.reads {B : Nat} {W : World} {v : Value} {l : List Int} (h : RB B W v l) : ∃ A c, v = .slice A l.length c ∧ l.length ≤ c ∧ Kd.C (Kd.int .u8) W A l.length l := by
  obtain ⟨A, c, hv, hc, hF⟩ := h
  exact ⟨A, c, hv, hc, Kd.F_now hF⟩
/-- A literal's block. -/
theorem RB.lit {B g c : Nat} {W : World} {l : List Int} {fr : Nat × Nat} (hg : W.heap[g]? = some (.cells (nums .u8 l).toArray 5 fr)) (hB : B ≤ g) (hl : l.length ≤ 9223372036854775807) (hc : l.length ≤ c) : RB B W (.slice (some ⟨g, 0, none⟩) l.length c) l := by
  refine ⟨_, _, rfl, hc, fun W' hW => ?_⟩
  have hg' := (hW g hB (blk_lt' hg)).trans hg
  refine Kd.C_of_reads (d := 0) (h1 := fun _ => rfl) ⟨rfl, hl, fun hn => ⟨_, rfl, fun j hj => ?_⟩⟩
  rw [add_plain, cell_of_row W' g j _ _ _ hg']
  simp [nums, List.getD_eq_getElem?_getD, hj]
theorem size_set (w : World) (p : Addr) (v : Value) : (w.setCell p v).heap.size = w.heap.size := by simp [World.setCell]
/-- A constant text made bytes, behind a store. -/
theorem conv_const (w : World) (p : Addr) (v : Value) (C : Array Value) (n c : Nat) :
    (convert 22 22 (.slice (some ⟨w.heap.size, 0, none⟩) n c)).run Try.prog ((w.setCell p v).alloc (.cells C 5)) = .ok (.slice (some ⟨w.heap.size, 0, none⟩) n c) ((w.setCell p v).alloc (.cells C 5 (C.size, C.size + 1))) := by
  have h := Lib.run_convert_bytes_const (P := Try.prog) (w.setCell p v) 22 5 C n c Try.underlying22 Try.underlying5
  rwa [size_set] at h
theorem only_alloc {a w : World} {row : Option Nat} (h : a.grownBy w row) (o : Obj) : a.grownBy (w.alloc o) row :=
  ⟨h.os, h.tape, h.output, Nat.le_trans h.size (by simp), fun i hi hne => (Below.heap_alloc w o i (Nat.lt_of_lt_of_le hi h.size)).trans (h.block i hi hne)⟩
theorem new_calls (w : World) :
    Calls Try.prog 15 #[] w fun e w' => e = .returned (.pointer (some ⟨w.heap.size, 0, none⟩)) ∧ DecIs w' (fun k => w.heap.size ≤ k) w.heap.size [] ∧ Below w.heap.size w w' := by
  go_enter Try.func15, Try.ntmps15
  go_wp2
  go_ret
  exact ⟨rfl, ⟨Nat.le_refl _, .slice none 0 0, by simpa using heap_alloc_new w (.cells #[.slice none 0 0] 50), Kd.R_nil _ _ _ _ _⟩, (Below.refl _ _).alloc (Nat.le_refl _) _⟩

def CarryIs (w : World) (l : List Int) (e : Ending) (w' : World) : Prop := ∃ v, e = .returned v ∧ OB w w' v l ∧ Below w.heap.size w w'
theorem carry_calls (F : Nat → Prop) (g : Nat) (l : List Int) (w : World) (hd : DecIs w F g l) (hN : l.length ≤ 1099511627776) :
    Calls Try.prog 19 #[.pointer (some ⟨g, 0, none⟩)] w (CarryIs w l) := by
  obtain ⟨hF, v0, hg, hr0⟩ := hd
  obtain ⟨A0, c0, rfl, hc0, hC0⟩ := Kd.R_reads hr0
  have hcell : w.cell? ⟨g, 0, none⟩ = some (.slice A0 l.length c0) := blk_cell hg 0
  go_enter Try.func19, Try.ntmps19
  go_wp2_with (at_builtin; refine appB (w0 := w) rfl _ (.tmp 8) rfl (.slice none 0 0) [] _ _ _ _ rfl rfl (Kd.R_nil _ _ _ _ _) hC0 (Below.refl _ _) (by simp; omega) ?_; intro v1 w1 ho1 hb1 _ _)
  go_ret
  exact ⟨_, rfl, by simpa using ho1, hb1⟩
theorem carry_nil (w : World) : Calls Try.prog 19 #[.pointer none] w fun e w' => e = .returned (.slice none 0 0) ∧ w = w' := by
  go_enter Try.func19, Try.ntmps19
  go_wp2
  go_ret
  exact ⟨rfl, rfl⟩
theorem feed_nil (A : Option Addr) (n c : Nat) (w : World) : Calls Try.prog 18 #[.pointer none, .slice A n c] w fun e w' => e = .returned (.slice none 0 0) ∧ w = w' := by
  go_enter Try.func18, Try.ntmps18
  go_wp2
  go_ret
  exact ⟨rfl, rfl⟩
theorem finish_nil (w : World) : Calls Try.prog 21 #[.pointer none] w fun e w' => e = .returned (.slice none 0 0) ∧ w = w' := by
  go_enter Try.func21, Try.ntmps21
  go_wp2
  go_ret
  exact ⟨rfl, rfl⟩

def rest3 (l : List Int) : List Int := if 0 < l.length then fffd else []
def FinishIs (w : World) (F : Nat → Prop) (g : Nat) (l : List Int) (e : Ending) (w' : World) : Prop :=
  ∃ v, e = .returned v ∧ RB w.heap.size w' v (rest3 l) ∧ DecIs w' F g [] ∧ w.grownBy w' (some g)
theorem finish_calls (F : Nat → Prop) (g : Nat) (l : List Int) (w : World) (hd : DecIs w F g l) :
    Calls Try.prog 21 #[.pointer (some ⟨g, 0, none⟩)] w (FinishIs w F g l) := by
  have hd0 := hd
  obtain ⟨hF, v0, hg, hr0⟩ := hd
  obtain ⟨A0, c0, rfl, hc0, hC0⟩ := Kd.R_reads hr0
  have hcell : w.cell? ⟨g, 0, none⟩ = some (.slice A0 l.length c0) := blk_cell hg 0
  have hfr := blk_frozen hg 0
  by_cases h : 0 < l.length
  · have h1 : ((l.length : Int) == 0) = false := beq_eq_false_iff_ne.2 (by omega)
    have kc := conv_const w
    go_enter Try.func21, Try.ntmps21
    go_wp2
    go_ret
    have hlt := blk_lt hg
    have hs := blk_set hg 0 (.slice none 0 0)
    have hn := heap_alloc_new (w.setCell ⟨g, 0, none⟩ (.slice none 0 0)) (.cells #[.int .u8 239, .int .u8 191, .int .u8 189] 5 (3, 4))
    rw [size_set] at hn
    refine ⟨_, rfl, ?_, ⟨hF, _, by simpa using blk_alloc hs _, Kd.R_nil _ _ _ _ _⟩, only_alloc (only_setCell (World.grownBy.refl _ _) (.inl rfl) _) _⟩
    rw [show rest3 l = fffd from if_pos h]
    exact RB.lit (l := fffd) (by exact hn) (Nat.le_refl _) (by decide) (Nat.le_refl _)
  · have h0 : l = [] := List.eq_nil_of_length_eq_zero (by omega)
    subst h0
    go_enter Try.func21, Try.ntmps21
    go_wp2
    go_ret
    exact ⟨.slice none 0 0, rfl, RB.nil _ _, hd0, World.grownBy.refl _ _⟩

/-- The clean text. -/
def clean (l : List Int) : List Int := (run l).1 ++ rest3 (run l).2
def CleanIs (w : World) (l : List Int) (e : Ending) (w' : World) : Prop := ∃ v, e = .returned v ∧ OB w w' v (clean l) ∧ Below w.heap.size w w'
set_option maxHeartbeats 4000000 in
theorem clean_calls (l : List Int) (A : Option Addr) (c : Nat) (w : World) (hp : Kd.C (Kd.int .u8) w A l.length l) (hc : l.length ≤ c) (hN : l.length ≤ 1099511627776) :
    Calls Try.prog 13 #[.slice A l.length c] w (CleanIs w l) := by
  have hlen := run_len l
  go_enter Try.func13, Try.ntmps13
  go_wp2_with fail
  refine (new_calls _).mono ?_
  rintro e w1 ⟨rfl, hd1, hb1⟩
  have hlt := hd1.lt
  go_wp2_with fail
  refine (feed_calls _ _ [] l _ _ _ hd1 (Kd.C_below hp hb1) hc (by simp; omega)).mono ?_
  rintro e w2 ⟨v2, rfl, ho2, hd2, hg2⟩
  rw [List.nil_append] at ho2 hd2
  have hb2 : Below w.heap.size w w2 := pw_below_grown hb1 _ hb1.size hg2 (by rintro k ⟨⟩; exact Nat.le_refl _)
  have ho2' : Kd.R (Kd.int .u8) 5 w2 w.heap.size (fun k => True ∧ k ≠ w.heap.size) v2 (run l).1 := Kd.R_lower (Kd.R_mono (Kd.R_bound ho2) (fun k hk => ⟨trivial, by have := hk.2.1; omega⟩)) hb1.size
  go_wp2_with fail
  refine (finish_calls _ _ _ _ hd2).mono ?_
  rintro e w3 ⟨v3, rfl, hr3, hd3, hg3⟩
  have ho3 : OB w w3 v2 (run l).1 := Kd.R_mono (Kd.R_grown ho2' hg3 (by rintro k ⟨_, h⟩ he; injection he with he; exact h he)) (fun _ _ => trivial)
  have hb3 : Below w.heap.size w w3 := pw_below_grown hb2 _ hb2.size hg3 (by rintro k ⟨⟩; exact Nat.le_refl _)
  obtain ⟨A3, c3, rfl, hc3, hC3⟩ := hr3.reads
  have hl3 : (rest3 (run l).2).length ≤ 3 := by unfold rest3; split <;> simp [fffd]
  go_wp2_with (at_builtin; refine appB (w0 := w) rfl (.tmp 9) (.tmp 11) rfl v2 _ _ _ _ _ rfl rfl ho3 hC3 hb3 (by omega) ?_; intro v4 w4 ho4 hb4 _ _)
  go_ret
  exact ⟨_, rfl, ho4, hb4⟩
end Go.Proofs.Ytdpnnglfaofjeaa.U

import Derived.Test.YtdpnnglfaofjeaaDoorSH1
import Derived.Test.YtdpnnglfaofjeaaDoorVA
namespace Go.Proofs.YtdpnnglfaofjeaaDoor.Z
open Go.RowKit Go.Lib Go.Proofs.YtdpnnglfaofjeaaDoorW.PrintWords Go.Proofs.YtdpnnglfaofjeaaDoorW.PrintLast Go.Proofs.YtdpnnglfaofjeaaDoorW.PrintMore Go.Proofs.YtdpnnglfaofjeaaDoor.PSc
open Go.Proofs.YtdpnnglfaofjeaaDoor.V (RB only_setCell only_alloc size_set conv_const info5)
set_option linter.unusedVariables false
set_option linter.unusedSimpArgs false
set_option maxRecDepth 1000000

/-- A gate: its block g, what it holds, what it knows. F: the blocks that are its own; B: where its rows begin. -/
def GateIs (w : World) (F : Nat → Prop) (B g : Nat) (l : List Int) (is : Int) : Prop :=
  F g ∧ ∃ v, w.heap[g]? = some (.cells #[v, .int .i64 is] 82 (0, 0)) ∧ Kd.R (Kd.int .u8) 5 w B (fun k => F k ∧ k ≠ g) v l
def blockedL : List Int := [35, 98, 108, 111, 99, 107, 101, 100]
theorem SchOK.grown {w w1 : World} (h : SchOK w) {g : Nat} (hg : w.grownBy w1 (some g)) (h6 : 6 ≤ g) : SchOK w1 := by
  have hc : ∀ (b o : Nat) (v : Value), b < 6 → w.cell? ⟨b, o, none⟩ = some v → w1.cell? ⟨b, o, none⟩ = some v := fun b o v hb h => by
    have hl := World.block_lt_of_cell? w _ h
    have hbl := hg.block b hl (by intro e; injection e with e; omega)
    unfold World.cell? at *
    simp only at *
    rw [hbl]
    exact h
  obtain ⟨⟨h1, h2⟩, m, h3⟩ := h
  exact ⟨⟨fun p hp => hc _ _ _ (by omega) (h1 p hp), fun i hi => ⟨hc _ _ _ (by omega) (h2 i hi).1, hc _ _ _ (by omega) (h2 i hi).2⟩⟩, m, hc _ _ _ (by omega) h3⟩
def SettleIs (w : World) (F : Nat → Prop) (B g : Nat) (l : List Int) (all : Bool) (e : Ending) (w' : World) : Prop :=
  ∃ u, e = .returned u ∧ w.grownBy w' (some g) ∧
    ((lookV l all = 0 ∧ u = .slice none 0 0 ∧ GateIs w' F B g l 0)
    ∨ (lookV l all = 1 ∧ Kd.R (Kd.int .u8) 5 w' B (fun k => F k ∧ k ≠ g) u l ∧ GateIs w' (fun k => k = g) B g [] 1)
    ∨ (lookV l all = 2 ∧ (∃ b, w.heap.size ≤ b ∧ u = .slice (some ⟨b, 0, none⟩) 8 8 ∧ w'.heap[b]? = some (.cells (nums .u8 blockedL).toArray 5 (8, 9))) ∧ GateIs w' (fun k => k = g) B g [] 2))
theorem lookV_cases (l : List Int) (all : Bool) : lookV l all = 0 ∨ lookV l all = 1 ∨ lookV l all = 2 := by
  unfold lookV
  repeat' split
  all_goals simp
set_option maxHeartbeats 16000000 in
theorem settle_calls (F : Nat → Prop) (B g : Nat) (l : List Int) (is : Int) (all : Bool) (w : World) (hd : GateIs w F B g l is) (hB : ∀ j : Nat, 0 ≤ l.getD j 0 ∧ l.getD j 0 ≤ 255) (hN : l.length ≤ 1099511627776) (hS : SchOK w) :
    Calls Tryd.prog 71 #[.pointer (some ⟨g, 0, none⟩), .bool all] w (SettleIs w F B g l all) := by
  obtain ⟨hF, v0, hg, hr0⟩ := hd
  have hr1 := hr0
  obtain ⟨A0, c0, rfl, hc0, hC0⟩ := Kd.R_reads hr0
  have hcell : w.cell? ⟨g, 0, none⟩ = some (.slice A0 l.length c0) := blk_cell hg 0
  have hcell1 : w.cell? ⟨g, 1, none⟩ = some (.int .i64 is) := blk_cell hg 1
  have hgB : ∀ W : World, Below w.heap.size w W → W.heap[g]? = some (.cells #[.slice A0 l.length c0, .int .i64 is] 82 (0, 0)) := fun W hb => blk_below hg hb
  have cL := look_calls l A0 c0 all w hC0 hB hN hc0 hS
  have hV := lookV_cases l all
  have HGB := Lib.hid hgB
  have HR := Lib.hid hr1
  have HFG := Lib.hid hF
  unfold SettleIs
  generalize lookV l all = V at *
  clear hr0 hr1 hC0 hS hB hgB hF
  rcases hV with rfl | rfl | rfl
  · go_enter Tryd.func71, Tryd.ntmps71
    go_wp2_with (go_at_call 86; go_fit cL; rintro e w1 ⟨rfl, hb⟩; have hg1 := HGB.out w1 hb; have hk0 : w1.cell? ⟨g, 0, none⟩ = some (.slice A0 l.length c0) := blk_cell hg1 0; have hk1 : w1.cell? ⟨g, 1, none⟩ = some (.int .i64 is) := blk_cell hg1 1; have hf0 := blk_frozen hg1 0; have hf1 := blk_frozen hg1 1)
    go_ret
    have hs := blk_set hg1 1 (.int .i64 0)
    refine ⟨_, rfl, only_setCell (grown_of_below hb _) (.inl rfl) _, .inl ⟨trivial, rfl, HFG.out, _, by simpa using hs, ?_⟩⟩
    exact Kd.R_step (Kd.R_below HR.out hb) (fun k hk _ => Below.heap_setCell w1 _ _ k hk.2)
  · go_enter Tryd.func71, Tryd.ntmps71
    go_wp2_with (go_at_call 86; go_fit cL; rintro e w1 ⟨rfl, hb⟩; have hg1 := HGB.out w1 hb; have hk0 : w1.cell? ⟨g, 0, none⟩ = some (.slice A0 l.length c0) := blk_cell hg1 0; have hk1 : w1.cell? ⟨g, 1, none⟩ = some (.int .i64 is) := blk_cell hg1 1; have hf0 := blk_frozen hg1 0; have hf1 := blk_frozen hg1 1)
    go_ret
    have hs := blk_set hg1 1 (.int .i64 1)
    have hs2 := blk_set hs 0 (.slice none 0 0)
    refine ⟨_, rfl, only_setCell (p := ⟨g, 0, none⟩) (only_setCell (p := ⟨g, 1, none⟩) (grown_of_below hb (some g)) (.inl rfl) _) (.inl rfl) _, .inr (.inl ⟨by trivial, ?_, rfl, _, by simpa using hs2, Kd.R_nil _ _ _ _ _⟩)⟩
    exact Kd.R_step (Kd.R_step (Kd.R_below HR.out hb) (fun k hk _ => Below.heap_setCell w1 _ _ k hk.2)) (fun k hk _ => Below.heap_setCell _ _ _ k hk.2)
  · go_enter Tryd.func71, Tryd.ntmps71
    go_wp2_with (go_at_call 86; go_fit cL; rintro e w1 ⟨rfl, hb⟩; have hg1 := HGB.out w1 hb; have hk0 : w1.cell? ⟨g, 0, none⟩ = some (.slice A0 l.length c0) := blk_cell hg1 0; have hk1 : w1.cell? ⟨g, 1, none⟩ = some (.int .i64 is) := blk_cell hg1 1; have hf0 := blk_frozen hg1 0; have hf1 := blk_frozen hg1 1; have kc := conv_const w1 ⟨g, 1, none⟩ (.int .i64 2); have hg2 := blk_alloc (blk_set hg1 1 (.int .i64 2)) (.cells #[.int .u8 35, .int .u8 98, .int .u8 108, .int .u8 111, .int .u8 99, .int .u8 107, .int .u8 101, .int .u8 100] 5 (8, 9)); have hk2 := blk_cell hg2 0; have hf2 := blk_frozen hg2 0)
    go_ret
    have hs2 := blk_set hg2 0 (.slice none 0 0)
    have hn := heap_alloc_new (w1.setCell ⟨g, 1, none⟩ (.int .i64 2)) (.cells #[.int .u8 35, .int .u8 98, .int .u8 108, .int .u8 111, .int .u8 99, .int .u8 107, .int .u8 101, .int .u8 100] 5 (8, 9))
    rw [size_set] at hn
    have hgw : g ≠ w1.heap.size := by have := blk_lt hg1; omega
    refine ⟨_, rfl, only_setCell (p := ⟨g, 0, none⟩) (only_alloc (only_setCell (p := ⟨g, 1, none⟩) (grown_of_below hb (some g)) (.inl rfl) _) _) (.inl rfl) _, .inr (.inr ⟨by trivial, ⟨w1.heap.size, hb.size, rfl, ?_⟩, rfl, _, by simpa using hs2, Kd.R_nil _ _ _ _ _⟩)⟩
    exact (Below.heap_setCell _ _ _ w1.heap.size (fun e => hgw e.symm)).trans hn
end Go.Proofs.YtdpnnglfaofjeaaDoor.Z

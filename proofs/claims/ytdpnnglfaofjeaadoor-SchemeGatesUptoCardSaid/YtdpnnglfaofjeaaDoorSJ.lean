import Derived.Test.YtdpnnglfaofjeaaDoorSI
namespace Go.Proofs.YtdpnnglfaofjeaaDoor.Z
open Go.RowKit Go.Lib Go.Proofs.YtdpnnglfaofjeaaDoorW.PrintWords Go.Proofs.YtdpnnglfaofjeaaDoorW.PrintLast Go.Proofs.YtdpnnglfaofjeaaDoorW.PrintMore Go.Proofs.YtdpnnglfaofjeaaDoor.PSc
open Go.Proofs.YtdpnnglfaofjeaaDoor.V (RB only_setCell only_alloc size_set conv_const info5 R_empty)
set_option linter.unusedVariables false
set_option linter.unusedSimpArgs false
set_option maxRecDepth 1000000

/-- Nothing is changed but blocks of F. -/
structure Only (F : Nat → Prop) (w w' : World) : Prop where
  os : w'.os = w.os
  tape : w'.tape = w.tape
  output : w'.output = w.output
  size : w.heap.size ≤ w'.heap.size
  block : ∀ k, k < w.heap.size → ¬ F k → w'.heap[k]? = w.heap[k]?
theorem Only.refl (F : Nat → Prop) (w : World) : Only F w w := ⟨rfl, rfl, rfl, Nat.le_refl _, fun _ _ _ => rfl⟩
theorem Only.of_grown {F : Nat → Prop} {w w' : World} {row : Option Nat} (h : w.grownBy w' row) (hF : ∀ k, row = some k → F k) : Only F w w' :=
  ⟨h.os, h.tape, h.output, h.size, fun k hk hn => h.block k hk (fun e => hn (hF k e.symm))⟩
theorem Only.of_below {F : Nat → Prop} {w w' : World} (h : Below w.heap.size w w') : Only F w w' := .of_grown (grown_of_below h none) (fun k hk => by cases hk)
theorem Only.trans {F F1 : Nat → Prop} {a b c : World} (h : Only F a b) (k : Only F1 b c) (hF : ∀ i, F1 i → F i ∨ a.heap.size ≤ i) : Only F a c :=
  ⟨k.os.trans h.os, k.tape.trans h.tape, k.output.trans h.output, Nat.le_trans h.size k.size, fun i hi hn => (k.block i (Nat.lt_of_lt_of_le hi h.size) (fun e => by
    rcases hF i e with q | q
    · exact hn q
    · omega)).trans (h.block i hi hn)⟩
theorem SchOK.only {w w1 : World} (h : SchOK w) {F : Nat → Prop} (hg : Only F w w1) (h6 : ∀ k, F k → 6 ≤ k) : SchOK w1 := by
  have hc : ∀ (b o : Nat) (v : Value), b < 6 → w.cell? ⟨b, o, none⟩ = some v → w1.cell? ⟨b, o, none⟩ = some v := fun b o v hb h => by
    have hl := World.block_lt_of_cell? w _ h
    have hbl := hg.block b hl (fun e => by have := h6 b e; omega)
    unfold World.cell? at *
    simp only at *
    rw [hbl]
    exact h
  obtain ⟨⟨h1, h2⟩, m, h3⟩ := h
  exact ⟨⟨fun p hp => hc _ _ _ (by omega) (h1 p hp), fun i hi => ⟨hc _ _ _ (by omega) (h2 i hi).1, hc _ _ _ (by omega) (h2 i hi).2⟩⟩, m, hc _ _ _ (by omega) h3⟩
section
variable {ops : Array Oper} {rest : List Oper} {o : Oper} {a : Act} {Q : Exit → Act → World → Prop}
/-- append of bytes onto a row that is the gate's. -/
theorem appG {W : World} (hgd : o.guard = none) (s x : Operand) (ho : o.op = .call { callee := .builtin .append, args := #[s, x], argTypes := #[22, 22] })
    (v : Value) (xs ys : List Int) (A : Option Addr) (m c : Nat) (hs : a.eval s = v) (hx : a.eval x = .slice A m c) (B : Nat) (F : Nat → Prop) (hB : B ≤ W.heap.size) (hF : ∀ k, W.heap.size ≤ k → F k)
    (HO : Kd.R (Kd.int .u8) 5 W B F v xs) (HR : Kd.C (Kd.int .u8) W A m ys) (hl : xs.length + m ≤ 140737488355328)
    (h : ∀ v1 w1, Kd.R (Kd.int .u8) 5 w1 B F v1 (xs ++ ys) → W.grownBy w1 v.ownBlock → (v1.ownBlock = v.ownBlock ∨ ∃ b, v1.ownBlock = some b ∧ W.heap.size ≤ b) → wpList Tryd.prog ops Q rest (a.put o.dst v1) w1) :
    wpList Tryd.prog ops Q (o :: rest) a W :=
  Kd.R_append_rows (Kd.int .u8) (w0 := W) B hgd s x 22 5 (.int .u8 0) 1 ho Tryd.underlying22 info5 rfl (by decide) (by omega) v xs ys A m c F (fun _ => False) hs hx
    HO HR (fun _ _ h => h) (fun _ h => h.elim) hF (Below.refl _ _) hB (by omega) (fun v1 w1 h1 _ h3 h4 => h v1 w1 h1 h3 h4)
end
theorem GateIs.lt {w : World} {F : Nat → Prop} {B g : Nat} {l : List Int} {is : Int} (h : GateIs w F B g l is) : g < w.heap.size := by
  obtain ⟨hF, v, hg, hr⟩ := h
  exact blk_lt hg
theorem GateIs.mono {w : World} {F F' : Nat → Prop} {B g : Nat} {l : List Int} {is : Int} (h : GateIs w F B g l is) (hm : ∀ k, F k → F' k) : GateIs w F' B g l is := by
  obtain ⟨hF, v, hg, hr⟩ := h
  exact ⟨hm g hF, v, hg, Kd.R_mono hr (fun k hk => ⟨hm k hk.1, hk.2⟩)⟩
theorem GateIs.step {w w1 : World} {F : Nat → Prop} {B g : Nat} {l : List Int} {is : Int} (h : GateIs w F B g l is) (hm : ∀ k, F k → k < w.heap.size → w1.heap[k]? = w.heap[k]?) : GateIs w1 F B g l is := by
  obtain ⟨hF, v, hg, hr⟩ := h
  exact ⟨hF, v, (hm g hF (blk_lt hg)).trans hg, Kd.R_step hr (fun k hk hl => hm k hk.1 hl)⟩
theorem GateIs.below {w w1 : World} {F : Nat → Prop} {B g : Nat} {l : List Int} {is : Int} (h : GateIs w F B g l is) (hb : Below w.heap.size w w1) : GateIs w1 F B g l is := h.step fun k _ hk => hb.block k hk
theorem gnew_calls (w : World) :
    Calls Tryd.prog 42 #[] w fun e w' => e = .returned (.pointer (some ⟨w.heap.size, 0, none⟩)) ∧ GateIs w' (fun k => k = w.heap.size) w.heap.size w.heap.size [] 0 ∧ Below w.heap.size w w' := by
  go_enter Tryd.func42, Tryd.ntmps42
  go_wp2
  go_ret
  exact ⟨rfl, ⟨rfl, .slice none 0 0, by simpa using heap_alloc_new w (.cells #[.slice none 0 0, .int .i64 0] 82), Kd.R_nil _ _ _ _ _⟩, (Below.refl _ _).alloc (Nat.le_refl _) _⟩
theorem gheld_calls (F : Nat → Prop) (B g : Nat) (l : List Int) (is : Int) (w : World) (hd : GateIs w F B g l is) :
    Calls Tryd.prog 45 #[.pointer (some ⟨g, 0, none⟩)] w fun e w' => e = .returned (.int .i64 (l.length : Int)) ∧ w' = w := by
  obtain ⟨hF, v0, hg, hr0⟩ := hd
  obtain ⟨A0, c0, rfl, hc0, hC0⟩ := Kd.R_reads hr0
  have hcell : w.cell? ⟨g, 0, none⟩ = some (.slice A0 l.length c0) := blk_cell hg 0
  go_enter Tryd.func45, Tryd.ntmps45
  go_wp2
  go_ret
  exact ⟨rfl, rfl⟩
theorem gheld_nil (w : World) : Calls Tryd.prog 45 #[.pointer none] w fun e w' => e = .returned (.int .i64 0) ∧ w' = w := by
  go_enter Tryd.func45, Tryd.ntmps45
  go_wp2
  go_ret
  exact ⟨rfl, rfl⟩
theorem gfeed_nil (A : Option Addr) (n c : Nat) (w : World) : Calls Tryd.prog 44 #[.pointer none, .slice A n c] w fun e w' => e = .returned (.slice none 0 0) ∧ w' = w := by
  go_enter Tryd.func44, Tryd.ntmps44
  go_wp2
  go_ret
  exact ⟨rfl, rfl⟩
theorem gfinish_nil (w : World) : Calls Tryd.prog 46 #[.pointer none] w fun e w' => e = .returned (.slice none 0 0) ∧ w' = w := by
  go_enter Tryd.func46, Tryd.ntmps46
  go_wp2
  go_ret
  exact ⟨rfl, rfl⟩
/-- Fed where the verdict stands: nothing is let through, or all. -/
theorem gfeed_stopped (F : Nat → Prop) (B g : Nat) (l : List Int) (A : Option Addr) (n c : Nat) (w : World) (hd : GateIs w F B g l 2) :
    Calls Tryd.prog 44 #[.pointer (some ⟨g, 0, none⟩), .slice A n c] w fun e w' => e = .returned (.slice none 0 0) ∧ w' = w := by
  obtain ⟨hF, v0, hg, hr0⟩ := hd
  have hcell1 : w.cell? ⟨g, 1, none⟩ = some (.int .i64 2) := blk_cell hg 1
  go_enter Tryd.func44, Tryd.ntmps44
  go_wp2
  go_ret
  exact ⟨rfl, rfl⟩
theorem gfeed_passes (F : Nat → Prop) (B g : Nat) (l p : List Int) (A : Option Addr) (c : Nat) (w : World) (hd : GateIs w F B g l 1) (hp : Kd.C (Kd.int .u8) w A p.length p) (hN : p.length ≤ 1099511627776) :
    Calls Tryd.prog 44 #[.pointer (some ⟨g, 0, none⟩), .slice A p.length c] w fun e w' => ∃ u, e = .returned u ∧ Kd.R (Kd.int .u8) 5 w' w.heap.size (fun _ => True) u p ∧ Below w.heap.size w w' := by
  obtain ⟨hF, v0, hg, hr0⟩ := hd
  have hcell1 : w.cell? ⟨g, 1, none⟩ = some (.int .i64 1) := blk_cell hg 1
  have HE := R_empty w w.heap.size (Nat.le_refl _)
  have HBE := (Below.refl w.heap.size w).alloc (Nat.le_refl _) (.cells #[] 5)
  go_enter Tryd.func44, Tryd.ntmps44
  go_wp2_with (at_builtin; refine V.appB (w0 := w) rfl _ (.tmp 21) rfl (.slice none 0 0) [] _ _ _ _ rfl rfl (Kd.R_nil _ _ _ _ _) hp (Below.refl _ _) (by simp; omega) ?_; intro v1 w1 ho1 hb1 _ _)
  go_ret
  exact ⟨_, rfl, by simpa using ho1, hb1⟩
set_option maxHeartbeats 4000000 in
theorem gfeed_unsure (F : Nat → Prop) (B g : Nat) (l p : List Int) (A : Option Addr) (c : Nat) (w : World) (hd : GateIs w F B g l 0) (hp : Kd.C (Kd.int .u8) w A p.length p) (hN : l.length + p.length ≤ 1099511627776)
    (hBy : ∀ j : Nat, 0 ≤ (l ++ p).getD j 0 ∧ (l ++ p).getD j 0 ≤ 255) (hS : SchOK w) (h6 : 6 ≤ B) (hF6 : ∀ k, F k → B ≤ k) (hBw : B ≤ w.heap.size) :
    Calls Tryd.prog 44 #[.pointer (some ⟨g, 0, none⟩), .slice A p.length c] w fun e w' => ∃ w1, Only F w w1 ∧ SettleIs w1 (fun k => F k ∨ w.heap.size ≤ k) B g (l ++ p) false e w' := by
  obtain ⟨hF, v0, hg, hr0⟩ := hd
  have hcell1 : w.cell? ⟨g, 1, none⟩ = some (.int .i64 0) := blk_cell hg 1
  have hcell0 : w.cell? ⟨g, 0, none⟩ = some v0 := blk_cell hg 0
  have hr1 := Kd.R_mono (ok' := fun k => (F k ∨ w.heap.size ≤ k) ∧ k ≠ g) hr0 (fun k hk => ⟨.inl hk.1, hk.2⟩)
  have hgl := blk_lt hg
  have hown := hr0.1
  have hset := fun (w2 : World) (hd2 : GateIs w2 (fun k => F k ∨ w.heap.size ≤ k) B g (l ++ p) 0) (hS2 : SchOK w2) => settle_calls (fun k => F k ∨ w.heap.size ≤ k) B g (l ++ p) 0 false w2 hd2 hBy (by rw [List.length_append]; omega) hS2
  go_enter Tryd.func44, Tryd.ntmps44
  go_wp2_with (at_builtin; refine appG rfl _ (.tmp 28) rfl v0 l p A p.length c rfl rfl B (fun k => (F k ∨ w.heap.size ≤ k) ∧ k ≠ g) hBw (fun k hk => ⟨.inr hk, by omega⟩) hr1 hp (by omega) ?_; intro v1 w1 ho1 hgr1 hat1; obtain ⟨A4, c4, e4⟩ := Kd.R_slice ho1; subst e4; have hg1 := (hgr1.block g hgl (fun e => (hown g e.symm).2 rfl)).trans hg; have hk0 : w1.cell? ⟨g, 0, none⟩ = some v0 := blk_cell hg1 0; have hf0 := blk_frozen hg1 0)
  rw [List.length_append] at ho1
  have hg2 := blk_set hg1 0 (.slice A4 (l.length + p.length) c4)
  have hO : Only F w (w1.setCell ⟨g, 0, none⟩ (.slice A4 (l.length + p.length) c4)) := (Only.of_grown hgr1 (fun k hk => (hown k hk).1)).trans (F1 := fun k => k = g)
    (Only.of_grown (only_setCell (p := ⟨g, 0, none⟩) (World.grownBy.refl w1 (some g)) (.inl rfl) _) (fun k hk => (Option.some.inj hk).symm)) (fun k hk => .inl (hk ▸ hF))
  refine (hset _ ⟨.inl hF, _, by simpa using hg2, Kd.R_step ho1 (fun k hk _ => Below.heap_setCell w1 _ _ k hk.2)⟩ (hS.only hO (fun k hk => Nat.le_trans h6 (hF6 k hk)))).mono ?_
  rintro e w3 ⟨u, rfl, hgr, hc⟩
  go_wp2
  go_ret
  exact ⟨_, hO, u, rfl, hgr, hc⟩
set_option maxHeartbeats 4000000 in
/-- Finish, where the verdict had fallen. -/
theorem gfinish_sure (F : Nat → Prop) (B g : Nat) (l : List Int) (is : Int) (hi : is ≠ 0) (w : World) (hd : GateIs w F B g l is) :
    Calls Tryd.prog 46 #[.pointer (some ⟨g, 0, none⟩)] w fun e w' => e = .returned (.slice none 0 0) ∧ GateIs w' (fun k => k = g) B g [] 0 ∧ w.grownBy w' (some g) := by
  obtain ⟨hF, v0, hg, hr0⟩ := hd
  have hcell1 : w.cell? ⟨g, 1, none⟩ = some (.int .i64 is) := blk_cell hg 1
  have hcell0 : w.cell? ⟨g, 0, none⟩ = some v0 := blk_cell hg 0
  have hf0 := blk_frozen hg 0
  have hf1 := blk_frozen hg 1
  have hi' : (is == 0) = false := beq_eq_false_iff_ne.2 hi
  go_enter Tryd.func46, Tryd.ntmps46
  go_wp2
  go_ret
  have hs := blk_set (blk_set hg 0 (.slice none 0 0)) 1 (.int .i64 0)
  exact ⟨rfl, ⟨rfl, _, by simpa using hs, Kd.R_nil _ _ _ _ _⟩, only_setCell (p := ⟨g, 1, none⟩) (only_setCell (p := ⟨g, 0, none⟩) (World.grownBy.refl w (some g)) (.inl rfl) _) (.inl rfl) _⟩
theorem lookV_all (l : List Int) : lookV l true ≠ 0 := by
  unfold lookV
  repeat' split
  all_goals simp_all
/-- Finish, where it waits for more. -/
def FinIs (w : World) (F : Nat → Prop) (B g : Nat) (l : List Int) (e : Ending) (w' : World) : Prop :=
  ∃ u, e = .returned u ∧ w.grownBy w' (some g) ∧ GateIs w' (fun k => k = g) B g [] 0 ∧
    ((lookV l true = 1 ∧ Kd.R (Kd.int .u8) 5 w' B (fun k => F k ∧ k ≠ g) u l)
    ∨ (lookV l true = 2 ∧ ∃ b, w.heap.size ≤ b ∧ u = .slice (some ⟨b, 0, none⟩) 8 8 ∧ w'.heap[b]? = some (.cells (nums .u8 blockedL).toArray 5 (8, 9))))
set_option maxHeartbeats 8000000 in
theorem gfinish_unsure (F : Nat → Prop) (B g : Nat) (l : List Int) (w : World) (hd : GateIs w F B g l 0) (hB : ∀ j : Nat, 0 ≤ l.getD j 0 ∧ l.getD j 0 ≤ 255) (hN : l.length ≤ 1099511627776) (hS : SchOK w) :
    Calls Tryd.prog 46 #[.pointer (some ⟨g, 0, none⟩)] w (FinIs w F B g l) := by
  have hset := settle_calls F B g l 0 true w hd hB hN hS
  obtain ⟨hF, v0, hg, hr0⟩ := hd
  have hcell1 : w.cell? ⟨g, 1, none⟩ = some (.int .i64 0) := blk_cell hg 1
  have hgl := blk_lt hg
  have H0 := Lib.hid (lookV_all l)
  go_enter Tryd.func46, Tryd.ntmps46
  go_wp2_with (go_at_call 71; refine hset.mono ?_; rintro e w1 ⟨u, rfl, hgr, hc⟩
               have hcells : ∃ v1 is1, w1.heap[g]? = some (.cells #[v1, .int .i64 is1] 82 (0, 0)) := by
                 rcases hc with ⟨_, _, _, v1, h, _⟩ | ⟨_, _, _, v1, h, _⟩ | ⟨_, _, _, v1, h, _⟩ <;> exact ⟨v1, _, h⟩
               have HC := Lib.hid hc
               obtain ⟨v1, is1, hg1⟩ := hcells
               have hk0 : w1.cell? ⟨g, 0, none⟩ = some v1 := blk_cell hg1 0
               have hk1 : w1.cell? ⟨g, 1, none⟩ = some (.int .i64 is1) := blk_cell hg1 1
               have hf0 := blk_frozen hg1 0
               have hf1 := blk_frozen hg1 1
               clear hc)
  go_ret
  have hs := blk_set (blk_set hg1 0 (.slice none 0 0)) 1 (.int .i64 0)
  have hfar : ∀ k, k ≠ g → ((w1.setCell ⟨g, 0, none⟩ (.slice none 0 0)).setCell ⟨g, 1, none⟩ (.int .i64 0)).heap[k]? = w1.heap[k]? := fun k hk => (Below.heap_setCell _ _ _ k hk).trans (Below.heap_setCell _ _ _ k hk)
  refine ⟨_, rfl, only_setCell (p := ⟨g, 1, none⟩) (only_setCell (p := ⟨g, 0, none⟩) hgr (.inl rfl) _) (.inl rfl) _, ⟨rfl, _, by simpa using hs, Kd.R_nil _ _ _ _ _⟩, ?_⟩
  rcases HC.out with ⟨h, _⟩ | ⟨h, hr, _⟩ | ⟨h, ⟨b, hb, hu, hbb⟩, _⟩
  · exact absurd h H0.out
  · exact .inl ⟨h, Kd.R_step hr (fun k hk _ => hfar k hk.2)⟩
  · exact .inr ⟨h, b, hb, hu, (hfar b (by omega)).trans hbb⟩
end Go.Proofs.YtdpnnglfaofjeaaDoor.Z

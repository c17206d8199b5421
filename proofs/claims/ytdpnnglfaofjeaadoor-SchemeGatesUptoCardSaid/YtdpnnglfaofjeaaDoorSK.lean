import Derived.Test.YtdpnnglfaofjeaaDoorSJ
namespace Go.Proofs.YtdpnnglfaofjeaaDoor.Z
open Go.RowKit Go.Lib Go.Proofs.YtdpnnglfaofjeaaDoorW.PrintWords Go.Proofs.YtdpnnglfaofjeaaDoorW.PrintLast Go.Proofs.YtdpnnglfaofjeaaDoorW.PrintMore Go.Proofs.YtdpnnglfaofjeaaDoor.PSc
open Go.Proofs.YtdpnnglfaofjeaaDoor.V (RB RB.of_OB RB.lit only_setCell only_alloc size_set conv_const info5 R_empty)
set_option linter.unusedVariables false
set_option linter.unusedSimpArgs false
set_option maxRecDepth 1000000

theorem run_app_none (w : World) (ty : TypeId) (A : Option Addr) (n c : Nat) (h : n ≤ c) : (Builtin.append_ #[22, 22] ty #[.slice A n c, .slice none 0 0]).run Tryd.prog w = .ok (.slice A n c) w := by
  obtain ⟨i0, hi, hz0, hz1, hz2⟩ := info_parts info5
  have hnc : ¬ c < n := by omega
  cases A <;> simp [Builtin.append_, run_underlying Tryd.underlying22, sizeOf, typeInfo, hi, Builtin.lenOf, Builtin.firstCells, hnc, storeCells, h]
theorem appN {ops : Array Oper} {rest : List Oper} {o : Oper} {a : Act} {Q : Exit → Act → World → Prop} {W : World} (hgd : o.guard = none) (s x : Operand) (ho : o.op = .call { callee := .builtin .append, args := #[s, x], argTypes := #[22, 22] })
    (A : Option Addr) (n c : Nat) (hs : a.eval s = .slice A n c) (hx : a.eval x = .slice none 0 0) (hnc : n ≤ c) (h : wpList Tryd.prog ops Q rest (a.put o.dst (.slice A n c)) W) : wpList Tryd.prog ops Q (o :: rest) a W := by
  refine wpList_plain hgd fun K hK => ?_
  have hrun := run_app_none W o.type A n c hnc
  unfold Oper.wp
  simp [execOp, ho, resolve, invoke, builtin, hs, hx, hrun, Result.andThen]
  exact hK _ _ h
/-- What is let through of a whole value. -/
def passL (p : List Int) : List Int := if stopped p = true then blockedL else p
theorem look_two (p : List Int) (all : Bool) : lookV p all = 2 ↔ stopped p = true := by
  unfold lookV stopped
  by_cases h0 : mark p < 0
  · have h1 : ¬ 16 < mark p := by omega
    have h2 : ¬ 0 ≤ mark p := by omega
    by_cases h3 : 16 < (p.length : Int)
    · simp [h0, h1, h3]
    · cases all <;> simp [h0, h1, h2, h3]
  · have h2 : 0 ≤ mark p := by omega
    by_cases h1 : 16 < mark p
    · simp [h0, h1]
    · by_cases h3 : p.getD (mark p).toNat 0 = 58
      · cases h4 : allowed (p.take (mark p).toNat) <;> simp [h0, h1, h2, h3, h4]
      · simp only [h0, h1, h2, h3, false_and, and_false, or_self, if_false, true_and]
        simp
theorem Only.below {F : Nat → Prop} {a b : World} {B : Nat} (h : Only F a b) (hF : ∀ k, F k → B ≤ k) (hB : B ≤ a.heap.size) : Below B a b :=
  ⟨h.os, h.tape, h.output, h.size, fun i hi => h.block i (Nat.lt_of_lt_of_le hi hB) (fun e => by have := hF i e; omega)⟩
theorem SchOK.six {w : World} (h : SchOK w) : 6 ≤ w.heap.size := by
  have := World.block_lt_of_cell? w _ (h.1.2 0 (by omega)).1
  exact this
def PassIs (w : World) (p : List Int) (e : Ending) (w' : World) : Prop := ∃ u, e = .returned u ∧ RB w.heap.size w' u (passL p) ∧ Below w.heap.size w w'
set_option maxHeartbeats 8000000 in
theorem pass_calls (p : List Int) (A : Option Addr) (c : Nat) (w : World) (hp : Kd.C (Kd.int .u8) w A p.length p) (hB : ∀ j : Nat, 0 ≤ p.getD j 0 ∧ p.getD j 0 ≤ 255) (hN : p.length ≤ 1099511627776) (hS : SchOK w) :
    Calls Tryd.prog 38 #[.slice A p.length c] w (PassIs w p) := by
  have h6 := hS.six
  have L2 := look_two p
  go_enter Tryd.func38, Tryd.ntmps38
  go_wp2_with fail
  refine (gnew_calls w).mono ?_
  rintro e w1 ⟨rfl, hd1, hb1⟩
  have hS1 := hS.below hb1
  have hp1 := Kd.C_below hp hb1
  have hF := gfeed_unsure (fun k => k = w.heap.size) w.heap.size w.heap.size [] p A c w1 hd1 hp1 (by simpa using hN) hB hS1 h6 (fun k hk => Nat.le_of_eq hk.symm) hb1.size
  go_wp2_with fail
  refine hF.mono ?_
  rintro e w3 ⟨w2, hO2, u, rfl, hgr, hc⟩
  have hO3 : Only (fun k => w.heap.size ≤ k) w w3 := ((Only.of_below hb1).trans (F := fun k => w.heap.size ≤ k) hO2 (fun k hk => .inl (Nat.le_of_eq hk.symm))).trans (F1 := fun k => k = w.heap.size) (Only.of_grown hgr (fun k hk => (Option.some.inj hk).symm)) (fun k hk => .inl (Nat.le_of_eq hk.symm))
  have hS3 : SchOK w3 := hS.only hO3 (fun k hk => Nat.le_trans h6 hk)
  have hgw := hd1.lt
  clear hF hp hp1 hS hS1 hd1
  rcases hc with ⟨hv, rfl, hd3⟩ | ⟨hv, hr, hd3⟩ | ⟨hv, ⟨b, hbb, rfl, hbc⟩, hd3⟩
  · have hst : stopped p = false := by
      cases h : stopped p
      · rfl
      · have := (L2 false).2 h
        rw [List.nil_append] at hv
        rw [hv] at this; cases this
    have hfin := gfinish_unsure _ _ _ _ w3 hd3 hB hN hS3
    go_wp2_with fail
    refine hfin.mono ?_
    rintro e w4 ⟨u, rfl, hgr4, hd4, hc4⟩
    have hO4 : Only (fun k => w.heap.size ≤ k) w w4 := hO3.trans (F1 := fun k => k = w.heap.size) (Only.of_grown hgr4 (fun k hk => (Option.some.inj hk).symm)) (fun k hk => .inl (Nat.le_of_eq hk.symm))
    have hB4 := hO4.below (fun k hk => hk) (Nat.le_refl _)
    rcases hc4 with ⟨hv4, hr4⟩ | ⟨hv4, _⟩
    · rw [List.nil_append] at hr4
      obtain ⟨A4, c4, rfl, hc4', hC4⟩ := Kd.R_reads hr4
      go_wp2_with (at_builtin; refine V.appB (w0 := w) rfl (.tmp 9) (.tmp 11) rfl (.slice none 0 0) [] p A4 p.length c4 rfl rfl (Kd.R_nil _ _ _ _ _) hC4 hB4 (by simp; omega) ?_; intro v1 w5 ho1 hb5 _ _)
      go_ret
      refine ⟨_, rfl, ?_, hb5⟩
      have e : passL p = [] ++ p := by unfold passL; rw [hst]; rfl
      rw [e]
      exact RB.of_OB ho1
    · exfalso
      rw [List.nil_append] at hv4
      have := (L2 true).1 hv4
      rw [hst] at this
      cases this
  · have hst : stopped p = false := by
      cases h : stopped p
      · rfl
      · have := (L2 false).2 h
        rw [List.nil_append] at hv
        rw [hv] at this; cases this
    have hfin := gfinish_sure _ _ _ _ 1 (by decide) w3 hd3
    go_wp2_with fail
    refine hfin.mono ?_
    rintro e w4 ⟨rfl, hd4, hgr4⟩
    have hO4 : Only (fun k => w.heap.size ≤ k) w w4 := hO3.trans (F1 := fun k => k = w.heap.size) (Only.of_grown hgr4 (fun k hk => (Option.some.inj hk).symm)) (fun k hk => .inl (Nat.le_of_eq hk.symm))
    have hB4 := hO4.below (fun k hk => hk) (Nat.le_refl _)
    have hr4 := Kd.R_mono (ok' := fun _ => True) (Kd.R_step hr (fun k hk hl => hgr4.block k hl (fun e => hk.2 (Option.some.inj e)))) (fun _ _ => trivial)
    rw [List.nil_append] at hr4
    have hrb := RB.of_OB hr4
    obtain ⟨A4, c4, rfl, hc4', hC4⟩ := Kd.R_reads hr4
    go_wp2_with (at_builtin; refine appN rfl (.tmp 9) (.tmp 11) rfl A4 p.length c4 rfl rfl hc4' ?_)
    go_ret
    refine ⟨_, rfl, ?_, hB4⟩
    have e : passL p = p := by unfold passL; rw [hst]; rfl
    rw [e]
    exact hrb
  · have hst : stopped p = true := (L2 false).1 hv
    have hfin := gfinish_sure _ _ _ _ 2 (by decide) w3 hd3
    have hgl := blk_lt hbc
    go_wp2_with fail
    refine hfin.mono ?_
    rintro e w4 ⟨rfl, hd4, hgr4⟩
    have hO4 : Only (fun k => w.heap.size ≤ k) w w4 := hO3.trans (F1 := fun k => k = w.heap.size) (Only.of_grown hgr4 (fun k hk => (Option.some.inj hk).symm)) (fun k hk => .inl (Nat.le_of_eq hk.symm))
    have hB4 := hO4.below (fun k hk => hk) (Nat.le_refl _)
    have hw2 : w.heap.size < w2.heap.size := Nat.lt_of_lt_of_le hgw hO2.size
    have hbc4 := (hgr4.block b hgl (fun e => by injection e with e; omega)).trans hbc
    go_wp2_with (at_builtin; refine appN rfl (.tmp 9) (.tmp 11) rfl _ 8 8 rfl rfl (Nat.le_refl _) ?_)
    go_ret
    refine ⟨_, rfl, ?_, hB4⟩
    have e : passL p = blockedL := by unfold passL; rw [hst]; rfl
    rw [e]
    exact RB.lit (l := blockedL) hbc4 (by omega) (by decide) (Nat.le_refl _)
end Go.Proofs.YtdpnnglfaofjeaaDoor.Z

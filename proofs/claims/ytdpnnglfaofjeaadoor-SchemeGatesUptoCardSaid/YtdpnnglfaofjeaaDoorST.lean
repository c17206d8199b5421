import Derived.Test.YtdpnnglfaofjeaaDoorSP
import Derived.Test.YtdpnnglfaofjeaaDoorSN
namespace Go.Proofs.YtdpnnglfaofjeaaDoor.Z
open Go.RowKit Go.Lib Go.Proofs.YtdpnnglfaofjeaaDoorW.PrintWords Go.Proofs.YtdpnnglfaofjeaaDoorW.PrintLast Go.Proofs.YtdpnnglfaofjeaaDoorW.PrintMore Go.Proofs.YtdpnnglfaofjeaaDoor.PSc
open Go.Proofs.YtdpnnglfaofjeaaDoor.V (RB RB.of_OB RB.lit only_setCell only_alloc size_set conv_const info5 R_empty)
set_option linter.unusedVariables false
set_option linter.unusedSimpArgs false
set_option maxRecDepth 1000000

/-! ### A gate, by what it was fed since it stood at its beginning -/
def sureG (s : List Int) : Bool := decide (0 ≤ mark s) || decide ((s.length : Int) > 16)
def isG (s : List Int) : Int := if sureG s = true then (if stopped s = true then 2 else 1) else 0
def heldG (s : List Int) : List Int := if sureG s = true then [] else s
def outG (s p : List Int) : List Int := if sureG (s ++ p) = true then (if sureG s = true then (if stopped s = true then [] else p) else passL (s ++ p)) else []
theorem sure_iff (s : List Int) : sureG s = true ↔ 0 ≤ mark s ∨ 16 < (s.length : Int) := by unfold sureG; rw [Bool.or_eq_true, decide_eq_true_iff, decide_eq_true_iff]
theorem unsure_iff (s : List Int) : sureG s = false ↔ mark s < 0 ∧ (s.length : Int) ≤ 16 := by
  rw [← Bool.not_eq_true, sure_iff]; omega
theorem mark_app (s t : List Int) (h : 0 ≤ mark s) : mark (s ++ t) = mark s := by
  rcases mark_is s with ⟨e, _⟩ | ⟨i, e, hi, hs, hn⟩
  · omega
  · rw [e]
    exact (mark_is (s ++ t)).unique (.inr ⟨i, rfl, by rw [List.length_append]; omega, by rw [getD_app_left _ _ _ hi]; exact hs, fun j hj => by rw [getD_app_left _ _ _ (by omega)]; exact hn j hj⟩)
theorem mark_app_none (s t : List Int) (h : mark s < 0) : mark (s ++ t) < 0 ∨ (s.length : Int) ≤ mark (s ++ t) := by
  rcases mark_is s with ⟨_, hn⟩ | ⟨i, e, _⟩
  · rcases mark_is (s ++ t) with ⟨e, _⟩ | ⟨i, e, hi, hs, _⟩
    · left; omega
    · right
      rw [e]
      by_cases hl : i < s.length
      · rw [getD_app_left _ _ _ hl] at hs; exact absurd hs (hn i hl)
      · omega
  · omega
theorem sure_app (s t : List Int) (h : sureG s = true) : sureG (s ++ t) = true := by
  rw [sure_iff] at *
  rw [List.length_append]
  rcases h with h | h
  · left; rw [mark_app s t h]; exact h
  · right; omega
theorem unsure_free (s : List Int) (h : sureG s = false) : stopped s = false := by
  rw [unsure_iff] at h
  unfold stopped
  rw [if_pos h.1]
  simp; omega
theorem stopped_app (s t : List Int) (h : sureG s = true) : stopped (s ++ t) = stopped s := by
  rw [sure_iff] at h
  by_cases h0 : 0 ≤ mark s
  · have hm := mark_lt s
    unfold stopped
    rw [mark_app s t h0]
    obtain ⟨i, hi⟩ := Int.eq_ofNat_of_zero_le h0
    have hn : ¬ ((i : Int) < 0) := by omega
    rw [hi, Int.toNat_natCast, if_neg hn, if_neg hn, getD_app_left _ _ _ (by omega), List.take_append_of_le_length (by omega)]
  · have h1 : 16 < (s.length : Int) := by omega
    have e1 : stopped s = true := by
      unfold stopped
      rw [if_pos (by omega)]
      simpa using h1
    rw [e1]
    unfold stopped
    rw [List.length_append]
    rcases mark_app_none s t (by omega) with h2 | h2
    · rw [if_pos h2]
      simp; omega
    · rw [if_neg (by omega), if_pos (by omega)]
theorem look_zero (p : List Int) : lookV p false = 0 ↔ sureG p = false := by
  rw [unsure_iff]
  unfold lookV
  by_cases h0 : mark p < 0
  · by_cases h3 : 16 < (p.length : Int)
    · simp [h0, h3]
    · have h1 : ¬ 16 < mark p := by omega
      simp [h0, h1, h3]
      omega
  · have h2 : 0 ≤ mark p := by omega
    simp only [h0, false_and, false_or, if_false, iff_false]
    repeat' split
    all_goals decide
theorem sure_of_stopped (s : List Int) (h : stopped s = true) : sureG s = true := by
  cases hs : sureG s
  · rw [unsure_free s hs] at h; cases h
  · rfl
/-- What a value's beginning lets through. -/
def wantL (s : List Int) : List Int := if sureG s = true then passL s else []
theorem out_want (s p : List Int) : outG s p = (wantL (s ++ p)).drop (wantL s).length ∧ (wantL s).length ≤ (wantL (s ++ p)).length := by
  unfold outG wantL
  cases h1 : sureG s
  · cases h2 : sureG (s ++ p) <;> simp
  · rw [sure_app s p h1]
    unfold passL
    rw [stopped_app s p h1]
    cases h3 : stopped s <;> simp
theorem out_len (s p : List Int) : (outG s p).length ≤ s.length + p.length + 8 := by
  unfold outG
  split
  · split
    · split
      · simp
      · omega
    · have := pass_length (s ++ p)
      rw [List.length_append] at this
      omega
  · simp
/-- All of it: fed in two pieces and finished. -/
theorem out_out (s p q : List Int) : outG s p ++ outG (s ++ p) q = outG s (p ++ q) := by
  unfold outG
  rw [← List.append_assoc]
  cases h1 : sureG s
  · cases h2 : sureG (s ++ p)
    · cases h3 : sureG (s ++ p ++ q) <;> simp
    · rw [sure_app _ q h2]
      unfold passL
      rw [stopped_app _ q h2]
      cases h3 : stopped (s ++ p) <;> simp
  · rw [sure_app s p h1, sure_app _ q (sure_app s p h1), stopped_app s p h1]
    cases h3 : stopped s <;> simp
theorem out_all (p : List Int) : outG [] p ++ heldG p = passL p := by
  unfold outG heldG
  rw [show sureG [] = false by decide, List.nil_append]
  cases h : sureG p
  · unfold passL; rw [unsure_free p h]; simp
  · simp
def GateG (w : World) (F : Nat → Prop) (B g : Nat) (s : List Int) : Prop := GateIs w F B g (heldG s) (isG s)
theorem GateG.below {w w1 : World} {F : Nat → Prop} {B g : Nat} {s : List Int} (h : GateG w F B g s) (hb : Below w.heap.size w w1) : GateG w1 F B g s := GateIs.below h hb
theorem GateG.mono {w : World} {F F' : Nat → Prop} {B g : Nat} {s : List Int} (h : GateG w F B g s) (hm : ∀ k, F k → F' k) : GateG w F' B g s := GateIs.mono h hm
theorem GateG.step {w w1 : World} {F : Nat → Prop} {B g : Nat} {s : List Int} (h : GateG w F B g s) (hm : ∀ k, F k → k < w.heap.size → w1.heap[k]? = w.heap[k]?) : GateG w1 F B g s := GateIs.step h hm
theorem heldG_nil : heldG [] = [] := by decide
theorem isG_nil : isG [] = 0 := by decide
/-- What Feed gives. -/
def FeedG (w : World) (F : Nat → Prop) (B g : Nat) (s p : List Int) (e : Ending) (w' : World) : Prop :=
  ∃ A c, e = .returned (.slice A (outG s p).length c) ∧ (outG s p).length ≤ c ∧ Kd.C (Kd.int .u8) w' A (outG s p).length (outG s p) ∧ GateG w' F B g (s ++ p) ∧ Only F w w' ∧ (sureG (s ++ p) = false → A = none ∧ c = 0)
theorem C_nil (w : World) : Kd.C (Kd.int .u8) w none ([] : List Int).length [] := (Kd.R_reads' (Kd.R_nil (Kd.int .u8) 5 w 0 (fun _ => True))).2.2
set_option maxHeartbeats 4000000 in
theorem feedG_calls (F : Nat → Prop) (B g : Nat) (s p : List Int) (A : Option Addr) (c : Nat) (w : World) (hd : GateG w F B g s) (hp : Kd.C (Kd.int .u8) w A p.length p) (hN : s.length + p.length ≤ 1099511627776)
    (hBs : ∀ j : Nat, 0 ≤ s.getD j 0 ∧ s.getD j 0 ≤ 255) (hBp : ∀ j : Nat, 0 ≤ p.getD j 0 ∧ p.getD j 0 ≤ 255) (hS : SchOK w) (h6 : 6 ≤ B) (hFB : ∀ k, F k → B ≤ k) (hBw : B ≤ w.heap.size) (hFn : ∀ k, w.heap.size ≤ k → F k) :
    Calls Tryd.prog 44 #[.pointer (some ⟨g, 0, none⟩), .slice A p.length c] w (FeedG w F B g s p) := by
  have hd0 := hd
  unfold GateG heldG isG at hd
  cases h1 : sureG s
  · rw [h1] at hd
    simp only [Bool.false_eq_true, if_false] at hd
    have hBy : ∀ j : Nat, 0 ≤ (s ++ p).getD j 0 ∧ (s ++ p).getD j 0 ≤ 255 := fun j => by
      by_cases hj : j < s.length
      · rw [getD_app_left _ _ _ hj]; exact hBs j
      · rw [List.getD_eq_getElem?_getD, List.getElem?_append_right (by omega), ← List.getD_eq_getElem?_getD]; exact hBp _
    refine (gfeed_unsure F B g s p A c w hd hp hN hBy hS h6 hFB hBw).mono ?_
    rintro e w' ⟨w1, hO, u, rfl, hgr, hc⟩
    have hg : F g := hd.1
    have hO2 : Only F w w' := hO.trans (F1 := fun k => k = g) (Only.of_grown hgr (fun k hk => (Option.some.inj hk).symm)) (fun k hk => .inl (hk ▸ hg))
    have hgl := hd.lt
    rcases hc with ⟨hv, rfl, hd3⟩ | ⟨hv, hr, hd3⟩ | ⟨hv, ⟨b, hbb, rfl, hbc⟩, hd3⟩
    · have h2 := (look_zero _).1 hv
      have eo : outG s p = [] := by unfold outG; rw [h2]; simp
      unfold FeedG
      rw [eo]
      refine ⟨none, 0, rfl, Nat.le_refl _, C_nil _, ?_, hO2, fun _ => ⟨rfl, rfl⟩⟩
      unfold GateG heldG isG
      rw [h2]
      exact hd3.mono (fun k hk => hk.elim id (hFn k))
    · have h2 : sureG (s ++ p) = true := by
        cases h : sureG (s ++ p)
        · rw [(look_zero _).2 h] at hv; cases hv
        · rfl
      have h3 : stopped (s ++ p) = false := by
        cases h : stopped (s ++ p)
        · rfl
        · rw [(look_two _ false).2 h] at hv; cases hv
      have eo : outG s p = s ++ p := by unfold outG passL; rw [h2, h1, h3]; simp
      unfold FeedG
      rw [eo]
      obtain ⟨A4, c4, rfl, hc4, hC4⟩ := Kd.R_reads hr
      refine ⟨A4, c4, rfl, hc4, hC4, ?_, hO2, fun h => by rw [h2] at h; cases h⟩
      unfold GateG heldG isG
      rw [h2, h3]
      exact hd3.mono (fun k hk => hk ▸ hg)
    · have h3 := (look_two _ false).1 hv
      have h2 := sure_of_stopped _ h3
      have eo : outG s p = blockedL := by unfold outG passL; rw [h2, h1, h3]; simp
      unfold FeedG
      rw [eo]
      obtain ⟨A4, c4, h4, hc4, hF4⟩ := RB.lit (B := 0) (l := blockedL) (c := 8) hbc (Nat.zero_le _) (by decide) (Nat.le_refl _)
      injection h4 with e1 e2 e3
      subst e1
      subst e3
      refine ⟨_, _, rfl, hc4, Kd.F_now hF4, ?_, hO2, fun h => by rw [h2] at h; cases h⟩
      unfold GateG heldG isG
      rw [h2, h3]
      exact hd3.mono (fun k hk => hk ▸ hg)
  · have h2 := sure_app s p h1
    have h3 := stopped_app s p h1
    rw [h1] at hd
    simp only [if_true] at hd
    cases h4 : stopped s
    · rw [h4] at hd h3
      refine (gfeed_passes F B g [] p A c w hd hp (by omega)).mono ?_
      rintro e w' ⟨u, rfl, hr, hb⟩
      have eo : outG s p = p := by unfold outG; rw [h2, h1, h4]; simp
      unfold FeedG
      rw [eo]
      obtain ⟨A4, c4, rfl, hc4, hC4⟩ := Kd.R_reads hr
      refine ⟨A4, c4, rfl, hc4, hC4, ?_, Only.of_below hb, fun h => by rw [h2] at h; cases h⟩
      unfold GateG heldG isG
      rw [h2, h3]
      exact hd.below hb
    · rw [h4] at hd h3
      refine (gfeed_stopped F B g [] A p.length c w hd).mono ?_
      rintro e w' ⟨rfl, rfl⟩
      have eo : outG s p = [] := by unfold outG; rw [h2, h1, h4]; simp
      unfold FeedG
      rw [eo]
      refine ⟨none, 0, rfl, Nat.le_refl _, C_nil _, ?_, Only.refl _ _, fun h => by rw [h2] at h; cases h⟩
      unfold GateG heldG isG
      rw [h2, h3]
      exact hd
/-- What Finish gives. -/
def FinG (w : World) (F : Nat → Prop) (B g : Nat) (s : List Int) (e : Ending) (w' : World) : Prop :=
  ∃ A c, e = .returned (.slice A (heldG s).length c) ∧ (heldG s).length ≤ c ∧ Kd.C (Kd.int .u8) w' A (heldG s).length (heldG s) ∧ GateG w' (fun k => k = g) B g [] ∧ w.grownBy w' (some g) ∧ (sureG s = true → A = none ∧ c = 0)
set_option maxHeartbeats 4000000 in
theorem finG_calls (F : Nat → Prop) (B g : Nat) (s : List Int) (w : World) (hd : GateG w F B g s) (hBs : ∀ j : Nat, 0 ≤ s.getD j 0 ∧ s.getD j 0 ≤ 255) (hN : s.length ≤ 1099511627776) (hS : SchOK w) :
    Calls Tryd.prog 46 #[.pointer (some ⟨g, 0, none⟩)] w (FinG w F B g s) := by
  unfold GateG at hd
  cases h1 : sureG s
  · have e1 : heldG s = s := by unfold heldG; rw [h1]; simp
    have e2 : isG s = 0 := by unfold isG; rw [h1]; simp
    rw [e1, e2] at hd
    unfold FinG
    rw [e1]
    refine (gfinish_unsure F B g s w hd hBs hN hS).mono ?_
    rintro e w' ⟨u, rfl, hgr, hd3, hc⟩
    rcases hc with ⟨hv, hr⟩ | ⟨hv, _⟩
    · obtain ⟨A4, c4, rfl, hc4, hC4⟩ := Kd.R_reads hr
      refine ⟨A4, c4, rfl, hc4, hC4, ?_, hgr, fun h => by rw [h1] at h; cases h⟩
      unfold GateG
      rw [heldG_nil, isG_nil]
      exact hd3
    · have := (look_two _ true).1 hv
      rw [unsure_free s h1] at this
      cases this
  · have e1 : heldG s = [] := by unfold heldG; rw [h1]; simp
    rw [e1] at hd
    have hi : isG s ≠ 0 := by unfold isG; rw [h1]; cases stopped s <;> decide
    unfold FinG
    rw [e1]
    refine (gfinish_sure F B g [] (isG s) hi w hd).mono ?_
    rintro e w' ⟨rfl, hd3, hgr⟩
    refine ⟨none, 0, rfl, Nat.le_refl _, C_nil _, ?_, hgr, fun _ => ⟨rfl, rfl⟩⟩
    unfold GateG
    rw [heldG_nil, isG_nil]
    exact hd3
theorem heldG_calls (F : Nat → Prop) (B g : Nat) (s : List Int) (w : World) (hd : GateG w F B g s) :
    Calls Tryd.prog 45 #[.pointer (some ⟨g, 0, none⟩)] w fun e w' => e = .returned (.int .i64 ((heldG s).length : Int)) ∧ w' = w := gheld_calls F B g (heldG s) (isG s) w hd
end Go.Proofs.YtdpnnglfaofjeaaDoor.Z

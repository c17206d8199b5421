import Derived.Test.YtdpnnglfaofjeaaDoorSA
namespace Go.Proofs.YtdpnnglfaofjeaaDoor.Z
open Go.RowKit Go.Proofs.YtdpnnglfaofjeaaDoorW.PrintWords Go.Proofs.YtdpnnglfaofjeaaDoorW.PrintLast Go.Proofs.YtdpnnglfaofjeaaDoorW.PrintMore
set_option linter.unusedVariables false
set_option linter.unusedSimpArgs false
set_option maxRecDepth 100000

set_option maxHeartbeats 8000000 in
theorem slow_c0 (l : List Int) (A : Option Addr) (c : Nat) (w : World) (hp : Kd.C (Kd.int .u8) w A l.length l) (hB : ∀ j : Nat, 0 ≤ l.getD j 0 ∧ l.getD j 0 ≤ 255) (hl : 0 < l.length) (h0 : 194 ≤ l.getD 0 0 ∧ l.getD 0 0 ≤ 223) (hT : DecOK w) :
    Calls Tryd.prog 130 #[.slice A l.length c] w (DecIs w l) := by
  obtain ⟨ad, rfl, hc0⟩ := cell_at hp 0 hl
  have hc0' : w.cell? ad = some (.int .u8 (l.getD 0 0)) := by simpa [Addr.add] using hc0
  have hbl : ad.block < w.heap.size := World.block_lt_of_cell? w _ hc0'
  obtain ⟨ab, ao, asp⟩ := ad
  have hfin := dec_bad l hl (by omega)
  have hcells := fun j (hj : j < l.length) => cell_at hp j hj
  obtain ⟨p0, hp0⟩ := Int.eq_ofNat_of_zero_le (show 0 ≤ l.getD 0 0 by omega)
  have hf := hT.1 p0 (by omega)
  have hx : firstT p0 = 2 := by unfold firstT; repeat' split <;> omega
  rw [hx] at hf
  have ht1 := (hT.2 0 (by omega)).1
  have ht2 := (hT.2 0 (by omega)).2
  simp only [loT, hiT, Nat.reduceMul, Nat.reduceAdd] at ht1 ht2
  rw [hp0] at hc0 hc0' h0
  by_cases hn : l.length < 2
  · have hnz : (l.length : Int) < 2 := by omega
    have FIN := Lib.hid hfin
    clear hfin hcells hT hx hp hB
    go_enter Tryd.func130, Tryd.ntmps130
    go_wp2
    go_ret2
    exact ⟨65533, 1, rfl, FIN.out, (Below.refl _ _).alloc (Nat.le_refl _) _⟩
  · have hz0 : ¬ (l.length : Int) < 1 := by omega
    have hz1 : (1 : Int) < (l.length : Int) := by omega
    have hz1' : ¬ (l.length : Int) < 2 := by omega
    obtain ⟨_, hae, hc1⟩ := hcells 1 (by omega)
    obtain rfl := Option.some.inj hae
    have hb1 := hB 1
    obtain ⟨b1, hb1e⟩ : ∃ b : Int, l.getD 1 0 = b := ⟨_, rfl⟩
    rw [hb1e] at hc1 hb1
    replace hc1 : w.cell? ⟨ab, ao + 1, none⟩ = some (.int .u8 b1) := hc1
    clear hae
    clear hc0
    have FIN := Lib.hid hfin
    have RES := Lib.hid (show 128 ≤ b1 ∧ b1 ≤ 191 → Dec l ((p0 : Int) % 32 * 64 + b1 % 64) 2 from fun hq => by
      refine ⟨by omega, by omega, fun j hj => ?_, .inr (.inl ⟨rfl, by omega, by omega⟩)⟩
      rcases (show j = 0 ∨ j = 1 by omega) with rfl | rfl <;> omega)
    clear hfin hcells hT hx hp hB hp0 hb1e
    go_enter Tryd.func130, Tryd.ntmps130
    go_wp2
    all_goals go_ret2
    all_goals first
      | exact ⟨65533, 1, rfl, FIN.out, (Below.refl _ _).alloc (Nat.le_refl _) _⟩
      | exact ⟨_, 2, rfl, RES.out (by omega), (Below.refl _ _).alloc (Nat.le_refl _) _⟩
set_option maxHeartbeats 8000000 in
theorem slow_c1 (l : List Int) (A : Option Addr) (c : Nat) (w : World) (hp : Kd.C (Kd.int .u8) w A l.length l) (hB : ∀ j : Nat, 0 ≤ l.getD j 0 ∧ l.getD j 0 ≤ 255) (hl : 0 < l.length) (h0 : 224 ≤ l.getD 0 0 ∧ l.getD 0 0 ≤ 224) (hT : DecOK w) :
    Calls Tryd.prog 130 #[.slice A l.length c] w (DecIs w l) := by
  obtain ⟨ad, rfl, hc0⟩ := cell_at hp 0 hl
  have hc0' : w.cell? ad = some (.int .u8 (l.getD 0 0)) := by simpa [Addr.add] using hc0
  have hbl : ad.block < w.heap.size := World.block_lt_of_cell? w _ hc0'
  obtain ⟨ab, ao, asp⟩ := ad
  have hfin := dec_bad l hl (by omega)
  have hcells := fun j (hj : j < l.length) => cell_at hp j hj
  obtain ⟨p0, hp0⟩ := Int.eq_ofNat_of_zero_le (show 0 ≤ l.getD 0 0 by omega)
  have hf := hT.1 p0 (by omega)
  have hx : firstT p0 = 19 := by unfold firstT; repeat' split <;> omega
  rw [hx] at hf
  have ht1 := (hT.2 1 (by omega)).1
  have ht2 := (hT.2 1 (by omega)).2
  simp only [loT, hiT, Nat.reduceMul, Nat.reduceAdd] at ht1 ht2
  rw [hp0] at hc0 hc0' h0
  by_cases hn : l.length < 3
  · have hnz : (l.length : Int) < 3 := by omega
    have FIN := Lib.hid hfin
    clear hfin hcells hT hx hp hB
    go_enter Tryd.func130, Tryd.ntmps130
    go_wp2
    go_ret2
    exact ⟨65533, 1, rfl, FIN.out, (Below.refl _ _).alloc (Nat.le_refl _) _⟩
  · have hz0 : ¬ (l.length : Int) < 1 := by omega
    have hz1 : (1 : Int) < (l.length : Int) := by omega
    have hz1' : ¬ (l.length : Int) < 3 := by omega
    obtain ⟨_, hae, hc1⟩ := hcells 1 (by omega)
    obtain rfl := Option.some.inj hae
    have hb1 := hB 1
    obtain ⟨b1, hb1e⟩ : ∃ b : Int, l.getD 1 0 = b := ⟨_, rfl⟩
    rw [hb1e] at hc1 hb1
    replace hc1 : w.cell? ⟨ab, ao + 1, none⟩ = some (.int .u8 b1) := hc1
    clear hae
    have hz2 : (2 : Int) < (l.length : Int) := by omega
    obtain ⟨_, hae, hc2⟩ := hcells 2 (by omega)
    obtain rfl := Option.some.inj hae
    have hb2 := hB 2
    obtain ⟨b2, hb2e⟩ : ∃ b : Int, l.getD 2 0 = b := ⟨_, rfl⟩
    rw [hb2e] at hc2 hb2
    replace hc2 : w.cell? ⟨ab, ao + 2, none⟩ = some (.int .u8 b2) := hc2
    clear hae
    clear hc0
    have FIN := Lib.hid hfin
    have RES := Lib.hid (show 160 ≤ b1 ∧ b1 ≤ 191 ∧ 128 ≤ b2 ∧ b2 ≤ 191 → Dec l ((p0 : Int) % 16 * 4096 + b1 % 64 * 64 + b2 % 64) 3 from fun hq => by
      refine ⟨by omega, by omega, fun j hj => ?_, .inr (.inr (.inl ⟨rfl, by omega, by omega, by omega⟩))⟩
      rcases (show j = 0 ∨ j = 1 ∨ j = 2 by omega) with rfl | rfl | rfl <;> omega)
    clear hfin hcells hT hx hp hB hp0 hb1e hb2e
    go_enter Tryd.func130, Tryd.ntmps130
    go_wp2
    all_goals go_ret2
    all_goals first
      | exact ⟨65533, 1, rfl, FIN.out, (Below.refl _ _).alloc (Nat.le_refl _) _⟩
      | exact ⟨_, 3, rfl, RES.out (by omega), (Below.refl _ _).alloc (Nat.le_refl _) _⟩
set_option maxHeartbeats 8000000 in
theorem slow_c2 (l : List Int) (A : Option Addr) (c : Nat) (w : World) (hp : Kd.C (Kd.int .u8) w A l.length l) (hB : ∀ j : Nat, 0 ≤ l.getD j 0 ∧ l.getD j 0 ≤ 255) (hl : 0 < l.length) (h0 : 225 ≤ l.getD 0 0 ∧ l.getD 0 0 ≤ 236) (hT : DecOK w) :
    Calls Tryd.prog 130 #[.slice A l.length c] w (DecIs w l) := by
  obtain ⟨ad, rfl, hc0⟩ := cell_at hp 0 hl
  have hc0' : w.cell? ad = some (.int .u8 (l.getD 0 0)) := by simpa [Addr.add] using hc0
  have hbl : ad.block < w.heap.size := World.block_lt_of_cell? w _ hc0'
  obtain ⟨ab, ao, asp⟩ := ad
  have hfin := dec_bad l hl (by omega)
  have hcells := fun j (hj : j < l.length) => cell_at hp j hj
  obtain ⟨p0, hp0⟩ := Int.eq_ofNat_of_zero_le (show 0 ≤ l.getD 0 0 by omega)
  have hf := hT.1 p0 (by omega)
  have hx : firstT p0 = 3 := by unfold firstT; repeat' split <;> omega
  rw [hx] at hf
  have ht1 := (hT.2 0 (by omega)).1
  have ht2 := (hT.2 0 (by omega)).2
  simp only [loT, hiT, Nat.reduceMul, Nat.reduceAdd] at ht1 ht2
  rw [hp0] at hc0 hc0' h0
  by_cases hn : l.length < 3
  · have hnz : (l.length : Int) < 3 := by omega
    have FIN := Lib.hid hfin
    clear hfin hcells hT hx hp hB
    go_enter Tryd.func130, Tryd.ntmps130
    go_wp2
    go_ret2
    exact ⟨65533, 1, rfl, FIN.out, (Below.refl _ _).alloc (Nat.le_refl _) _⟩
  · have hz0 : ¬ (l.length : Int) < 1 := by omega
    have hz1 : (1 : Int) < (l.length : Int) := by omega
    have hz1' : ¬ (l.length : Int) < 3 := by omega
    obtain ⟨_, hae, hc1⟩ := hcells 1 (by omega)
    obtain rfl := Option.some.inj hae
    have hb1 := hB 1
    obtain ⟨b1, hb1e⟩ : ∃ b : Int, l.getD 1 0 = b := ⟨_, rfl⟩
    rw [hb1e] at hc1 hb1
    replace hc1 : w.cell? ⟨ab, ao + 1, none⟩ = some (.int .u8 b1) := hc1
    clear hae
    have hz2 : (2 : Int) < (l.length : Int) := by omega
    obtain ⟨_, hae, hc2⟩ := hcells 2 (by omega)
    obtain rfl := Option.some.inj hae
    have hb2 := hB 2
    obtain ⟨b2, hb2e⟩ : ∃ b : Int, l.getD 2 0 = b := ⟨_, rfl⟩
    rw [hb2e] at hc2 hb2
    replace hc2 : w.cell? ⟨ab, ao + 2, none⟩ = some (.int .u8 b2) := hc2
    clear hae
    clear hc0
    have FIN := Lib.hid hfin
    have RES := Lib.hid (show 128 ≤ b1 ∧ b1 ≤ 191 ∧ 128 ≤ b2 ∧ b2 ≤ 191 → Dec l ((p0 : Int) % 16 * 4096 + b1 % 64 * 64 + b2 % 64) 3 from fun hq => by
      refine ⟨by omega, by omega, fun j hj => ?_, .inr (.inr (.inl ⟨rfl, by omega, by omega, by omega⟩))⟩
      rcases (show j = 0 ∨ j = 1 ∨ j = 2 by omega) with rfl | rfl | rfl <;> omega)
    clear hfin hcells hT hx hp hB hp0 hb1e hb2e
    go_enter Tryd.func130, Tryd.ntmps130
    go_wp2
    all_goals go_ret2
    all_goals first
      | exact ⟨65533, 1, rfl, FIN.out, (Below.refl _ _).alloc (Nat.le_refl _) _⟩
      | exact ⟨_, 3, rfl, RES.out (by omega), (Below.refl _ _).alloc (Nat.le_refl _) _⟩
set_option maxHeartbeats 8000000 in
theorem slow_c3 (l : List Int) (A : Option Addr) (c : Nat) (w : World) (hp : Kd.C (Kd.int .u8) w A l.length l) (hB : ∀ j : Nat, 0 ≤ l.getD j 0 ∧ l.getD j 0 ≤ 255) (hl : 0 < l.length) (h0 : 237 ≤ l.getD 0 0 ∧ l.getD 0 0 ≤ 237) (hT : DecOK w) :
    Calls Tryd.prog 130 #[.slice A l.length c] w (DecIs w l) := by
  obtain ⟨ad, rfl, hc0⟩ := cell_at hp 0 hl
  have hc0' : w.cell? ad = some (.int .u8 (l.getD 0 0)) := by simpa [Addr.add] using hc0
  have hbl : ad.block < w.heap.size := World.block_lt_of_cell? w _ hc0'
  obtain ⟨ab, ao, asp⟩ := ad
  have hfin := dec_bad l hl (by omega)
  have hcells := fun j (hj : j < l.length) => cell_at hp j hj
  obtain ⟨p0, hp0⟩ := Int.eq_ofNat_of_zero_le (show 0 ≤ l.getD 0 0 by omega)
  have hf := hT.1 p0 (by omega)
  have hx : firstT p0 = 35 := by unfold firstT; repeat' split <;> omega
  rw [hx] at hf
  have ht1 := (hT.2 2 (by omega)).1
  have ht2 := (hT.2 2 (by omega)).2
  simp only [loT, hiT, Nat.reduceMul, Nat.reduceAdd] at ht1 ht2
  rw [hp0] at hc0 hc0' h0
  by_cases hn : l.length < 3
  · have hnz : (l.length : Int) < 3 := by omega
    have FIN := Lib.hid hfin
    clear hfin hcells hT hx hp hB
    go_enter Tryd.func130, Tryd.ntmps130
    go_wp2
    go_ret2
    exact ⟨65533, 1, rfl, FIN.out, (Below.refl _ _).alloc (Nat.le_refl _) _⟩
  · have hz0 : ¬ (l.length : Int) < 1 := by omega
    have hz1 : (1 : Int) < (l.length : Int) := by omega
    have hz1' : ¬ (l.length : Int) < 3 := by omega
    obtain ⟨_, hae, hc1⟩ := hcells 1 (by omega)
    obtain rfl := Option.some.inj hae
    have hb1 := hB 1
    obtain ⟨b1, hb1e⟩ : ∃ b : Int, l.getD 1 0 = b := ⟨_, rfl⟩
    rw [hb1e] at hc1 hb1
    replace hc1 : w.cell? ⟨ab, ao + 1, none⟩ = some (.int .u8 b1) := hc1
    clear hae
    have hz2 : (2 : Int) < (l.length : Int) := by omega
    obtain ⟨_, hae, hc2⟩ := hcells 2 (by omega)
    obtain rfl := Option.some.inj hae
    have hb2 := hB 2
    obtain ⟨b2, hb2e⟩ : ∃ b : Int, l.getD 2 0 = b := ⟨_, rfl⟩
    rw [hb2e] at hc2 hb2
    replace hc2 : w.cell? ⟨ab, ao + 2, none⟩ = some (.int .u8 b2) := hc2
    clear hae
    clear hc0
    have FIN := Lib.hid hfin
    have RES := Lib.hid (show 128 ≤ b1 ∧ b1 ≤ 159 ∧ 128 ≤ b2 ∧ b2 ≤ 191 → Dec l ((p0 : Int) % 16 * 4096 + b1 % 64 * 64 + b2 % 64) 3 from fun hq => by
      refine ⟨by omega, by omega, fun j hj => ?_, .inr (.inr (.inl ⟨rfl, by omega, by omega, by omega⟩))⟩
      rcases (show j = 0 ∨ j = 1 ∨ j = 2 by omega) with rfl | rfl | rfl <;> omega)
    clear hfin hcells hT hx hp hB hp0 hb1e hb2e
    go_enter Tryd.func130, Tryd.ntmps130
    go_wp2
    all_goals go_ret2
    all_goals first
      | exact ⟨65533, 1, rfl, FIN.out, (Below.refl _ _).alloc (Nat.le_refl _) _⟩
      | exact ⟨_, 3, rfl, RES.out (by omega), (Below.refl _ _).alloc (Nat.le_refl _) _⟩
set_option maxHeartbeats 8000000 in
theorem slow_c4 (l : List Int) (A : Option Addr) (c : Nat) (w : World) (hp : Kd.C (Kd.int .u8) w A l.length l) (hB : ∀ j : Nat, 0 ≤ l.getD j 0 ∧ l.getD j 0 ≤ 255) (hl : 0 < l.length) (h0 : 238 ≤ l.getD 0 0 ∧ l.getD 0 0 ≤ 239) (hT : DecOK w) :
    Calls Tryd.prog 130 #[.slice A l.length c] w (DecIs w l) := by
  obtain ⟨ad, rfl, hc0⟩ := cell_at hp 0 hl
  have hc0' : w.cell? ad = some (.int .u8 (l.getD 0 0)) := by simpa [Addr.add] using hc0
  have hbl : ad.block < w.heap.size := World.block_lt_of_cell? w _ hc0'
  obtain ⟨ab, ao, asp⟩ := ad
  have hfin := dec_bad l hl (by omega)
  have hcells := fun j (hj : j < l.length) => cell_at hp j hj
  obtain ⟨p0, hp0⟩ := Int.eq_ofNat_of_zero_le (show 0 ≤ l.getD 0 0 by omega)
  have hf := hT.1 p0 (by omega)
  have hx : firstT p0 = 3 := by unfold firstT; repeat' split <;> omega
  rw [hx] at hf
  have ht1 := (hT.2 0 (by omega)).1
  have ht2 := (hT.2 0 (by omega)).2
  simp only [loT, hiT, Nat.reduceMul, Nat.reduceAdd] at ht1 ht2
  rw [hp0] at hc0 hc0' h0
  by_cases hn : l.length < 3
  · have hnz : (l.length : Int) < 3 := by omega
    have FIN := Lib.hid hfin
    clear hfin hcells hT hx hp hB
    go_enter Tryd.func130, Tryd.ntmps130
    go_wp2
    go_ret2
    exact ⟨65533, 1, rfl, FIN.out, (Below.refl _ _).alloc (Nat.le_refl _) _⟩
  · have hz0 : ¬ (l.length : Int) < 1 := by omega
    have hz1 : (1 : Int) < (l.length : Int) := by omega
    have hz1' : ¬ (l.length : Int) < 3 := by omega
    obtain ⟨_, hae, hc1⟩ := hcells 1 (by omega)
    obtain rfl := Option.some.inj hae
    have hb1 := hB 1
    obtain ⟨b1, hb1e⟩ : ∃ b : Int, l.getD 1 0 = b := ⟨_, rfl⟩
    rw [hb1e] at hc1 hb1
    replace hc1 : w.cell? ⟨ab, ao + 1, none⟩ = some (.int .u8 b1) := hc1
    clear hae
    have hz2 : (2 : Int) < (l.length : Int) := by omega
    obtain ⟨_, hae, hc2⟩ := hcells 2 (by omega)
    obtain rfl := Option.some.inj hae
    have hb2 := hB 2
    obtain ⟨b2, hb2e⟩ : ∃ b : Int, l.getD 2 0 = b := ⟨_, rfl⟩
    rw [hb2e] at hc2 hb2
    replace hc2 : w.cell? ⟨ab, ao + 2, none⟩ = some (.int .u8 b2) := hc2
    clear hae
    clear hc0
    have FIN := Lib.hid hfin
    have RES := Lib.hid (show 128 ≤ b1 ∧ b1 ≤ 191 ∧ 128 ≤ b2 ∧ b2 ≤ 191 → Dec l ((p0 : Int) % 16 * 4096 + b1 % 64 * 64 + b2 % 64) 3 from fun hq => by
      refine ⟨by omega, by omega, fun j hj => ?_, .inr (.inr (.inl ⟨rfl, by omega, by omega, by omega⟩))⟩
      rcases (show j = 0 ∨ j = 1 ∨ j = 2 by omega) with rfl | rfl | rfl <;> omega)
    clear hfin hcells hT hx hp hB hp0 hb1e hb2e
    go_enter Tryd.func130, Tryd.ntmps130
    go_wp2
    all_goals go_ret2
    all_goals first
      | exact ⟨65533, 1, rfl, FIN.out, (Below.refl _ _).alloc (Nat.le_refl _) _⟩
      | exact ⟨_, 3, rfl, RES.out (by omega), (Below.refl _ _).alloc (Nat.le_refl _) _⟩
set_option maxHeartbeats 8000000 in
theorem slow_c5 (l : List Int) (A : Option Addr) (c : Nat) (w : World) (hp : Kd.C (Kd.int .u8) w A l.length l) (hB : ∀ j : Nat, 0 ≤ l.getD j 0 ∧ l.getD j 0 ≤ 255) (hl : 0 < l.length) (h0 : 240 ≤ l.getD 0 0 ∧ l.getD 0 0 ≤ 240) (hT : DecOK w) :
    Calls Tryd.prog 130 #[.slice A l.length c] w (DecIs w l) := by
  obtain ⟨ad, rfl, hc0⟩ := cell_at hp 0 hl
  have hc0' : w.cell? ad = some (.int .u8 (l.getD 0 0)) := by simpa [Addr.add] using hc0
  have hbl : ad.block < w.heap.size := World.block_lt_of_cell? w _ hc0'
  obtain ⟨ab, ao, asp⟩ := ad
  have hfin := dec_bad l hl (by omega)
  have hcells := fun j (hj : j < l.length) => cell_at hp j hj
  obtain ⟨p0, hp0⟩ := Int.eq_ofNat_of_zero_le (show 0 ≤ l.getD 0 0 by omega)
  have hf := hT.1 p0 (by omega)
  have hx : firstT p0 = 52 := by unfold firstT; repeat' split <;> omega
  rw [hx] at hf
  have ht1 := (hT.2 3 (by omega)).1
  have ht2 := (hT.2 3 (by omega)).2
  simp only [loT, hiT, Nat.reduceMul, Nat.reduceAdd] at ht1 ht2
  rw [hp0] at hc0 hc0' h0
  by_cases hn : l.length < 4
  · have hnz : (l.length : Int) < 4 := by omega
    have FIN := Lib.hid hfin
    clear hfin hcells hT hx hp hB
    go_enter Tryd.func130, Tryd.ntmps130
    go_wp2
    go_ret2
    exact ⟨65533, 1, rfl, FIN.out, (Below.refl _ _).alloc (Nat.le_refl _) _⟩
  · have hz0 : ¬ (l.length : Int) < 1 := by omega
    have hz1 : (1 : Int) < (l.length : Int) := by omega
    have hz1' : ¬ (l.length : Int) < 4 := by omega
    obtain ⟨_, hae, hc1⟩ := hcells 1 (by omega)
    obtain rfl := Option.some.inj hae
    have hb1 := hB 1
    obtain ⟨b1, hb1e⟩ : ∃ b : Int, l.getD 1 0 = b := ⟨_, rfl⟩
    rw [hb1e] at hc1 hb1
    replace hc1 : w.cell? ⟨ab, ao + 1, none⟩ = some (.int .u8 b1) := hc1
    clear hae
    have hz2 : (2 : Int) < (l.length : Int) := by omega
    obtain ⟨_, hae, hc2⟩ := hcells 2 (by omega)
    obtain rfl := Option.some.inj hae
    have hb2 := hB 2
    obtain ⟨b2, hb2e⟩ : ∃ b : Int, l.getD 2 0 = b := ⟨_, rfl⟩
    rw [hb2e] at hc2 hb2
    replace hc2 : w.cell? ⟨ab, ao + 2, none⟩ = some (.int .u8 b2) := hc2
    clear hae
    have hz3 : (3 : Int) < (l.length : Int) := by omega
    obtain ⟨_, hae, hc3⟩ := hcells 3 (by omega)
    obtain rfl := Option.some.inj hae
    have hb3 := hB 3
    obtain ⟨b3, hb3e⟩ : ∃ b : Int, l.getD 3 0 = b := ⟨_, rfl⟩
    rw [hb3e] at hc3 hb3
    replace hc3 : w.cell? ⟨ab, ao + 3, none⟩ = some (.int .u8 b3) := hc3
    clear hae
    clear hc0
    have FIN := Lib.hid hfin
    have RES := Lib.hid (show 144 ≤ b1 ∧ b1 ≤ 191 ∧ 128 ≤ b2 ∧ b2 ≤ 191 ∧ 128 ≤ b3 ∧ b3 ≤ 191 → Dec l ((p0 : Int) % 8 * 262144 + b1 % 64 * 4096 + b2 % 64 * 64 + b3 % 64) 4 from fun hq => by
      refine ⟨by omega, by omega, fun j hj => ?_, .inr (.inr (.inr ⟨rfl, by omega, by omega⟩))⟩
      rcases (show j = 0 ∨ j = 1 ∨ j = 2 ∨ j = 3 by omega) with rfl | rfl | rfl | rfl <;> omega)
    clear hfin hcells hT hx hp hB hp0 hb1e hb2e hb3e
    go_enter Tryd.func130, Tryd.ntmps130
    go_wp2
    all_goals go_ret2
    all_goals first
      | exact ⟨65533, 1, rfl, FIN.out, (Below.refl _ _).alloc (Nat.le_refl _) _⟩
      | exact ⟨_, 4, rfl, RES.out (by omega), (Below.refl _ _).alloc (Nat.le_refl _) _⟩
set_option maxHeartbeats 8000000 in
theorem slow_c6 (l : List Int) (A : Option Addr) (c : Nat) (w : World) (hp : Kd.C (Kd.int .u8) w A l.length l) (hB : ∀ j : Nat, 0 ≤ l.getD j 0 ∧ l.getD j 0 ≤ 255) (hl : 0 < l.length) (h0 : 241 ≤ l.getD 0 0 ∧ l.getD 0 0 ≤ 243) (hT : DecOK w) :
    Calls Tryd.prog 130 #[.slice A l.length c] w (DecIs w l) := by
  obtain ⟨ad, rfl, hc0⟩ := cell_at hp 0 hl
  have hc0' : w.cell? ad = some (.int .u8 (l.getD 0 0)) := by simpa [Addr.add] using hc0
  have hbl : ad.block < w.heap.size := World.block_lt_of_cell? w _ hc0'
  obtain ⟨ab, ao, asp⟩ := ad
  have hfin := dec_bad l hl (by omega)
  have hcells := fun j (hj : j < l.length) => cell_at hp j hj
  obtain ⟨p0, hp0⟩ := Int.eq_ofNat_of_zero_le (show 0 ≤ l.getD 0 0 by omega)
  have hf := hT.1 p0 (by omega)
  have hx : firstT p0 = 4 := by unfold firstT; repeat' split <;> omega
  rw [hx] at hf
  have ht1 := (hT.2 0 (by omega)).1
  have ht2 := (hT.2 0 (by omega)).2
  simp only [loT, hiT, Nat.reduceMul, Nat.reduceAdd] at ht1 ht2
  rw [hp0] at hc0 hc0' h0
  by_cases hn : l.length < 4
  · have hnz : (l.length : Int) < 4 := by omega
    have FIN := Lib.hid hfin
    clear hfin hcells hT hx hp hB
    go_enter Tryd.func130, Tryd.ntmps130
    go_wp2
    go_ret2
    exact ⟨65533, 1, rfl, FIN.out, (Below.refl _ _).alloc (Nat.le_refl _) _⟩
  · have hz0 : ¬ (l.length : Int) < 1 := by omega
    have hz1 : (1 : Int) < (l.length : Int) := by omega
    have hz1' : ¬ (l.length : Int) < 4 := by omega
    obtain ⟨_, hae, hc1⟩ := hcells 1 (by omega)
    obtain rfl := Option.some.inj hae
    have hb1 := hB 1
    obtain ⟨b1, hb1e⟩ : ∃ b : Int, l.getD 1 0 = b := ⟨_, rfl⟩
    rw [hb1e] at hc1 hb1
    replace hc1 : w.cell? ⟨ab, ao + 1, none⟩ = some (.int .u8 b1) := hc1
    clear hae
    have hz2 : (2 : Int) < (l.length : Int) := by omega
    obtain ⟨_, hae, hc2⟩ := hcells 2 (by omega)
    obtain rfl := Option.some.inj hae
    have hb2 := hB 2
    obtain ⟨b2, hb2e⟩ : ∃ b : Int, l.getD 2 0 = b := ⟨_, rfl⟩
    rw [hb2e] at hc2 hb2
    replace hc2 : w.cell? ⟨ab, ao + 2, none⟩ = some (.int .u8 b2) := hc2
    clear hae
    have hz3 : (3 : Int) < (l.length : Int) := by omega
    obtain ⟨_, hae, hc3⟩ := hcells 3 (by omega)
    obtain rfl := Option.some.inj hae
    have hb3 := hB 3
    obtain ⟨b3, hb3e⟩ : ∃ b : Int, l.getD 3 0 = b := ⟨_, rfl⟩
    rw [hb3e] at hc3 hb3
    replace hc3 : w.cell? ⟨ab, ao + 3, none⟩ = some (.int .u8 b3) := hc3
    clear hae
    clear hc0
    have FIN := Lib.hid hfin
    have RES := Lib.hid (show 128 ≤ b1 ∧ b1 ≤ 191 ∧ 128 ≤ b2 ∧ b2 ≤ 191 ∧ 128 ≤ b3 ∧ b3 ≤ 191 → Dec l ((p0 : Int) % 8 * 262144 + b1 % 64 * 4096 + b2 % 64 * 64 + b3 % 64) 4 from fun hq => by
      refine ⟨by omega, by omega, fun j hj => ?_, .inr (.inr (.inr ⟨rfl, by omega, by omega⟩))⟩
      rcases (show j = 0 ∨ j = 1 ∨ j = 2 ∨ j = 3 by omega) with rfl | rfl | rfl | rfl <;> omega)
    clear hfin hcells hT hx hp hB hp0 hb1e hb2e hb3e
    go_enter Tryd.func130, Tryd.ntmps130
    go_wp2
    all_goals go_ret2
    all_goals first
      | exact ⟨65533, 1, rfl, FIN.out, (Below.refl _ _).alloc (Nat.le_refl _) _⟩
      | exact ⟨_, 4, rfl, RES.out (by omega), (Below.refl _ _).alloc (Nat.le_refl _) _⟩
set_option maxHeartbeats 8000000 in
theorem slow_c7 (l : List Int) (A : Option Addr) (c : Nat) (w : World) (hp : Kd.C (Kd.int .u8) w A l.length l) (hB : ∀ j : Nat, 0 ≤ l.getD j 0 ∧ l.getD j 0 ≤ 255) (hl : 0 < l.length) (h0 : 244 ≤ l.getD 0 0 ∧ l.getD 0 0 ≤ 244) (hT : DecOK w) :
    Calls Tryd.prog 130 #[.slice A l.length c] w (DecIs w l) := by
  obtain ⟨ad, rfl, hc0⟩ := cell_at hp 0 hl
  have hc0' : w.cell? ad = some (.int .u8 (l.getD 0 0)) := by simpa [Addr.add] using hc0
  have hbl : ad.block < w.heap.size := World.block_lt_of_cell? w _ hc0'
  obtain ⟨ab, ao, asp⟩ := ad
  have hfin := dec_bad l hl (by omega)
  have hcells := fun j (hj : j < l.length) => cell_at hp j hj
  obtain ⟨p0, hp0⟩ := Int.eq_ofNat_of_zero_le (show 0 ≤ l.getD 0 0 by omega)
  have hf := hT.1 p0 (by omega)
  have hx : firstT p0 = 68 := by unfold firstT; repeat' split <;> omega
  rw [hx] at hf
  have ht1 := (hT.2 4 (by omega)).1
  have ht2 := (hT.2 4 (by omega)).2
  simp only [loT, hiT, Nat.reduceMul, Nat.reduceAdd] at ht1 ht2
  rw [hp0] at hc0 hc0' h0
  by_cases hn : l.length < 4
  · have hnz : (l.length : Int) < 4 := by omega
    have FIN := Lib.hid hfin
    clear hfin hcells hT hx hp hB
    go_enter Tryd.func130, Tryd.ntmps130
    go_wp2
    go_ret2
    exact ⟨65533, 1, rfl, FIN.out, (Below.refl _ _).alloc (Nat.le_refl _) _⟩
  · have hz0 : ¬ (l.length : Int) < 1 := by omega
    have hz1 : (1 : Int) < (l.length : Int) := by omega
    have hz1' : ¬ (l.length : Int) < 4 := by omega
    obtain ⟨_, hae, hc1⟩ := hcells 1 (by omega)
    obtain rfl := Option.some.inj hae
    have hb1 := hB 1
    obtain ⟨b1, hb1e⟩ : ∃ b : Int, l.getD 1 0 = b := ⟨_, rfl⟩
    rw [hb1e] at hc1 hb1
    replace hc1 : w.cell? ⟨ab, ao + 1, none⟩ = some (.int .u8 b1) := hc1
    clear hae
    have hz2 : (2 : Int) < (l.length : Int) := by omega
    obtain ⟨_, hae, hc2⟩ := hcells 2 (by omega)
    obtain rfl := Option.some.inj hae
    have hb2 := hB 2
    obtain ⟨b2, hb2e⟩ : ∃ b : Int, l.getD 2 0 = b := ⟨_, rfl⟩
    rw [hb2e] at hc2 hb2
    replace hc2 : w.cell? ⟨ab, ao + 2, none⟩ = some (.int .u8 b2) := hc2
    clear hae
    have hz3 : (3 : Int) < (l.length : Int) := by omega
    obtain ⟨_, hae, hc3⟩ := hcells 3 (by omega)
    obtain rfl := Option.some.inj hae
    have hb3 := hB 3
    obtain ⟨b3, hb3e⟩ : ∃ b : Int, l.getD 3 0 = b := ⟨_, rfl⟩
    rw [hb3e] at hc3 hb3
    replace hc3 : w.cell? ⟨ab, ao + 3, none⟩ = some (.int .u8 b3) := hc3
    clear hae
    clear hc0
    have FIN := Lib.hid hfin
    have RES := Lib.hid (show 128 ≤ b1 ∧ b1 ≤ 143 ∧ 128 ≤ b2 ∧ b2 ≤ 191 ∧ 128 ≤ b3 ∧ b3 ≤ 191 → Dec l ((p0 : Int) % 8 * 262144 + b1 % 64 * 4096 + b2 % 64 * 64 + b3 % 64) 4 from fun hq => by
      refine ⟨by omega, by omega, fun j hj => ?_, .inr (.inr (.inr ⟨rfl, by omega, by omega⟩))⟩
      rcases (show j = 0 ∨ j = 1 ∨ j = 2 ∨ j = 3 by omega) with rfl | rfl | rfl | rfl <;> omega)
    clear hfin hcells hT hx hp hB hp0 hb1e hb2e hb3e
    go_enter Tryd.func130, Tryd.ntmps130
    go_wp2
    all_goals go_ret2
    all_goals first
      | exact ⟨65533, 1, rfl, FIN.out, (Below.refl _ _).alloc (Nat.le_refl _) _⟩
      | exact ⟨_, 4, rfl, RES.out (by omega), (Below.refl _ _).alloc (Nat.le_refl _) _⟩
theorem slow (l : List Int) (A : Option Addr) (c : Nat) (w : World) (hp : Kd.C (Kd.int .u8) w A l.length l) (hB : ∀ j : Nat, 0 ≤ l.getD j 0 ∧ l.getD j 0 ≤ 255) (hl : 0 < l.length) (h0 : 128 ≤ l.getD 0 0) (hT : DecOK w) :
    Calls Tryd.prog 130 #[.slice A l.length c] w (DecIs w l) := by
  have hB0 := hB 0
  by_cases qslow_c0 : 194 ≤ l.getD 0 0 ∧ l.getD 0 0 ≤ 223
  · exact slow_c0 l A c w hp hB hl qslow_c0 hT
  by_cases qslow_c1 : 224 ≤ l.getD 0 0 ∧ l.getD 0 0 ≤ 224
  · exact slow_c1 l A c w hp hB hl qslow_c1 hT
  by_cases qslow_c2 : 225 ≤ l.getD 0 0 ∧ l.getD 0 0 ≤ 236
  · exact slow_c2 l A c w hp hB hl qslow_c2 hT
  by_cases qslow_c3 : 237 ≤ l.getD 0 0 ∧ l.getD 0 0 ≤ 237
  · exact slow_c3 l A c w hp hB hl qslow_c3 hT
  by_cases qslow_c4 : 238 ≤ l.getD 0 0 ∧ l.getD 0 0 ≤ 239
  · exact slow_c4 l A c w hp hB hl qslow_c4 hT
  by_cases qslow_c5 : 240 ≤ l.getD 0 0 ∧ l.getD 0 0 ≤ 240
  · exact slow_c5 l A c w hp hB hl qslow_c5 hT
  by_cases qslow_c6 : 241 ≤ l.getD 0 0 ∧ l.getD 0 0 ≤ 243
  · exact slow_c6 l A c w hp hB hl qslow_c6 hT
  by_cases qslow_c7 : 244 ≤ l.getD 0 0 ∧ l.getD 0 0 ≤ 244
  · exact slow_c7 l A c w hp hB hl qslow_c7 hT
  refine slow_bad l A c w hp hl ⟨h0, hB0.2⟩ hT ?_
  obtain ⟨p0, hp0⟩ := Int.eq_ofNat_of_zero_le (show 0 ≤ l.getD 0 0 by omega)
  rw [show (l.getD 0 0).toNat = p0 by omega]
  unfold firstT
  repeat' split
  all_goals omega
end Go.Proofs.YtdpnnglfaofjeaaDoor.Z

import Derived.Test.YtdpnnglfaofjeaaDoorSG
namespace Go.Proofs.YtdpnnglfaofjeaaDoor.Z
open Go.RowKit Go.Lib Go.Proofs.YtdpnnglfaofjeaaDoorW.PrintWords Go.Proofs.YtdpnnglfaofjeaaDoorW.PrintLast Go.Proofs.YtdpnnglfaofjeaaDoorW.PrintMore Go.Proofs.YtdpnnglfaofjeaaDoor.PSc
set_option linter.unusedVariables false
set_option linter.unusedSimpArgs false
set_option maxRecDepth 1000000

/-- What chapter 05 reads of the library's variables. -/
def SchOK (w : World) : Prop := DecOK w ∧ ∃ m, w.cell? ⟨1, 0, none⟩ = some (.int .i64 m)
theorem SchOK.below {w w1 : World} (h : SchOK w) (hb : Below w.heap.size w w1) : SchOK w1 := by
  obtain ⟨h1, m, h2⟩ := h
  exact ⟨h1.below hb, m, (hb.cell (World.block_lt_of_cell? w _ h2)).trans h2⟩
/-- What look tells. -/
def lookV (l : List Int) (all : Bool) : Int := if (mark l < 0 ∧ 16 < (l.length : Int)) ∨ 16 < mark l then 2 else if mark l < 0 ∧ all = false then 0 else if 0 ≤ mark l ∧ l.getD (mark l).toNat 0 = 58 ∧ allowed (l.take (mark l).toNat) = false then 2 else 1
theorem take_fit {P : Program} {f : FuncId} {A : Option Addr} {c n : Nat} {l : List Int} {w : World} {Q : Ending → World → Prop} (h : n ≤ l.length) (hc : Calls P f #[.slice A (l.take n).length c] w Q) : Calls P f #[.slice A n c] w Q := by rwa [List.length_take, Nat.min_eq_left h] at hc
theorem C_tk {w : World} {A : Option Addr} {l : List Int} (hp : Kd.C (Kd.int .u8) w A l.length l) (n : Nat) (hn : n ≤ l.length) : Kd.C (Kd.int .u8) w A (l.take n).length (l.take n) := Kd.C_take hp hn
set_option maxHeartbeats 16000000 in
theorem look_calls (l : List Int) (A : Option Addr) (c : Nat) (all : Bool) (w : World) (hp : Kd.C (Kd.int .u8) w A l.length l) (hB : ∀ j : Nat, 0 ≤ l.getD j 0 ∧ l.getD j 0 ≤ 255) (hN : l.length ≤ 1099511627776) (hcap : l.length ≤ c) (hS : SchOK w) :
    Calls Tryd.prog 86 #[.slice A l.length c, .bool all] w fun e w' => e = .returned (.int .i64 (lookV l all)) ∧ Below w.heap.size w w' := by
  obtain ⟨hT, mx, hmx⟩ := hS
  have cA := (any_calls l A c w hp hB (by omega) hcap hT mx hmx).mono (R' := fun e w' => e = .returned (.int .i64 (mark l)) ∧ Below w.heap.size w w') (fun e w' ⟨r, h1, h2, h3⟩ => ⟨by rw [h1, h2.unique (mark_is l)], h3⟩)
  have hml := mark_lt l
  have hmi := mark_is l
  unfold lookV
  have AL := fun (n : Nat) (hn : n ≤ l.length) (w1 : World) (hb : Below w.heap.size w w1) => take_fit hn (scheme_Allowed.calls (l.length + 1) A c (l.take n) (allowed (l.take n)) w1 (C_tk (Kd.C_below hp hb) n hn) (by rw [List.length_take]; omega) (allowed_ev _ (take_bytes hB n) (by rw [List.length_take]; omega) _ (by rw [List.length_take]; omega)))
  generalize mark l = m at *
  have HMI := Lib.hid hmi
  have HP := Lib.hid hp
  have HAL := Lib.hid AL
  clear hmi hp AL hB hT hmx
  by_cases hm0 : m < 0
  · by_cases h16 : 16 < (l.length : Int)
    · rw [if_pos (.inl ⟨hm0, h16⟩)]
      go_enter Tryd.func86, Tryd.ntmps86
      go_wp2_with (go_at_call 96; go_fit cA; rintro e w' ⟨rfl, hb⟩)
      go_ret
      exact ⟨rfl, hb⟩
    · rw [if_neg (by omega)]
      have hm16 : ¬ 16 < m := by omega
      cases all
      · rw [if_pos ⟨hm0, rfl⟩]
        go_enter Tryd.func86, Tryd.ntmps86
        go_wp2_with (go_at_call 96; go_fit cA; rintro e w' ⟨rfl, hb⟩)
        go_ret
        exact ⟨rfl, hb⟩
      · rw [if_neg (by simp), if_neg (by omega)]
        have hm1 : ¬ 0 ≤ m := by omega
        go_enter Tryd.func86, Tryd.ntmps86
        go_wp2_with (go_at_call 96; go_fit cA; rintro e w' ⟨rfl, hb⟩)
        go_ret
        exact ⟨rfl, hb⟩
  · have hm1 : 0 ≤ m := by omega
    by_cases hm16 : 16 < m
    · rw [if_pos (.inr hm16)]
      go_enter Tryd.func86, Tryd.ntmps86
      go_wp2_with (go_at_call 96; go_fit cA; rintro e w' ⟨rfl, hb⟩)
      go_ret
      exact ⟨rfl, hb⟩
    · rw [if_neg (by omega), if_neg (by omega)]
      obtain ⟨i, rfl⟩ := Int.eq_ofNat_of_zero_le hm1
      rw [Int.toNat_natCast]
      have hil : i < l.length := by omega
      have hic : i ≤ c := by omega
      have hCE := fun (w1 : World) (hb : Below w.heap.size w w1) => cell_at (Kd.C_below HP.out hb) i hil
      obtain ⟨ad, rfl, _⟩ := hCE w (Below.refl _ _)
      have hCE' : ∀ w1, Below w.heap.size w w1 → w1.cell? (ad.add i) = some (.int .u8 (l.getD i 0)) := fun w1 hb => by
        obtain ⟨_, hae, h⟩ := hCE w1 hb
        obtain rfl := Option.some.inj hae
        exact h
      have HCE := Lib.hid hCE'
      clear hCE hCE'
      by_cases h58 : l.getD i 0 = 58
      · have cL := HAL.out i (by omega)
        cases ha : allowed (l.take i)
        · rw [if_pos ⟨hm1, h58, rfl⟩]
          rw [ha] at cL
          rw [h58] at HCE
          go_enter Tryd.func86, Tryd.ntmps86
          go_wp2_with (first
            | (go_at_call 96; go_fit cA; rintro e w' ⟨rfl, hb⟩; have hc1 := HCE.out w' hb)
            | (go_at_call 40; go_fit (cL _ hb); rintro e w' ⟨rfl, hb2⟩))
          go_ret
          exact ⟨rfl, below_then hb hb.size hb2⟩
        · rw [if_neg (by simp)]
          rw [ha] at cL
          rw [h58] at HCE
          go_enter Tryd.func86, Tryd.ntmps86
          go_wp2_with (first
            | (go_at_call 96; go_fit cA; rintro e w' ⟨rfl, hb⟩; have hc1 := HCE.out w' hb)
            | (go_at_call 40; go_fit (cL _ hb); rintro e w' ⟨rfl, hb2⟩))
          go_ret
          exact ⟨rfl, below_then hb hb.size hb2⟩
      · rw [if_neg (fun h => h58 h.2.1)]
        obtain ⟨x, hx⟩ : ∃ x, l.getD i 0 = x := ⟨_, rfl⟩
        rw [hx] at HCE h58
        have h58' : (x == 58) = false := beq_eq_false_iff_ne.2 h58
        clear hx h58
        go_enter Tryd.func86, Tryd.ntmps86
        go_wp2_with (go_at_call 96; go_fit cA; rintro e w' ⟨rfl, hb⟩; have hc1 := HCE.out w' hb)
        go_ret
        exact ⟨rfl, hb⟩
end Go.Proofs.YtdpnnglfaofjeaaDoor.Z

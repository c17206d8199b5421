import Derived.Test.YtdpnnglfaofjeaaS
namespace Go.Proofs.Ytdpnnglfaofjeaa.U
open Go.RowKit Go.Proofs.YtdpnnglfaofjeaaW.PrintWords Go.Proofs.YtdpnnglfaofjeaaW.PrintLast Go.Proofs.YtdpnnglfaofjeaaW.PrintMore
set_option linter.unusedVariables false
set_option linter.unusedSimpArgs false

/-! ### a row of the call's own is written over -/
def Fill (W0 W : World) (A : Option Addr) (n c : Nat) : Prop :=
  W0.grownBy W (Value.slice A n c).ownBlock ∧ (0 < n → ∃ g cur, A = some ⟨g, 0, none⟩ ∧ W.heap[g]? = some (.cells cur 5 (0, 0)) ∧ n ≤ cur.size)
theorem Fill.of_R {W : World} {base : Nat} {F : Nat → Prop} {A : Option Addr} {n c : Nat} {xs : List Int} (h : Kd.R (Kd.int .u8) 5 W base F (.slice A n c) xs) : Fill W W A n c := by
  refine ⟨World.grownBy.refl _ _, fun hn => ?_⟩
  have hn' := (Kd.R_reads' h).1
  subst hn'
  have ho := Kd.own_of_R h
  rcases ho.2 with ⟨h1, h2⟩ | ⟨g, cap, cur, h1, hbg, hg, hnc, hcm, hcs, htake⟩
  · injection h1 with _ h3 _; omega
  · injection h1 with h3 h4 h5
    exact ⟨g, cur, h3, hg, by omega⟩
theorem Fill.cell {W0 W : World} {A : Option Addr} {n c i : Nat} (h : Fill W0 W A n c) (hi : i < n) : ∃ ad, A = some ad ∧ (∃ u, W.cell? (ad.add i) = some u) ∧ W.frozen? (ad.add i) = false ∧ ∀ v, Fill W0 (W.setCell (ad.add i) v) A n c := by
  obtain ⟨hg, hc⟩ := h
  obtain ⟨g, cur, rfl, hb, hn⟩ := hc (by omega)
  refine ⟨_, rfl, ?_⟩
  rw [add_plain]
  refine ⟨⟨cur[i]'(by omega), ?_⟩, blk_frozen hb i, fun v => ⟨only_setCell (g := g) (p := ⟨g, i, none⟩) hg (.inl rfl) v, fun _ => ⟨g, cur.setIfInBounds i v, rfl, blk_set hb i v, by simpa using hn⟩⟩⟩
  have := blk_cell hb i
  simpa [show i < cur.size by omega] using this

theorem ne_of_lt {W : World} {base B : Nat} {F F' : Nat → Prop} {W' : World} {base' : Nat} {u v : Value} {xs ys : List Int} (hu : Kd.R (Kd.int .u8) 5 W base F u xs) (hl : W.heap.size ≤ base') (hv : Kd.R (Kd.int .u8) 5 W' base' F' v ys) :
    ∀ k, u.ownBlock = some k → some k ≠ v.ownBlock := by
  intro k hk he
  have h1 := Kd.R_lt hu k hk
  have h2 := own_base (Kd.own_of_R hv) k he.symm
  omega
theorem ne_of_gt {W : World} {base B : Nat} {F F' : Nat → Prop} {W' : World} {base' : Nat} {u v : Value} {xs ys : List Int} (hu : Kd.R (Kd.int .u8) 5 W base F u xs) (hl : W.heap.size ≤ base') (hv : Kd.R (Kd.int .u8) 5 W' base' F' v ys) :
    ∀ k, v.ownBlock = some k → some k ≠ u.ownBlock := fun k hk he => ne_of_lt (B := B) hu hl hv k he.symm hk.symm
set_option maxHeartbeats 4000000 in
theorem keeps_calls (p : List Int) (A : Option Addr) (c : Nat) (w : World) (hp : Kd.C (Kd.int .u8) w A p.length p) (hc : p.length ≤ c) (hN : p.length ≤ 1048576) :
    Calls Try.prog 6 #[.slice A p.length c] w fun e w' => e = .returned (.bool true) ∧ Below w.heap.size w w' := by
  obtain ⟨o, r, e0⟩ : ∃ o r, run p = (o, r) := ⟨_, _, rfl⟩
  have kp := run_len p
  have kw := wait_le p
  rw [e0] at kp kw
  simp only at kp kw
  have E0 := Lib.hid e0
  clear e0
  go_enter Try.func6, Try.ntmps6
  go_wp2_with fail
  refine (PUtf.bobbinlaw01_awake.calls true _ PUtf.awake_true).mono ?_
  rintro e w1 ⟨rfl, hb1⟩
  have hC1 := Kd.C_below hp hb1
  go_wp2_with (at_builtin; refine appB (w0 := w) rfl _ _ rfl (.slice none 0 0) [] p _ _ _ rfl rfl (Kd.R_nil _ _ _ _ _) hC1 hb1 (by simp; omega) ?_; intro v2 w2 ho2 hb2 _ _)
  rw [List.nil_append] at ho2
  refine (new_calls _).mono ?_
  rintro e w3 ⟨rfl, hd3, hb3⟩
  have ho3 := Kd.R_below ho2 hb3
  have hb3' := below_then hb2 hb2.size hb3
  obtain ⟨Am, cm, rfl, hcm, hCm3⟩ := Kd.R_reads ho3
  go_wp2_with fail
  refine (feed_calls _ _ [] p _ _ _ hd3 hCm3 hcm (by simp; omega)).mono ?_
  rintro e w4 ⟨v4, rfl, ho4, hd4, hg4⟩
  rw [List.nil_append, E0.out] at ho4 hd4
  simp only at ho4 hd4
  have hgm : ∀ k, (some w2.heap.size : Option Nat) = some k → some k ≠ (Value.slice Am p.length cm).ownBlock := by
    rintro k ⟨⟩ he
    have := Kd.R_lt ho2 _ he.symm
    omega
  have hom4 := Kd.R_grown2 ho3 rfl hg4 hgm
  have hb4 := pw_below_grown hb3' _ hb3'.size hg4 (by rintro k ⟨⟩; exact hb2.size)
  have hlt4 := hd4.lt
  have hsz34 := hg4.size
  have hd4' : DecIs w4 (fun k => some k ≠ v4.ownBlock ∧ some k ≠ (Value.slice Am p.length cm).ownBlock ∧ k < w4.heap.size) w2.heap.size r := by
    refine hd4.bound.mono ?_
    rintro k ⟨⟨h1, h2⟩, h3⟩
    refine ⟨h2, ?_, h3⟩
    rcases h1 with rfl | h1
    · exact hgm _ rfl
    · intro he
      have := Kd.R_lt ho3 k he.symm
      omega
  have hnma := ne_of_lt (B := 0) ho3 (Nat.le_refl _) ho4
  clear hd4 hg4 hgm hd3
  obtain ⟨Aa, ca, rfl, hca, _⟩ := Kd.R_reads ho4
  go_wp2_with fail
  refine (carry_calls _ _ r _ hd4' (by omega)).mono ?_
  rintro e w5 ⟨v5, rfl, ho5, hb5⟩
  have hsz45 := hb5.size
  have hnac := ne_of_lt (B := 0) ho4 (Nat.le_refl _) ho5
  have hnmc := ne_of_lt (B := 0) hom4 (Nat.le_refl _) ho5
  obtain ⟨Ac, cc, rfl, hcc, _⟩ := Kd.R_reads ho5
  have hom5 := Kd.R_below hom4 hb5
  have hoa5 := Kd.R_below ho4 hb5
  have hd5 := hd4'.below hb5
  have hb5' := below_then hb4 hb4.size hb5
  have hsz04 := hb4.size
  have hsz03 := hb3'.size
  clear hom4 ho4 hd4' hb4
  go_wp2_with fail
  refine (PUtf.bobbinlaw01_same.calls Am cm p A c p true w5 (Kd.R_reads' hom5).2.2 hcm (Kd.C_below hp hb5') hc (by simp [PUtf.bobbinlaw01_same.f])).mono ?_
  rintro e w6 ⟨rfl, hd6⟩
  have hom6 := Kd.R_below hom5 hd6.below
  have hoa6 := Kd.R_below hoa5 hd6.below
  have hoc6 := Kd.R_below ho5 hd6.below
  have hdd6 := hd5.below hd6.below
  have hb6 := below_then hb5' hb5'.size hd6.below
  have hsz56 := hd6.below.size
  have hCc6 := (Kd.R_reads' hoc6).2.2
  clear hom5 hoa5 ho5 hd5 hb5' hd6
  go_wp2_with (at_builtin; refine appB (w0 := w6) rfl _ _ rfl (.slice none 0 0) [] r _ _ _ rfl rfl (Kd.R_nil _ _ _ _ _) hCc6 (Below.refl _ _) (by simp; omega) ?_; intro v7 w7 ho7 hb7 _ _)
  rw [List.nil_append] at ho7
  have hnmw := ne_of_lt (B := 0) hom6 (Nat.le_refl _) ho7
  have hncw := ne_of_lt (B := 0) hoc6 (Nat.le_refl _) ho7
  have hnaw := ne_of_lt (B := 0) hoa6 (Nat.le_refl _) ho7
  have hom7 := Kd.R_below hom6 hb7
  have hoa7 := Kd.R_below hoa6 hb7
  have hoc7 := Kd.R_below hoc6 hb7
  have hd7 := hdd6.below hb7
  have hb7' := below_then hb6 hb6.size hb7
  have hsz67 := hb7.size
  have HF := Fill.of_R hom7
  have hmb : ∀ k, (Value.slice Am p.length cm).ownBlock = some k → w.heap.size ≤ k := fun k hk => own_base (Kd.own_of_R hom7) k hk
  clear hom6 hoa6 hoc6 hdd6 hb6 hb7 hCc6
  go_loopw [8] (fun v8 wr => ∃ i : Nat, v8 = .int .i64 (i : Int) ∧ i ≤ p.length ∧ Fill w7 wr Am p.length cm) (fun v8 _ => match v8 with | .int _ i => p.length - i.toNat | _ => 0)
  case atStart => exact ⟨0, rfl, Nat.zero_le _, HF⟩
  case round =>
    obtain ⟨i, rfl, hi, HF8⟩ := hrel
    by_cases hlt : i < p.length
    · obtain ⟨ad, rfl, ⟨u, hu⟩, hfr, hset⟩ := HF8.cell hlt
      go_wp2_with fail
      go_roundw
      case rel => exact ⟨i + 1, rfl, by omega, hset _⟩
      case measure => simp; omega
    · have hg8 := HF8.1
      have hoa8 := Kd.R_grown2 hoa7 rfl hg8 hnma
      have hoc8 := Kd.R_grown2 hoc7 rfl hg8 hnmc
      have how8 := Kd.R_grown2 ho7 rfl hg8 hnmw
      have hd8 := hd7.step (fun k hk hlt => hg8.block k hlt hk.2.1)
      have hb8 := pw_below_grown hb7' _ hb7'.size hg8 hmb
      have HF9 := Fill.of_R hoc8
      have hcb : ∀ k, (Value.slice Ac r.length cc).ownBlock = some k → w4.heap.size ≤ k := fun k hk => own_base (Kd.own_of_R hoc8) k hk
      have hsz78 := hg8.size
      clear HF8 hg8 hoa7 hoc7 ho7 hd7 hb7' HF
      go_wp2_with fail
      have hW8 := hb8.size
      generalize hwrn : wr = w8 at *
      go_loopw [9] (fun v9 wq => ∃ i : Nat, v9 = .int .i64 (i : Int) ∧ i ≤ r.length ∧ Fill w8 wq Ac r.length cc) (fun v9 _ => match v9 with | .int _ i => r.length - i.toNat | _ => 0)
      case atStart => exact ⟨0, rfl, Nat.zero_le _, HF9⟩
      case round =>
        obtain ⟨j, rfl, hj, HF10⟩ := hrel
        by_cases hlt2 : j < r.length
        · obtain ⟨ad, rfl, ⟨u, hu⟩, hfr, hset⟩ := HF10.cell hlt2
          go_wp2_with fail
          go_roundw
          case rel => exact ⟨j + 1, rfl, by omega, hset _⟩
          case measure => simp; omega
        · have hg9 := HF10.1
          have hoa9 := Kd.R_grown2 hoa8 rfl hg9 (fun k hk he => hnac k he.symm hk.symm)
          have how9 := Kd.R_grown2 how8 rfl hg9 hncw
          have hd9 := hd8.step (fun k hk hlt => hg9.block k hlt (fun he => by have := hcb k he.symm; have := hk.2.2; omega))
          have hb9 := pw_below_grown hb8 _ hb8.size hg9 (fun k hk => by have := hcb k hk; omega)
          have hsz89 := hg9.size
          clear HF9 HF10 hg9 hoa8 how8 hd8 hb8 hoc8
          obtain ⟨Aw, cw, rfl, hcw, _⟩ := Kd.R_reads how9
          have hCa9 := (Kd.R_reads' hoa9).2.2
          go_wp2_with (at_builtin; refine appB (w0 := wr) rfl _ _ rfl (.slice none 0 0) [] o _ _ _ rfl rfl (Kd.R_nil _ _ _ _ _) hCa9 (Below.refl _ _) (by simp; omega) ?_; intro v10 w10 ho10 hb10 _ _)
          rw [List.nil_append] at ho10
          have hnab := ne_of_lt (B := 0) hoa9 (Nat.le_refl _) ho10
          have hoa10 := Kd.R_below hoa9 hb10
          have how10 := Kd.R_below how9 hb10
          have hd10 := hd9.below hb10
          have hb10' := below_then hb9 hb9.size hb10
          clear hoa9 how9 hd9 hb9 hCa9
          refine (carry_calls _ _ r _ hd10 (by omega)).mono ?_
          rintro e w11 ⟨v11, rfl, ho11, hb11⟩
          obtain ⟨A11, c11, rfl, hc11, hC11⟩ := Kd.R_reads ho11
          have hoa11 := Kd.R_below hoa10 hb11
          have hCw11 := (Kd.R_reads' (Kd.R_below how10 hb11)).2.2
          have hob11 := Kd.R_below ho10 hb11
          have hb11' := below_then hb10' hb10'.size hb11
          clear hoa10 how10 hd10 hb10' ho11 ho10 hb10
          go_wp2_with fail
          refine (PUtf.bobbinlaw01_same.calls A11 c11 r Aw cw r true w11 hC11 hc11 hCw11 hcw (by simp [PUtf.bobbinlaw01_same.f])).mono ?_
          rintro e w12 ⟨rfl, hd12⟩
          have hoa12 := Kd.R_below hoa11 hd12.below
          have hob12 := Kd.R_below hob11 hd12.below
          have hb12 := below_then hb11' hb11'.size hd12.below
          have HFa := Fill.of_R hoa12
          have hab : ∀ k, (Value.slice Aa o.length ca).ownBlock = some k → w3.heap.size ≤ k := fun k hk => own_base (Kd.own_of_R hoa12) k hk
          clear hoa11 hCw11 hob11 hb11' hC11 hd12 hb11
          go_wp2_with fail
          go_loopw [11] (fun v11 wz => ∃ i : Nat, v11 = .int .i64 (i : Int) ∧ i ≤ o.length ∧ Fill w12 wz Aa o.length ca) (fun v11 _ => match v11 with | .int _ i => o.length - i.toNat | _ => 0)
          case atStart => exact ⟨0, rfl, Nat.zero_le _, HFa⟩
          case round =>
            obtain ⟨z, rfl, hz, HF13⟩ := hrel
            by_cases hlt3 : z < o.length
            · obtain ⟨ad, rfl, ⟨u, hu⟩, hfr, hset⟩ := HF13.cell hlt3
              go_wp2_with fail
              go_roundw
              case rel => exact ⟨z + 1, rfl, by omega, hset _⟩
              case measure => simp; omega
            · have hg13 := HF13.1
              have hob13 := Kd.R_grown2 hob12 rfl hg13 hnab
              have hb13 := pw_below_grown hb12 _ hb12.size hg13 (fun k hk => by have := hab k hk; omega)
              clear HF13 HFa hg13 hob12 hb12 hoa12
              go_wp2_with fail
              refine (new_calls _).mono ?_
              rintro e w14 ⟨rfl, hd14, hb14⟩
              have hob14 := Kd.R_below hob13 hb14
              have hgb := Kd.R_lt hob13
              have hb14' := below_then hb13 hb13.size hb14
              go_wp2_with fail
              refine (feed_calls _ _ [] p _ _ _ hd14 (Kd.C_below hp hb14') hc (by simp; omega)).mono ?_
              rintro e w15 ⟨v15, rfl, ho15, hd15, hg15⟩
              rw [List.nil_append, E0.out] at ho15 hd15
              simp only at ho15 hd15
              obtain ⟨A15, c15, rfl, hc15, hC15⟩ := Kd.R_reads ho15
              have hob15 := Kd.R_grown2 hob14 rfl hg15 (by rintro k ⟨⟩ he; have := hgb _ he.symm; omega)
              obtain ⟨Ab, cb, rfl, hcb15, hCb15⟩ := Kd.R_reads hob15
              have hb15 := pw_below_grown hb14' _ hb14'.size hg15 (by rintro k ⟨⟩; exact hb13.size)
              clear hob13 hob14 hob15 hd14 hd15 hb14' hg15 ho15
              go_wp2_with fail
              refine (PUtf.bobbinlaw01_same.calls A15 c15 o Ab cb o true w15 hC15 hc15 hCb15 hcb15 (by simp [PUtf.bobbinlaw01_same.f])).mono ?_
              rintro e w16 ⟨rfl, hd16⟩
              have hb16 := below_then hb15 hb15.size hd16.below
              go_wp2_with fail
              refine (feed_nil A p.length c _).mono ?_
              rintro e w17 ⟨rfl, rfl⟩
              go_wp2_with fail
              refine (finish_nil _).mono ?_
              rintro e w18 ⟨rfl, rfl⟩
              go_wp2_with fail
              refine (carry_nil _).mono ?_
              rintro e w19 ⟨rfl, rfl⟩
              go_wp2_with fail
              go_ret
              exact ⟨rfl, hb16⟩
end Go.Proofs.Ytdpnnglfaofjeaa.U

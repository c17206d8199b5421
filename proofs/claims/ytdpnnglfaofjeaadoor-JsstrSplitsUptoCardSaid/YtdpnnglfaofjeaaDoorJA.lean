import Derived.Test.YtdpnnglfaofjeaaDoorFB
import Derived.Lib.RuneBytes
namespace Go.Proofs.YtdpnnglfaofjeaaDoor.U
open Go.RowKit Go.Proofs.YtdpnnglfaofjeaaDoorW.PrintWords Go.Proofs.YtdpnnglfaofjeaaDoorW.PrintLast Go.Proofs.YtdpnnglfaofjeaaDoorW.PrintMore
set_option linter.unusedVariables false
set_option linter.unusedSimpArgs false
set_option maxRecDepth 100000

/-- A row that came in, grown by some bytes. -/
def AppIs (w0 w : World) (P0 : Nat → Prop) (l : List Int) (e : Ending) (w' : World) : Prop :=
  ∃ v0_ : Value, e = .returned (v0_) ∧ Kd.R (Kd.int .u8) 5 w' w0.heap.size (fun k_ => (P0 k_ ∨ w.heap.size ≤ k_)) v0_ l ∧ Below w0.heap.size w0 w' ∧ Kept w w' (fun k_ => P0 k_)
theorem app_fin {w0 w w1 : World} {P0 : Nat → Prop} {u v1 : Value} {l0 l1 : List Int} {o : Obj} (ho0 : Kd.R (Kd.int .u8) 5 w w0.heap.size P0 u l0) (hB : Below w0.heap.size w0 w) (ho1 : Kd.R (Kd.int .u8) 5 w1 w0.heap.size (fun _ => True) v1 l1)
    (hb1 : Below w0.heap.size w0 w1) (hg : (w.alloc o).grownBy w1 u.ownBlock) (hat : v1.ownBlock = u.ownBlock ∨ ∃ b, v1.ownBlock = some b ∧ (w.alloc o).heap.size ≤ b) : AppIs w0 w P0 l1 (.returned v1) w1 := by
  have hsz : w.heap.size ≤ (w.alloc o).heap.size := by simp
  refine ⟨v1, rfl, Kd.R_of_own (enc := Value.int .u8) (h1 := fun _ => rfl) (Kd.own_of_R ho1) (fun k hk => ?_), hb1, ?_⟩
  · rcases hat with hat | ⟨b, hb, hle⟩
    · exact .inl (ho0.1 k (by rw [← hat]; exact hk))
    · right
      rw [hb] at hk
      injection hk with hk
      omega
  · exact Kept.of_grown hg (Kept.alloc (Kept.refl w _) o) (fun k hk => .inl (ho0.1 k hk))
theorem lit_C (W : World) (l : List Int) (C : Array Value) (hC : C = (nums .u8 l).toArray) (hl : l.length ≤ 9223372036854775807) : Kd.C (Kd.int .u8) (W.alloc (.cells C 5)) (some ⟨W.heap.size, 0, none⟩) l.length l := by
  subst hC
  obtain ⟨A, c, he, hc, hF⟩ := RB.lit (B := 0) (c := l.length) (heap_alloc_new W (.cells (nums .u8 l).toArray 5)) (Nat.zero_le _) hl (Nat.le_refl _)
  injection he with h1 h2 h3
  subst h1
  exact Kd.F_now hF
set_option maxHeartbeats 4000000 in
theorem na_calls (P0 : Nat → Prop) (u : Value) (l0 : List Int) (r : Int) (w0 w : World) (hB : Below w0.heap.size w0 w) (ho0 : Kd.R (Kd.int .u8) 5 w w0.heap.size P0 u l0) (hr0 : -2147483648 ≤ r) (hr1 : r ≤ 2147483647) (hna : r < 0 ∨ 128 ≤ r)
    (hl : l0.length + 4 ≤ 140737488355328) : Calls Tryd.prog 84 #[u, .int .i32 r] w (AppIs w0 w P0 (l0 ++ Lib.encodeRuneZ r)) := by
  have hoT := Kd.R_mono (ok' := fun _ => True) ho0 (fun _ _ => trivial)
  have hBa := fun o => hB.alloc hB.size o
  have fin : ∀ (ys : List Int) (o : Obj) v1 w1, l0 ++ Lib.encodeRuneZ r = l0 ++ ys → Kd.R (Kd.int .u8) 5 w1 w0.heap.size (fun _ => True) v1 (l0 ++ ys) → Below w0.heap.size w0 w1 → (w.alloc o).grownBy w1 u.ownBlock →
      (v1.ownBlock = u.ownBlock ∨ ∃ b, v1.ownBlock = some b ∧ (w.alloc o).heap.size ≤ b) → AppIs w0 w P0 (l0 ++ Lib.encodeRuneZ r) (.returned v1) w1 := fun ys o v1 w1 he h1 h2 h3 h4 => by
    rw [he]; exact app_fin ho0 hB h1 h2 h3 h4
  by_cases c1 : 0 ≤ r ∧ r ≤ 2047
  · obtain ⟨h0, h1⟩ : 128 ≤ r ∧ r ≤ 2047 := by omega
    have he := Lib.encodeRuneZ_two h0 h1
    have HE := Lib.hid he
    clear he hna c1
    have FIN := Lib.hid fin
    clear fin
    go_enter Tryd.func84, Tryd.ntmps84
    go_wp2_with (at_builtin; refine appB (w0 := w0) rfl _ _ rfl u l0 [192 + r / 64, 128 + r % 64] _ _ _ rfl rfl (Kd.R_alloc hoT _) (lit_C w [192 + r / 64, 128 + r % 64] _ rfl (by simp)) (hBa _) (by simp; omega) ?_; intro v1 w1 ho1 hb1 hg1 hat1)
    go_ret
    exact FIN.out [192 + r / 64, 128 + r % 64] _ v1 w1 (by rw [HE.out]) ho1 hb1 hg1 hat1
  · by_cases c2 : (2048 ≤ r ∧ r < 55296)
    · obtain ⟨h0, h1⟩ := c2
      have he := Lib.encodeRuneZ_three (r := r) (.inl ⟨h0, h1⟩)
      have HE := Lib.hid he
      clear he hna c1
      have FIN := Lib.hid fin
      clear fin
      go_enter Tryd.func84, Tryd.ntmps84
      go_wp2_with (at_builtin; refine appB (w0 := w0) rfl _ _ rfl u l0 [224 + r / 4096, 128 + r / 64 % 64, 128 + r % 64] _ _ _ rfl rfl (Kd.R_alloc hoT _) (lit_C w [224 + r / 4096, 128 + r / 64 % 64, 128 + r % 64] _ rfl (by simp)) (hBa _) (by simp; omega) ?_; intro v1 w1 ho1 hb1 hg1 hat1)
      go_ret
      exact FIN.out [224 + r / 4096, 128 + r / 64 % 64, 128 + r % 64] _ v1 w1 (by rw [HE.out]) ho1 hb1 hg1 hat1
    · by_cases c3 : 57343 < r ∧ r ≤ 65535
      · obtain ⟨h0, h1⟩ := c3
        have he := Lib.encodeRuneZ_three (r := r) (.inr ⟨h0, h1⟩)
        have HE := Lib.hid he
        clear he hna c1 c2
        have FIN := Lib.hid fin
        clear fin
        go_enter Tryd.func84, Tryd.ntmps84
        go_wp2_with (at_builtin; refine appB (w0 := w0) rfl _ _ rfl u l0 [224 + r / 4096, 128 + r / 64 % 64, 128 + r % 64] _ _ _ rfl rfl (Kd.R_alloc hoT _) (lit_C w [224 + r / 4096, 128 + r / 64 % 64, 128 + r % 64] _ rfl (by simp)) (hBa _) (by simp; omega) ?_; intro v1 w1 ho1 hb1 hg1 hat1)
        go_ret
        exact FIN.out [224 + r / 4096, 128 + r / 64 % 64, 128 + r % 64] _ v1 w1 (by rw [HE.out]) ho1 hb1 hg1 hat1
      · by_cases c4 : 65536 ≤ r ∧ r ≤ 1114111
        · obtain ⟨h0, h1⟩ := c4
          have he : Lib.encodeRuneZ r = [240 + r / 262144, 128 + r / 4096 % 64, 128 + r / 64 % 64, 128 + r % 64] := by
            unfold Lib.encodeRuneZ; rw [if_neg (by omega), if_neg (by omega), if_neg (by omega), if_pos ⟨h0, h1⟩]
          have HE := Lib.hid he
          clear he hna c1 c2 c3
          have FIN := Lib.hid fin
          clear fin
          go_enter Tryd.func84, Tryd.ntmps84
          go_wp2_with (at_builtin; refine appB (w0 := w0) rfl _ _ rfl u l0 [240 + r / 262144, 128 + r / 4096 % 64, 128 + r / 64 % 64, 128 + r % 64] _ _ _ rfl rfl (Kd.R_alloc hoT _) (lit_C w [240 + r / 262144, 128 + r / 4096 % 64, 128 + r / 64 % 64, 128 + r % 64] _ rfl (by simp)) (hBa _) (by simp; omega) ?_; intro v1 w1 ho1 hb1 hg1 hat1)
          go_ret
          exact FIN.out [240 + r / 262144, 128 + r / 4096 % 64, 128 + r / 64 % 64, 128 + r % 64] _ v1 w1 (by rw [HE.out]) ho1 hb1 hg1 hat1
        · have he : Lib.encodeRuneZ r = [239, 191, 189] := by
            unfold Lib.encodeRuneZ; rw [if_neg (by omega), if_neg (by omega), if_neg (by omega), if_neg c4]
          have HE := Lib.hid he
          clear he
          have FIN := Lib.hid fin
          clear fin
          rcases (show r < 0 ∨ (55296 ≤ r ∧ r ≤ 57343) ∨ 1114111 < r by omega) with h | ⟨h, h'⟩ | h
          all_goals
            clear hna c1 c2 c3 c4
            go_enter Tryd.func84, Tryd.ntmps84
            go_wp2_with (at_builtin; refine appB (w0 := w0) rfl _ _ rfl u l0 [239, 191, 189] _ _ _ rfl rfl (Kd.R_alloc hoT _) (lit_C w [239, 191, 189] _ rfl (by simp)) (hBa _) (by simp; omega) ?_; intro v1 w1 ho1 hb1 hg1 hat1)
            go_ret
            exact FIN.out [239, 191, 189] _ v1 w1 (by rw [HE.out]) ho1 hb1 hg1 hat1
theorem digs16j (d : Nat) (h : d < (⟨#[48, 49, 50, 51, 52, 53, 54, 55, 56, 57, 97, 98, 99, 100, 101, 102]⟩ : ByteArray).size) : ((((⟨#[48, 49, 50, 51, 52, 53, 54, 55, 56, 57, 97, 98, 99, 100, 101, 102]⟩ : ByteArray)[d]'h).toNat : Nat) : Int) = dig d := by
  have h1 : ∀ i : Fin 16, ((((⟨#[48, 49, 50, 51, 52, 53, 54, 55, 56, 57, 97, 98, 99, 100, 101, 102]⟩ : ByteArray)[i.1]'i.2).toNat : Nat) : Int) = dig i.1 := by decide +kernel
  exact h1 ⟨d, h⟩
theorem lit_strj (W : World) (l : List Int) (C : Array Value) (hC : C = (nums .u8 l).toArray) (n : Nat) (hn : n = l.length) (hl : l.length ≤ 9223372036854775807) :
    (convert 22 9 (.slice (some ⟨W.heap.size, 0, none⟩) n n)).run Tryd.prog (W.alloc (.cells C 5)) = .ok (.string (strOfNums l)) (W.alloc (.cells C 5)) := by
  subst hC
  subst hn
  obtain ⟨A, c, he, hc, hF⟩ := RB.lit (B := 0) (c := l.length) (heap_alloc_new W (.cells (nums .u8 l).toArray 5)) (Nat.zero_le _) hl (Nat.le_refl _)
  injection he with h1 h2 h3
  subst h1
  subst h3
  exact Kd.C_string (P := Tryd.prog) Tryd.underlying22 Tryd.underlying5 Tryd.underlying9 (Kd.F_now hF)
end Go.Proofs.YtdpnnglfaofjeaaDoor.U

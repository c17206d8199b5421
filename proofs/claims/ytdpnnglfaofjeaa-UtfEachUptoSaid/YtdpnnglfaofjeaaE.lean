import Derived.Test.YtdpnnglfaofjeaaD
namespace Go.Proofs.Ytdpnnglfaofjeaa.U
open Go.RowKit Go.Proofs.YtdpnnglfaofjeaaW.PrintWords Go.Proofs.YtdpnnglfaofjeaaW.PrintLast Go.Proofs.YtdpnnglfaofjeaaW.PrintMore
set_option linter.unusedVariables false
set_option linter.unusedSimpArgs false

theorem info5 : (Try.prog.info? 5).map (fun i => (i.zero, i.size, i.bytes)) = some (some (.int .u8 0), 1, 1) := by kernel_rfl

/-- A decoder at block g that waits with the bytes l; what it holds lies in the blocks of F. -/
def DecIs (w : World) (F : Nat → Prop) (g : Nat) (l : List Int) : Prop :=
  F g ∧ ∃ v, w.heap[g]? = some (.cells #[v] 50 (0, 0)) ∧ Kd.R (Kd.int .u8) 5 w 0 F v l
theorem DecIs.step {w w1 : World} {F : Nat → Prop} {g : Nat} {l : List Int} (h : DecIs w F g l) (hm : ∀ k, F k → k < w.heap.size → w1.heap[k]? = w.heap[k]?) : DecIs w1 F g l := by
  obtain ⟨hF, v, hg, hr⟩ := h
  exact ⟨hF, v, (hm g hF (blk_lt hg)).trans hg, Kd.R_step hr hm⟩
theorem DecIs.mono {w : World} {F F' : Nat → Prop} {g : Nat} {l : List Int} (h : DecIs w F g l) (hm : ∀ k, F k → F' k) : DecIs w F' g l := by
  obtain ⟨hF, v, hg, hr⟩ := h
  exact ⟨hm g hF, v, hg, Kd.R_mono hr hm⟩
theorem DecIs.bound {w : World} {F : Nat → Prop} {g : Nat} {l : List Int} (h : DecIs w F g l) : DecIs w (fun k => F k ∧ k < w.heap.size) g l := by
  obtain ⟨hF, v, hg, hr⟩ := h
  exact ⟨⟨hF, blk_lt hg⟩, v, hg, Kd.R_mono (Kd.R_bound hr) (fun k hk => ⟨hk.1, hk.2.2.1⟩)⟩
theorem DecIs.lt {w : World} {F : Nat → Prop} {g : Nat} {l : List Int} (h : DecIs w F g l) : g < w.heap.size := by
  obtain ⟨hF, v, hg, hr⟩ := h
  exact blk_lt hg
theorem DecIs.below {w w1 : World} {F : Nat → Prop} {g : Nat} {l : List Int} (h : DecIs w F g l) (hb : Below w.heap.size w w1) : DecIs w1 F g l := h.step fun k _ hk => hb.block k hk
theorem DecIs.alloc {w : World} {F : Nat → Prop} {g : Nat} {l : List Int} (h : DecIs w F g l) (o : Obj) : DecIs (w.alloc o) F g l := h.below (below_alloc (Below.refl _ _) o)
theorem DecIs.drewN {w : World} {F : Nat → Prop} {g : Nat} {l : List Int} (h : DecIs w F g l) (n : Nat) : DecIs (w.drewN n) F g l := h
/-- Behind an append to v (apart from the decoder). -/
theorem DecIs.after {w w1 : World} {F : Nat → Prop} {g : Nat} {l : List Int} {v v1 : Value} (h : DecIs w (fun k => F k ∧ some k ≠ v.ownBlock) g l) (hg : w.grownBy w1 v.ownBlock)
    (hat : v1.ownBlock = v.ownBlock ∨ ∃ b, v1.ownBlock = some b ∧ w.heap.size ≤ b) : DecIs w1 (fun k => F k ∧ some k ≠ v1.ownBlock) g l := by
  refine ((h.bound).step (w1 := w1) (fun k hk hlt => hg.block k hlt hk.1.2)).mono ?_
  rintro k ⟨⟨h1, h2⟩, h3⟩
  refine ⟨h1, ?_⟩
  rcases hat with hat | ⟨b, hb, hle⟩
  · rw [hat]; exact h2
  · rw [hb]
    intro he
    injection he with he
    omega

section
variable {ops : Array Oper} {rest : List Oper} {o : Oper} {a : Act} {Q : Exit → Act → World → Prop}
/-- append of bytes onto a row of the call's own. -/
theorem appB {w0 W : World} (hgd : o.guard = none) (s x : Operand) (ho : o.op = .call { callee := .builtin .append, args := #[s, x], argTypes := #[22, 22] })
    (v : Value) (xs ys : List Int) (A : Option Addr) (m c : Nat) (hs : a.eval s = v) (hx : a.eval x = .slice A m c)
    (HO : Kd.R (Kd.int .u8) 5 W w0.heap.size (fun _ => True) v xs) (HR : Kd.C (Kd.int .u8) W A m ys) (HB : Below w0.heap.size w0 W) (hl : xs.length + m ≤ 140737488355328)
    (h : ∀ v1 w1, Kd.R (Kd.int .u8) 5 w1 w0.heap.size (fun _ => True) v1 (xs ++ ys) → Below w0.heap.size w0 w1 → W.grownBy w1 v.ownBlock → (v1.ownBlock = v.ownBlock ∨ ∃ b, v1.ownBlock = some b ∧ W.heap.size ≤ b) → wpList Try.prog ops Q rest (a.put o.dst v1) w1) :
    wpList Try.prog ops Q (o :: rest) a W :=
  Kd.R_append_rows (Kd.int .u8) (w0 := w0) w0.heap.size hgd s x 22 5 (.int .u8 0) 1 ho Try.underlying22 info5 rfl (by decide) (by omega) v xs ys A m c (fun _ => True) (fun _ => False) hs hx
    HO HR (fun _ _ h => h) (fun _ h => h.elim) (fun _ _ => trivial) HB HB.size (by omega) h
end
/-- Where the row lies behind an append of a text. -/
theorem run_append_str_at {P : Program} (w : World) (base : Nat) (t u ty e : TypeId) (i : TypeInfo) (ht : P.underlying t = some (.slice e)) (hu : P.underlying u = some .string) (hi : P.info? e = some i) (hz : i.zero = some (.int .u8 0))
    (hsize : i.size = 1) (hby : i.bytes = 1) (v : Value) (n : Nat) (xs : List Value) (hown : w.ownsRow base e 1 v n xs) (s : ByteArray) (hbytes : n + s.size ≤ 140737488355328) (hbase : base ≤ w.heap.size) :
    ∃ v' w', (Builtin.append_ #[t, u] ty #[v, .string s]).run P w = .ok v' w' ∧ w'.ownsRow base e 1 v' (n + s.size) (xs ++ Lib.strCells s) ∧ w.grownBy w' v.ownBlock ∧
      (v'.ownBlock = v.ownBlock ∨ ∃ b, v'.ownBlock = some b ∧ w.heap.size ≤ b) := by
  have h63 : n + s.size ≤ maxLen := by simp only [maxLen]; omega
  rcases hown.2 with ⟨rfl, rfl⟩ | ⟨g, cap, cur, rfl, hbg, hg, hnc, hcm, hcs, htake⟩
  · have hown' : w.ownsRow w.heap.size e 1 (.slice none 0 0) 0 xs := ⟨hown.1, .inl ⟨rfl, rfl⟩⟩
    obtain ⟨v', w', hr, h1, h2, _⟩ := Lib.run_append_own_string (P := P) w w.heap.size t u ty e i ht hu hi hz hsize hby _ 0 xs hown' s h63 hbytes (Nat.le_refl _)
    refine ⟨v', w', hr, own_weaken h1 hbase, h2, ?_⟩
    cases hv : v'.ownBlock with
    | none => exact .inl rfl
    | some k => exact .inr ⟨k, rfl, own_base h1 k hv⟩
  · obtain ⟨v', w', hr, h1, h2, _⟩ := Lib.run_append_own_string (P := P) w base t u ty e i ht hu hi hz hsize hby _ n xs hown s h63 hbytes hbase
    refine ⟨v', w', hr, h1, h2, ?_⟩
    by_cases hroom : n + s.size ≤ cap
    · have hr2 := Lib.run_append_room_string (P := P) w t u ty e i ht hu hi hsize g n cap cur hg s hroom (by rw [hcs]; omega)
      rw [hr] at hr2
      injection hr2 with hr2 _
      rw [hr2]
      exact .inl rfl
    · have holds : ∀ j u, xs[j]? = some u → w.cell? ((⟨g, 0, none⟩ : Addr).add j) = some u := hown.cells (g := g) rfl
      have hr2 := Lib.run_append_grow_string (P := P) w t u ty e i _ ht hu hi hz ⟨g, 0, none⟩ n cap xs (by rw [hsize]; exact hown.1) holds s (by omega) (by omega)
        (growslice_fits (by omega) (by rw [hby]; omega))
      rw [hr] at hr2
      injection hr2 with hr2 _
      rw [hr2]
      exact .inr ⟨_, rfl, Nat.le_refl _⟩
section
variable {ops : Array Oper} {rest : List Oper} {o : Oper} {a : Act} {Q : Exit → Act → World → Prop}
/-- append of a text onto a row of the call's own. -/
theorem appS {w0 W : World} (hgd : o.guard = none) (s x : Operand) (ho : o.op = .call { callee := .builtin .append, args := #[s, x], argTypes := #[22, 9] })
    (v : Value) (xs : List Int) (y : ByteArray) (hs : a.eval s = v) (hx : a.eval x = .string y)
    (HO : Kd.R (Kd.int .u8) 5 W w0.heap.size (fun _ => True) v xs) (HB : Below w0.heap.size w0 W) (hl : xs.length + y.size ≤ 140737488355328)
    (h : ∀ v1 w1, Kd.R (Kd.int .u8) 5 w1 w0.heap.size (fun _ => True) v1 (xs ++ bytesOf y) → Below w0.heap.size w0 w1 → W.grownBy w1 v.ownBlock → (v1.ownBlock = v.ownBlock ∨ ∃ b, v1.ownBlock = some b ∧ W.heap.size ≤ b) → wpList Try.prog ops Q rest (a.put o.dst v1) w1) :
    wpList Try.prog ops Q (o :: rest) a W := by
  obtain ⟨i0, hi, hz0, hz1, hz2⟩ := info_parts info5
  have HO' := Kd.own_of_R HO
  obtain ⟨v1, w1, hr, hown, hg, hat⟩ := run_append_str_at (P := Try.prog) W w0.heap.size 22 9 o.type 5 i0 Try.underlying22 Try.underlying9 hi hz0 hz1 hz2 v xs.length _ HO' y hl HB.size
  refine wpList_plain hgd fun K hK => ?_
  unfold Oper.wp execOp
  simp only [ho, resolve, invoke, builtin, Sem.run_bind, Sem.run_pure, Result.andThen_ok, List.map_toArray, List.map_cons, List.map_nil, hs, hx, hr]
  refine hK _ _ (h v1 w1 (Kd.R_of_own ?_ (fun _ _ => trivial)) (HB.grown hg HB.size (own_base HO')) hg hat)
  have hl2 : (xs ++ bytesOf y).length = xs.length + y.size := by rw [List.length_append, bytesOf_length]
  have hc : encs (Value.int .u8) (xs ++ bytesOf y) = encs (Value.int .u8) xs ++ Lib.strCells y := by
    rw [encs_append]
    congr 1
    simp [encs, bytesOf, Lib.strCells]
  rw [hl2, hc]
  exact hown
end
theorem R_empty (W : World) (base : Nat) (hb : base ≤ W.heap.size) : Kd.R (Kd.int .u8) 5 (W.alloc (.cells #[] 5)) base (fun _ => True) (.slice (some ⟨W.heap.size, 0, none⟩) 0 0) [] :=
  Kd.R_of_own (enc := Value.int .u8) (h1 := fun _ => rfl) (own_lit_of W base 5 ([] : List Int) hb (by simp)) (fun _ _ => trivial)

theorem only_setCell {a w : World} {g : Nat} (h : a.grownBy w (some g)) {p : Addr} (hp : p.block = g ∨ a.heap.size ≤ p.block) (u : Value) : a.grownBy (w.setCell p u) (some g) :=
  ⟨h.os, h.tape, h.output, by simpa [World.setCell] using h.size, fun i hi hne => (Below.heap_setCell w p u i (by
    rintro rfl
    rcases hp with hp | hp
    · exact hne (by rw [hp])
    · omega)).trans (h.block i hi hne)⟩
def FeedIs (w : World) (g : Nat) (r : List Int × List Int) (e : Ending) (w' : World) : Prop :=
  ∃ v, e = .returned v ∧ Kd.R (Kd.int .u8) 5 w' w.heap.size (fun _ => True) v r.1 ∧ DecIs w' (fun k => (k = g ∨ w.heap.size ≤ k) ∧ some k ≠ v.ownBlock) g r.2 ∧ w.grownBy w' (some g)

theorem feed_end {w W w4 : World} {g : Nat} {l : List Int} {v0 v4 v6 : Value} {out rest : List Int} (H : Hid (run l = (out, rest))) (hg : w.heap[g]? = some (.cells #[v0] 50 (0, 0)))
    (ho : Kd.R (Kd.int .u8) 5 W w.heap.size (fun _ => True) v6 out) (hb : Below w.heap.size w W) (ho4 : Kd.R (Kd.int .u8) 5 w4 W.heap.size (fun _ => True) v4 ([] ++ rest)) (hb4 : Below W.heap.size W w4) :
    FeedIs w g (run l) (.returned v6) (w4.setCell ⟨g, 0, none⟩ v4) := by
  have hlt := blk_lt hg
  have hgW : W.heap[g]? = some (.cells #[v0] 50 (0, 0)) := (hb.block g hlt).trans hg
  have hg4 := blk_below hgW hb4
  have h6 := Kd.R_below ho hb4
  have h6s := Kd.R_set h6 hg4 (by simp [Kd.int, Kd.scalar]) 0 v4
  have h4s := Kd.R_set ho4 hg4 (by simp [Kd.int, Kd.scalar]) 0 v4
  refine ⟨v6, rfl, ?_, ⟨⟨.inl rfl, Kd.R_ne h6s (blk_set hg4 0 v4) (by decide)⟩, v4, by simpa using blk_set hg4 0 v4, ?_⟩, only_setCell (grown_of_below (below_then hb hb.size hb4) _) (.inl rfl) _⟩
  · rw [H.out]; exact h6s
  · rw [H.out]
    refine Kd.R_lower (Kd.R_mono (Kd.R_bound h4s) (fun k hk => ⟨.inr (Nat.le_trans hb.size hk.2.1), fun he => ?_⟩)) (Nat.zero_le _)
    have := Kd.R_lt ho k he.symm
    have := hk.2.1
    omega

set_option maxHeartbeats 8000000 in
theorem feed_calls (F : Nat → Prop) (g : Nat) (l p : List Int) (A : Option Addr) (c : Nat) (w : World) (hd : DecIs w F g l) (hp : Kd.C (Kd.int .u8) w A p.length p) (hc : p.length ≤ c) (hN : l.length + p.length ≤ 1099511627776) :
    Calls Try.prog 18 #[.pointer (some ⟨g, 0, none⟩), .slice A p.length c] w (FeedIs w g (run (l ++ p))) := by
  obtain ⟨hF, v0, hg, hr0⟩ := hd
  obtain ⟨A0, c0, rfl, hc0, hC0⟩ := Kd.R_reads hr0
  have hgB : ∀ {W : World}, Below w.heap.size w W → W.heap[g]? = some (.cells #[.slice A0 l.length c0] 50 (0, 0)) := fun hb => (hb.block g (blk_lt hg)).trans hg
  have hcell : (w.alloc (.cells #[] 5)).cell? ⟨g, 0, none⟩ = some (.slice A0 l.length c0) := blk_cell (blk_alloc hg _) 0
  have HE := R_empty w w.heap.size (Nat.le_refl _)
  have HBE := (Below.refl w.heap.size w).alloc (Nat.le_refl _) (.cells #[] 5)
  go_enter Try.func18, Try.ntmps18
  go_wp2_with (first
    | (at_builtin; refine appB (w0 := w) rfl (.tmp 12) (.tmp 16) rfl _ _ _ _ _ _ rfl rfl HE (Kd.C_below hC0 HBE) HBE (by simp; omega) ?_; intro v1 w1 ho1 hb1 _ _; clear HE HBE hcell)
    | (at_builtin; refine appB (w0 := w) rfl (.tmp 17) (.tmp 18) rfl _ _ _ _ _ _ rfl rfl ho1 (Kd.C_below hp hb1) hb1 (by simp; omega) ?_; intro v2 w2 ho2 hb2 _ _; clear ho1 hb1))
  go_loopw [5, 6] (fun v5 v6 wr => ∃ (A : Option Addr) (c : Nat) (rest out : List Int), v5 = .slice A rest.length c ∧ rest.length ≤ c ∧ Kd.F (Kd.int .u8) wr (fun k => True ∧ some k ≠ v6.ownBlock) A rest.length rest ∧
      Kd.R (Kd.int .u8) 5 wr w.heap.size (fun _ => True) v6 out ∧ Below w.heap.size w wr ∧ Hid (run (l ++ p) = (out ++ (run rest).1, (run rest).2)) ∧ out.length + 3 * rest.length ≤ 3 * (l.length + p.length)) (fun v5 _ _ => match v5 with | .slice _ n _ => n | _ => 0)
  case atStart =>
    simp only [List.nil_append] at ho2
    obtain ⟨A2, c2, rfl, hc2, hC2⟩ := Kd.R_reads ho2
    exact ⟨A2, c2, l ++ p, [], rfl, hc2, Kd.F_mono (Kd.R_F ho2) (fun k _ => by simp [Value.ownBlock]), Kd.R_nil _ _ _ _ _, hb2, by exact (rfl : run (l ++ p) = ([] ++ (run (l ++ p)).1, (run (l ++ p)).2)), by simp⟩
  case round =>
    obtain ⟨A3, c3, rest, out, rfl, hc3, hF3, ho3, hb3, HQ, hlen⟩ := hrel
    have hC3 := Kd.F_now hF3
    by_cases hp0 : 0 < rest.length
    · obtain ⟨⟨fn, fg, fo⟩, hf⟩ : ∃ r, firstL rest = r := ⟨_, rfl⟩
      have HFC := first_calls A3 c3 rest wr hC3 hc3 hp0
      have hf1 := firstL_pos rest hp0
      have hf2 := firstL_le rest hp0
      rw [hf] at HFC hf1 hf2
      simp only at hf1 hf2
      cases fo
      · cases fg
        · have e2 : run (l ++ p) = (out ++ fffd ++ (run (rest.drop fn.toNat)).1, (run (rest.drop fn.toNat)).2) := by rw [HQ.out, run_bad rest hp0 (by rw [hf]) (by rw [hf]), hf]; simp
          have E2 := Lib.hid e2
          clear e2 hf
          go_wp2_with fail
          refine HFC.mono ?_
          rintro e w3 ⟨rfl, hb3'⟩
          have hF4 := Kd.F_below hF3 hb3'
          have ho3' := Kd.R_below ho3 hb3'
          have hb3s := below_then hb3 hb3.size hb3'
          have hsz3 := hb3.size
          clear hF3 ho3 HFC hC3
          obtain ⟨i0, hi0, _, hsz0, _⟩ := info_parts info5
          obtain ⟨A5, hcut, hA5, hc5⟩ := print_drop_of (P := Try.prog) (Value.int .u8) 0 22 5 .i64 Try.underlying22 hi0 hsz0 A3 c3 rest fn (by omega) hf2 hc3
          clear hi0 hsz0
          go_wp2_with (at_builtin; (refine appS (w0 := w) rfl (.tmp 36) (.const (.string ⟨#[239, 191, 189]⟩)) rfl u6 _ ⟨#[239, 191, 189]⟩ rfl rfl ho3' hb3s (by show _ + 3 ≤ _; omega) ?_); intro v6 w6 ho6 hb6 hgr6 hat6; have hF6 := Kd.F_after hF4 hgr6 hat6; clear hgr6 hat6 hF4)
          go_roundw
          case rel =>
            refine ⟨A5, c3 - fn.toNat, rest.drop fn.toNat, _, by rw [List.length_drop], hc5, Kd.F_imp hF6 (fun W' hC => Kd.C_of_reads (h1 := fun _ => rfl) (hA5 _ (Kd.reads_of_C hC))), ho6, hb6, E2, ?_⟩
            have hfl : (bytesOf ⟨#[239, 191, 189]⟩).length = 3 := rfl
            rw [List.length_append, hfl, List.length_drop]
            omega
          case measure => simp [List.length_drop]; omega
        · have e2 : run (l ++ p) = (out ++ rest.take fn.toNat ++ (run (rest.drop fn.toNat)).1, (run (rest.drop fn.toNat)).2) := by rw [HQ.out, run_good rest hp0 (by rw [hf]) (by rw [hf]), hf]; simp
          have E2 := Lib.hid e2
          clear e2 hf
          go_wp2_with fail
          refine HFC.mono ?_
          rintro e w3 ⟨rfl, hb3'⟩
          have hF4 := Kd.F_below hF3 hb3'
          have ho3' := Kd.R_below ho3 hb3'
          have hb3s := below_then hb3 hb3.size hb3'
          have hsz3 := hb3.size
          clear hF3 ho3 HFC hC3
          obtain ⟨i0, hi0, _, hsz0, _⟩ := info_parts info5
          obtain ⟨A5, hcut, hA5, hc5⟩ := print_drop_of (P := Try.prog) (Value.int .u8) 0 22 5 .i64 Try.underlying22 hi0 hsz0 A3 c3 rest fn (by omega) hf2 hc3
          obtain ⟨htake, hT5, htc⟩ := print_take_of (P := Try.prog) (Value.int .u8) 0 22 5 .i64 Try.underlying22 hi0 hsz0 A3 c3 rest fn (by omega) hf2 hc3
          have hCT := Kd.C_of_reads (h1 := fun _ => rfl) (hT5 _ (Kd.reads_of_C (Kd.F_now hF4)))
          clear hi0 hsz0 hT5 htc
          have hl5 : (rest.take fn.toNat).length = fn.toNat := by rw [List.length_take]; omega
          rw [hl5] at hCT
          have HL5 := Lib.hid hl5
          clear hl5
          go_wp2_with (at_builtin; refine appB (w0 := w) rfl (.tmp 31) (.tmp 34) rfl u6 _ _ _ _ _ rfl rfl ho3' hCT hb3s (by omega) ?_; intro v6 w6 ho6 hb6 hgr6 hat6; have hF6 := Kd.F_after hF4 hgr6 hat6; clear hgr6 hat6 hCT hF4)
          go_roundw
          case rel =>
            refine ⟨A5, c3 - fn.toNat, rest.drop fn.toNat, _, by rw [List.length_drop], hc5, Kd.F_imp hF6 (fun W' hC => Kd.C_of_reads (h1 := fun _ => rfl) (hA5 _ (Kd.reads_of_C hC))), ho6, hb6, E2, ?_⟩
            rw [List.length_append, HL5.out, List.length_drop]
            omega
          case measure => simp [List.length_drop]; omega
      · have e2 : run (l ++ p) = (out, rest) := by rw [HQ.out, run_open rest hp0 (by rw [hf])]; simp
        have HFIN := Lib.hid e2
        clear e2 hf
        go_wp2_with fail
        refine HFC.mono ?_
        rintro e w3 ⟨rfl, hb3'⟩
        have hF4 := Kd.F_below hF3 hb3'
        have ho3' := Kd.R_below ho3 hb3'
        have hb3s := below_then hb3 hb3.size hb3'
        clear hF3 ho3 HFC
        have hgW := hgB hb3s
        have hE4 := R_empty w3 w3.heap.size (Nat.le_refl _)
        have hB4 := (Below.refl w3.heap.size w3).alloc (Nat.le_refl _) (.cells #[] 5)
        have hC4 := Kd.C_alloc (Kd.F_now hF4) (.cells #[] 5)
        go_wp2_with (at_builtin; refine appB (w0 := w3) rfl (.tmp 42) (.tmp 43) rfl _ _ _ _ _ _ rfl rfl hE4 hC4 hB4 (by simp <;> omega) ?_; intro v4 w4 ho4 hb4 _ _; obtain ⟨A4, c4, e4⟩ := Kd.R_slice ho4; subst e4; have hg4 := blk_below hgW hb4; have hcell4 : w4.cell? ⟨g, 0, none⟩ = some (.slice A0 l.length c0) := blk_cell hg4 0; have hfr4 := blk_frozen hg4 0; clear hE4 hC4 hB4)
        go_ret
        exact feed_end HFIN hg ho3' hb3s ho4 hb4
    · have e1 : rest = [] := List.eq_nil_of_length_eq_zero (by omega)
      subst e1
      have e2 : run (l ++ p) = (out, []) := by rw [HQ.out, run_nil]; simp
      have HFIN := Lib.hid e2
      clear e2
      have hgW := (hgB hb3)
      have hE4 := R_empty wr wr.heap.size (Nat.le_refl _)
      have hB4 := (Below.refl wr.heap.size wr).alloc (Nat.le_refl _) (.cells #[] 5)
      have hC4 := Kd.C_alloc (Kd.F_now hF3) (.cells #[] 5)
      go_wp2_with (at_builtin; refine appB (w0 := wr) rfl (.tmp 42) (.tmp 43) rfl _ _ _ _ _ _ rfl rfl hE4 hC4 hB4 (by simp <;> omega) ?_; intro v4 w4 ho4 hb4 _ _; obtain ⟨A4, c4, e4⟩ := Kd.R_slice ho4; subst e4; have hg4 := blk_below hgW hb4; have hcell4 : w4.cell? ⟨g, 0, none⟩ = some (.slice A0 l.length c0) := blk_cell hg4 0; have hfr4 := blk_frozen hg4 0; clear hE4 hC4 hB4)
      go_ret
      exact feed_end HFIN hg ho3 hb3 ho4 hb4
end Go.Proofs.Ytdpnnglfaofjeaa.U

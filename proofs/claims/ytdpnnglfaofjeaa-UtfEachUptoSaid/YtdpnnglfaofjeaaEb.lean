import Derived.Test.YtdpnnglfaofjeaaEa
namespace Go.Proofs.Ytdpnnglfaofjeaa.U
open Go.RowKit Go.Shelf Go.Proofs.YtdpnnglfaofjeaaW.PrintWords Go.Proofs.YtdpnnglfaofjeaaW.PrintLast Go.Proofs.YtdpnnglfaofjeaaW.PrintMore
set_option linter.unusedVariables false
set_option linter.unusedSimpArgs false
attribute [local go_sem] Oper.semAt_some

/-! ### a number written again -/
theorem u8n (x : Int) (n : Nat) (h : n = x.toNat) (hx : 0 ≤ x ∧ x ≤ 255) : ((UInt8.ofNat n).toNat : Int) = x := by
  subst h
  simp
  omega
theorem bytesOf_encode (ch : List Int) (h : Form ch) : bytesOf (Utf8.encode (runeOf ch)) = ch := by
  rcases h with ⟨x, rfl, h1, h2⟩ | ⟨x, y, rfl, h1, h2, h3, h4⟩ | ⟨x, y, z, rfl, h1, h2, h3, h4, h5, h6, h7, h8⟩ | ⟨x, y, z, u, rfl, h1, h2, h3, h4, h5, h6, h7, h8, h9, h10⟩
  · simp only [runeOf]
    have hv : Utf8.valid x = true := by simp [Utf8.valid]; omega
    simp only [Utf8.encode, hv, if_true]
    rw [if_pos (by omega)]
    simp only [bytesOf, List.map_cons, List.map_nil]
    rw [u8n x _ rfl (by omega)]
  · simp only [runeOf]
    generalize hR : x % 32 * 64 + y % 64 = R
    have hv : Utf8.valid R = true := by simp [Utf8.valid]; omega
    simp only [Utf8.encode, hv, if_true]
    rw [if_neg (by omega), if_pos (by omega)]
    simp only [bytesOf, List.map_cons, List.map_nil]
    rw [u8n x _ (by omega) (by omega), u8n y _ (by omega) (by omega)]
  · simp only [runeOf]
    generalize hR : x % 16 * 4096 + y % 64 * 64 + z % 64 = R
    have hv : Utf8.valid R = true := by simp [Utf8.valid]; omega
    simp only [Utf8.encode, hv, if_true]
    rw [if_neg (by omega), if_neg (by omega), if_pos (by omega)]
    simp only [bytesOf, List.map_cons, List.map_nil]
    rw [u8n x _ (by omega) (by omega), u8n y _ (by omega) (by omega), u8n z _ (by omega) (by omega)]
  · simp only [runeOf]
    generalize hR : x % 8 * 262144 + y % 64 * 4096 + z % 64 * 64 + u % 64 = R
    have hv : Utf8.valid R = true := by simp [Utf8.valid]; omega
    simp only [Utf8.encode, hv, if_true]
    rw [if_neg (by omega), if_neg (by omega), if_neg (by omega)]
    simp only [bytesOf, List.map_cons, List.map_nil]
    rw [u8n x _ (by omega) (by omega), u8n y _ (by omega) (by omega), u8n z _ (by omega) (by omega), u8n u _ (by omega) (by omega)]

/-! ### Each -/
def EachIs (w : World) (l : List Int) (e : Ending) (w' : World) : Prop :=
  ∃ Bx A c, e = .returned (.func (.func 30) #[] #[.pointer (some ⟨Bx, 0, none⟩)]) ∧ w'.cell? ⟨Bx, 0, none⟩ = some (.slice A (clean l).length c) ∧ Kd.C (Kd.int .u8) w' A (clean l).length (clean l) ∧ Bx < w'.heap.size ∧ Below w.heap.size w w'
theorem each_calls (l : List Int) (A : Option Addr) (c : Nat) (w : World) (hp : Kd.C (Kd.int .u8) w A l.length l) (hc : l.length ≤ c) (hN : l.length ≤ 1099511627776) :
    Calls Try.prog 25 #[.slice A l.length c] w (EachIs w l) := by
  go_enter Try.func25, Try.ntmps25
  go_wp2_with fail
  refine (clean_calls l A c w hp hc hN).mono ?_
  rintro e w1 ⟨v1, rfl, ho1, hb1⟩
  obtain ⟨A1, c1, rfl, hc1, hC1⟩ := Kd.R_reads ho1
  go_wp2_with fail
  go_ret
  have hb := Boxed.new w1 22 (.slice A1 (clean l).length c1)
  exact ⟨w1.heap.size, A1, c1, rfl, hb.cell, Kd.C_below hC1 ((Below.refl _ _).alloc (Nat.le_refl _) _), by simp, hb1.alloc hb1.size _⟩
theorem each_stops (F : Fence) (n : Nat) (h30 : F.fn 30) (hro : F.round = none) (hn : 1 ≤ n) (Bx c : Nat) (A : Option Addr) (chs : List (List Int)) (hf : ∀ ch ∈ chs, Form ch) (w : World)
    (hBx : Bx < w.heap.size) (hm : w.cell? ⟨Bx, 0, none⟩ = some (.slice A chs.flatten.length c)) (hC : Kd.C (Kd.int .u8) w A chs.flatten.length chs.flatten) :
    SeqStopsK F n Try.prog 30 #[.pointer (some ⟨Bx, 0, none⟩)] (encN chs) KeepsWalks (fun xs => InOrder xs ∧ xs.length = chs.length) (fun pre => InOrder pre ∧ pre.length ≤ chs.length) chs.length w :=
  fun l J Jx W hW hJ _ hY h0 => each1_in F n h30 hro hn l Bx c A chs hf J Jx hY W hJ ((hW.cell (p := ⟨Bx, 0, none⟩) hBx).trans hm) (Kd.C_below hC hW) h0

section
variable {F : Fence} {n : Nat} {ops : Array Oper} {rest : List Oper} {o : Oper} {a : Act} {Q : Exit → Act → World → Prop}
/-- append of a text onto a row of the call's own, in a fence. -/
theorem appS_in {W : World} (base : Nat) (hbase : base ≤ W.heap.size) (hgd : o.guard = none) (s x : Operand) (ho : o.op = .call { callee := .builtin .append, args := #[s, x], argTypes := #[22, 9] })
    (v : Value) (xs : List Int) (y : ByteArray) (hs : a.eval s = v) (hx : a.eval x = .string y)
    (HO : Kd.R (Kd.int .u8) 5 W base (fun _ => True) v xs) (hl : xs.length + y.size ≤ 140737488355328)
    (h : ∀ v1 w1, Kd.R (Kd.int .u8) 5 w1 base (fun _ => True) v1 (xs ++ bytesOf y) → W.grownBy w1 v.ownBlock → wpListIn F n Try.prog ops Q rest (a.put o.dst v1) w1) :
    wpListIn F n Try.prog ops Q (o :: rest) a W := by
  obtain ⟨i0, hi, hz0, hz1, hz2⟩ := info_parts info5
  have HO' := Kd.own_of_R HO
  obtain ⟨v1, w1, hr, hown, hg, hat⟩ := run_append_str_at (P := Try.prog) W base 22 9 o.type 5 i0 Try.underlying22 Try.underlying9 hi hz0 hz1 hz2 v xs.length _ HO' y hl hbase
  refine wpListIn_plain hgd fun K hK => ?_
  unfold Oper.wpIn
  refine ⟨?_, ?_⟩
  · simp [Oper.about, ho, resolve, Target.leads, Sem.run_pure]
  · rw [Oper.semAt_plain F _ _ (by rw [ho]; intro c hc'; cases hc')]
    unfold execOp
    simp only [ho, resolve, invoke, builtin, Sem.run_bind, Sem.run_pure, Result.andThen_ok, List.map_toArray, List.map_cons, List.map_nil, hs, hx, hr]
    refine hK _ _ (h v1 w1 (Kd.R_of_own ?_ (fun _ _ => trivial)) hg)
    have hl2 : (xs ++ bytesOf y).length = xs.length + y.size := by rw [List.length_append, bytesOf_length]
    have hc : encs (Value.int .u8) (xs ++ bytesOf y) = encs (Value.int .u8) xs ++ Lib.strCells y := by
      rw [encs_append]
      congr 1
      simp [encs, bytesOf, Lib.strCells]
    rw [hl2, hc]
    exact hown
end
end Go.Proofs.Ytdpnnglfaofjeaa.U

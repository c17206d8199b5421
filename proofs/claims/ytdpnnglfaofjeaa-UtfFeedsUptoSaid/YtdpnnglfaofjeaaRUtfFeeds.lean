/- Of every chunks and ends of bulk at most 1048576: the law UtfFeeds returns true and leaves its arguments alone. -/
import Derived.Test.YtdpnnglfaofjeaaY
import Derived.Test.YtdpnnglfaofjeaaO
import Derived.WalkKit
import Derived.ProofKit
import Derived.OpenShut
import Derived.ShutString
import Derived.ChangeOld
import Derived.Below
import Derived.JoinedCond
namespace Go.Proofs.Ytdpnnglfaofjeaa.utfFeedsRow
open Go.ChangeShapes Go.WideShapes Go.ChangeAt Go.RowKit Opening Go.Proofs.YtdpnnglfaofjeaaW.PrintWords
open Go.ChangeMaps (open_string shut_string)
open PUtf U
set_option linter.unusedVariables false
set_option linter.unusedSimpArgs false

theorem own : ownKnob Try.prog.godebug = none := by kernel_rfl
theorem laidOut : laidOutB Try.prog = true := by kernel_rfl

theorem contract (H : Type) (enc : TypeId × Value → H) (W : World) (base : Nat) (args : Array Value) (ds gs : List (DataW H)) (before : List MemPlace)
    (hval : ∀ (j : Nat) t v, Try.f4.params[j]? = some t → args[j]? = some v → Value.okWide Try.prog W .any base t v)
    (hW : DataW.Whole enc Try.prog Try.f4.params.toList Rows.utfFeedsSpec.vars false W args.toList ds gs before) (hk : Rows.uptoSmall H (ds ++ gs) = true) :
    Calls Try.prog 4 args W fun e W' => ∃ v, e = .returned v ∧ Rows.utfFeedsSpec.post enc Try.prog Try.f4 false true false false W args v W' := by
  have hW' := hW
  obtain ⟨p, q, hA0, hV, rfl, hfz, hnd⟩ := hW
  have hA : DataW.TrodAll enc Try.prog W 0 (fun _ => true) true Try.f4.params.toList args.toList ds p := hA0
  rw [Try.params4] at hA hval
  obtain ⟨v0, vs0, d0, ds0, p0, q0, hargs, rfl, rfl, h0, r0⟩ := trodAll_cons hA
  obtain ⟨v1, vs1, d1, ds1, p1, q1, rfl, rfl, rfl, h1, r1⟩ := trodAll_cons r0
  obtain ⟨rfl, rfl, rfl⟩ := trodAll_nil r1
  obtain rfl : args = #[v0, v1] := by cases args; simp_all
  obtain ⟨rfl, rfl⟩ := trodVars_none hV
  obtain ⟨A0, len0, cap0, rfl⟩ := okWide_slice Try.underlying27 (hval 0 27 v0 rfl rfl)
  have k0 := h0
  have lt0 : ∀ x ∈ p0, x.block < W.heap.size := by obtain ⟨m, hm⟩ := k0; exact DataW.trod_lt m _ _ _ hm
  obtain ⟨l0, ⟨B0, c0, e0, hc0, hr0⟩, g0, b0⟩ := (have ⟨_, hf⟩ := h0; opens_slice (d := Kd.slice 5 (Kd.int .u8)) Try.underlying27 (by kernel_rfl) (opens_slice (d := Kd.int .u8) Try.underlying22 (by kernel_rfl) (opens_int Try.underlying5)) hf)
  simp only [Value.cells, List.cons.injEq, Value.slice.injEq, and_true] at e0
  obtain ⟨rfl, rfl, rfl⟩ := e0
  obtain ⟨A1, len1, cap1, rfl⟩ := okWide_slice Try.underlying28 (hval 1 28 v1 rfl rfl)
  have k1 := h1
  have lt1 : ∀ x ∈ p1, x.block < W.heap.size := by obtain ⟨m, hm⟩ := k1; exact DataW.trod_lt m _ _ _ hm
  obtain ⟨l1, ⟨B1, c1, e1, hc1, hr1⟩, g1, b1⟩ := (have ⟨_, hf⟩ := h1; opens_slice (d := Kd.bool) Try.underlying28 (by kernel_rfl) (opens_bool Try.underlying4) hf)
  simp only [Value.cells, List.cons.injEq, Value.slice.injEq, and_true] at e1
  obtain ⟨rfl, rfl, rfl⟩ := e1
  replace b0 : (l0.map fun q => (q.map fun _ => 1).sum + 1).sum + 1 ≤ Rows.uptoBulk d0 := b0
  replace b1 : (l1.map fun _ => 1).sum + 1 ≤ Rows.uptoBulk d1 := b1
  have hbk : Rows.uptoBulkAll ([d0, d1] ++ []) ≤ 1048576 := of_decide_eq_true hk
  have hsz : ((l0.map fun q => (q.map fun _ => 1).sum + 1).sum + 1) + ((l1.map fun _ => 1).sum + 1) ≤ 1048576 := by
    simp only [List.append_nil, Rows.uptoBulkAll, Rows.uptoBulk] at hbk
    omega
  clear hbk hk
  have hwalk : Calls Try.prog 4 #[.slice A0 l0.length cap0, .slice A1 l1.length cap1] W fun e W' => e = .returned (.bool true) ∧ Below W.heap.size W W' := by
    clear hW' hA0 hval k0 k1 h0 h1
    exact feeds_calls l0 l1 _ _ _ _ W hr0 hc0 hr1 hc1 (by have := chunk_sum l0; omega)
  refine hwalk.mono fun e W' ⟨he, bel⟩ => ?_
  subst he
  exact ⟨_, rfl, _, _, _, [], _, [], hW', trodAll_mk1 (shut_bool Try.underlying4 _), (trodAll_cons_mk (Below.trod laidOut (by kernel_rfl) (of_decide_eq_true (by kernel_rfl)) k0 bel lt0) (trodAll_cons_mk (Below.trod laidOut (by kernel_rfl) (of_decide_eq_true (by kernel_rfl)) k1 bel lt1) trodAll_mk0)), rfl, bel.frame _, fun h => by cases h⟩

set_option maxRecDepth 100000 in
theorem lifted (os : Os) (started : os.Started) (H : Type) (enc : TypeId × Value → H) (F : Stop.Interp) :
    ReturnsInHanded {} Try.checked os 4 .any ((Rows.OpenSpec.upto Rows.utfFeedsSpec).pre6 enc Try.prog Try.f4 Rows.utfFeedsUptoRow.domain false) (((Rows.OpenSpec.upto Rows.utfFeedsSpec).at F).post enc Try.prog Try.f4 false true false false) := by
  refine returnsInHanded_of_cond (C := Try.checked) (s := Rows.OpenSpec.upto Rows.utfFeedsSpec) (k := Rows.uptoSmall) rfl own started (by kernel_rfl) Try.func4
    (OpenSpec.witness (enc := enc) (C := Try.checked) (s := Rows.OpenSpec.upto Rows.utfFeedsSpec) (k := Rows.uptoSmall) rfl false ⟨#[], #[.slice none 0 0, .slice none 0 0], []⟩ 8 (by kernel_rfl) (by kernel_rfl) (by kernel_rfl)
      (x := ([.nil, .nil], [], [])) (by kernel_rfl) rfl (by kernel_rfl)) ?_
  intro W base args ds gs before hval hW _ hk _
  exact contract H enc W base args ds gs before hval hW hk

theorem over : Rows.utfFeedsUptoRow.holds Try.pinned (Rows.OpenSpec.upto Rows.utfFeedsSpec) :=
  OpenClaim.holds_of_cond 4 Try.f4 rfl rfl rfl rfl rfl rfl rfl ⟨rfl, rfl, rfl, rfl, rfl⟩ rfl rfl rfl rfl rfl (by kernel_rfl) Try.func4 (by kernel_rfl)
    (of_decide_eq_true (by kernel_rfl)) (by unfold Func.isWrapper; first | (rw [if_pos (by decide +kernel)]; kernel_rfl) | (rw [if_neg (by decide +kernel)]; exact ⟨rfl, rfl⟩))
    (fun os started H enc _ F => lifted os started H enc F)
end Go.Proofs.Ytdpnnglfaofjeaa.utfFeedsRow
namespace Go.Proofs.Ytdpnnglfaofjeaa
theorem utfFeeds_upto : Rows.UtfFeedsUptoSaid := utfFeedsRow.over
#print axioms utfFeeds_upto
end Go.Proofs.Ytdpnnglfaofjeaa

/- Of every chunks and ends of bulk at most 1048576: the law SchemeGates returns true and leaves its arguments alone. -/
import Derived.Test.YtdpnnglfaofjeaaDoorSW
import Derived.Test.YtdpnnglfaofjeaaDoorSM
import Derived.Test.YtdpnnglfaofjeaaDoorO
import Derived.Test.YtdpnnglfaofjeaaDoorCards
import Derived.Test.YtdpnnglfaofjeaaDoorMI
import Derived.Test.YtdpnnglfaofjeaaDoorTie
import Derived.Deep.DeepHandedRow
import Derived.Lib.LaidTab
import Derived.LaidSub
import Derived.Lay
import Derived.WalkKit
import Derived.ProofKit
import Derived.OpenShut
import Derived.ShutString
import Derived.ChangeOld
import Derived.Below
import Derived.JoinedCond
namespace Go.Proofs.YtdpnnglfaofjeaaDoor.schemeGatesRow
open Go.ChangeShapes Go.WideShapes Go.ChangeAt Go.RowKit Opening Go.Proofs.YtdpnnglfaofjeaaDoorW.PrintWords
open Go.ChangeMaps (open_string shut_string)
open Z
set_option linter.unusedVariables false
set_option maxRecDepth 100000
set_option linter.unusedSimpArgs false

theorem own : ownKnob Tryd.prog.godebug = none := by kernel_rfl
theorem laidOut : laidOutB Tryd.prog = true := by kernel_rfl


theorem contract (H : Type) (enc : TypeId × Value → H) (W : World) (base : Nat) (args : Array Value) (ds gs : List (DataW H)) (before : List MemPlace)
    (hval : ∀ (j : Nat) t v, Tryd.f14.params[j]? = some t → args[j]? = some v → Value.okWide Tryd.prog W .any base t v)
    (hW : DataW.Whole enc Tryd.prog Tryd.f14.params.toList Rows.schemeGatesSpec.vars false W args.toList ds gs before) (hk : Rows.uptoSmall H (ds ++ gs) = true) (hL : laidMetH Tryd.prog Rows.schemeGatesUptoRow.laid W) (hsh : W.ShapedOpen Tryd.prog) :
    Calls Tryd.prog 14 args W fun e W' => ∃ v, e = .returned v ∧ Rows.schemeGatesSpec.post enc Tryd.prog Tryd.f14 false true false false W args v W' := by
  have hW' := hW
  obtain ⟨p, q, hA0, hV, rfl, hfz, hnd⟩ := hW
  have hA : DataW.TrodAll enc Tryd.prog W 0 (fun _ => true) true Tryd.f14.params.toList args.toList ds p := hA0
  rw [Tryd.params14] at hA hval
  obtain ⟨v0, vs0, d0, ds0, p0, q0, hargs, rfl, rfl, h0, r0⟩ := trodAll_cons hA
  obtain ⟨v1, vs1, d1, ds1, p1, q1, rfl, rfl, rfl, h1, r1⟩ := trodAll_cons r0
  obtain ⟨rfl, rfl, rfl⟩ := trodAll_nil r1
  obtain rfl : args = #[v0, v1] := by cases args; simp_all
  obtain ⟨rfl, rfl⟩ := trodVars_none hV
  obtain ⟨A0, len0, cap0, rfl⟩ := okWide_slice Tryd.underlying38 (hval 0 38 v0 rfl rfl)
  have k0 := h0
  have lt0 : ∀ x ∈ p0, x.block < W.heap.size := by obtain ⟨m, hm⟩ := k0; exact DataW.trod_lt m _ _ _ hm
  obtain ⟨l0, ⟨B0, c0, e0, hc0, hr0⟩, g0, b0⟩ := (have ⟨_, hf⟩ := h0; opens_slice (d := Kd.slice 5 (Kd.int .u8)) Tryd.underlying38 (by kernel_rfl) (opens_slice (d := Kd.int .u8) Tryd.underlying22 (by kernel_rfl) (opens_int Tryd.underlying5)) hf)
  simp only [Value.cells, List.cons.injEq, Value.slice.injEq, and_true] at e0
  obtain ⟨rfl, rfl, rfl⟩ := e0
  obtain ⟨A1, len1, cap1, rfl⟩ := okWide_slice Tryd.underlying39 (hval 1 39 v1 rfl rfl)
  have k1 := h1
  have lt1 : ∀ x ∈ p1, x.block < W.heap.size := by obtain ⟨m, hm⟩ := k1; exact DataW.trod_lt m _ _ _ hm
  obtain ⟨l1, ⟨B1, c1, e1, hc1, hr1⟩, g1, b1⟩ := (have ⟨_, hf⟩ := h1; opens_slice (d := Kd.bool) Tryd.underlying39 (by kernel_rfl) (opens_bool Tryd.underlying4) hf)
  simp only [Value.cells, List.cons.injEq, Value.slice.injEq, and_true] at e1
  obtain ⟨rfl, rfl, rfl⟩ := e1
  replace b0 : (l0.map fun q => (q.map fun _ => 1).sum + 1).sum + 1 ≤ Rows.uptoBulk d0 := b0
  replace b1 : (l1.map fun _ => 1).sum + 1 ≤ Rows.uptoBulk d1 := b1
  have hbk : Rows.uptoBulkAll ([d0, d1] ++ []) ≤ 1048576 := of_decide_eq_true hk
  have hsz : ((l0.map fun q => (q.map fun _ => 1).sum + 1).sum + 1) + ((l1.map fun _ => 1).sum + 1) ≤ 1048576 := by
    simp only [List.append_nil, Rows.uptoBulkAll, Rows.uptoBulk] at hbk
    omega
  clear hbk hk
  have hwalk : Calls Tryd.prog 14 #[.slice A0 l0.length cap0, .slice A1 l1.length cap1] W fun e W' => e = .returned (.bool true) ∧ Below W.heap.size W W' := by
    clear hW' hA0 hval k0 k1 h0 h1
    have hm0 := chunk_sum2 l0
    exact gates_calls l0 l1 _ _ _ _ W hr0 hc0 hr1 hc1 (by omega) (rows_small (fun v hv x hx => u8_range ((g0.2 v hv).2 x hx))) (schOK hL hsh)
  refine hwalk.mono fun e W' ⟨he, bel⟩ => ?_
  subst he
  exact ⟨_, rfl, _, _, _, [], _, [], hW', trodAll_mk1 (shut_bool Tryd.underlying4 _), (trodAll_cons_mk (Below.trod laidOut (by kernel_rfl) (of_decide_eq_true (by kernel_rfl)) k0 bel lt0) (trodAll_cons_mk (Below.trod laidOut (by kernel_rfl) (of_decide_eq_true (by kernel_rfl)) k1 bel lt1) trodAll_mk0)), rfl, bel.frame _, fun h => by cases h⟩

noncomputable def laidW (os : Os) : World := World.laidAll Tryd.prog os Rows.schemeGatesUptoRow.laid
theorem laid_met (os : Os) : laidMet Tryd.prog Rows.schemeGatesUptoRow.laid ((laidW os).forCall (fun _ _ => 0) ⟨#[], #[.slice none 0 0, .slice none 0 0], []⟩).memory :=
  laidMet_laidAll #[.slice none 0 0, .slice none 0 0] (by kernel_rfl) (by kernel_rfl)
theorem reads (os : Os) {H : Type} (enc : TypeId × Value → H) : ∃ places, DataW.whole enc Tryd.prog ((laidW os).forCall (fun _ _ => 0) ⟨#[], #[.slice none 0 0, .slice none 0 0], []⟩).memory Tryd.f14.params.toList Rows.schemeGatesSpec.vars false (#[.slice none 0 0, .slice none 0 0] : Array Value).toList 8 = some ([.nil, .nil], [], places) :=
  ⟨[], by kernel_rfl⟩
set_option maxRecDepth 100000 in
theorem lifted (os : Os) (started : os.Started) (H : Type) (enc : TypeId × Value → H) (F : Stop.Interp) :
    ReturnsInHanded {} Tryd.checked os 14 .any ((Rows.OpenSpec.upto Rows.schemeGatesSpec).preRow enc Tryd.prog Tryd.f14 Rows.schemeGatesUptoRow.domain false Rows.schemeGatesUptoRow.laid) (((Rows.OpenSpec.upto Rows.schemeGatesSpec).at F).post enc Tryd.prog Tryd.f14 false true false false) := by
  obtain ⟨places, hx⟩ := reads os enc
  refine returnsInHanded_of_row (C := Tryd.checked) (s := (Rows.OpenSpec.upto Rows.schemeGatesSpec)) own started (by kernel_rfl) Tryd.func14
    (witness_row_at (enc := enc) (C := Tryd.checked) false (laidW os) #[.slice none 0 0, .slice none 0 0] (World.laidAll_os _ _ _) (by kernel_rfl) (by kernel_rfl) (by kernel_rfl)
      (OpenSpec.preRow_of_cond 8 hx (by kernel_rfl) (fun k hk => by cases hk; kernel_rfl) (by kernel_rfl) (laid_met os))) ?_
  intro W base args ds gs before hval hW _ hcond _ hL hsh _
  exact contract H enc W base args ds gs before hval hW (hcond _ rfl) hL hsh
theorem fact1 : Tryd.prog.funcNamed Rows.schemeGatesUptoRow.func = some 14 := by kernel_rfl
theorem andI {a b : Bool} (h : a = true) (k : b = true) : (a && b) = true := by rw [h, k]; rfl
theorem cf0 : (Rows.schemeGatesUptoRow.wf (OpenSpec.ofChange ((Rows.OpenSpec.upto Rows.schemeGatesSpec).bare))) = true := by kernel_rfl
theorem cf1 : (laidOutB Tryd.prog) = true := by kernel_rfl
theorem cf2 : (mapsRowed Tryd.prog) = true := by kernel_rfl
theorem cf3 : (Tryd.f14.params.all (Tryd.prog.readableRec ·)) = true := by kernel_rfl
theorem cf4 : (namedTie Tryd.prog Rows.schemeGatesUptoRow.named ((Rows.OpenSpec.upto Rows.schemeGatesSpec).bare).vars) = true := by kernel_rfl
theorem cf5 : ((Rows.schemeGatesUptoRow.stops == [])) = true := by kernel_rfl
theorem cf6 : ((Tryd.prog.stops == [])) = true := by kernel_rfl
theorem cf7 : ((Rows.schemeGatesUptoRow.knobs == [])) = true := by kernel_rfl
theorem cf8 : ((Tryd.prog.stopKnobs == [])) = true := by kernel_rfl
theorem cf9 : ((Rows.schemeGatesUptoRow.inPlace == Tryd.prog.inPlace 14)) = true := by kernel_rfl
theorem cf10 : ((Rows.schemeGatesUptoRow.unfollowed == Tryd.prog.unfollowed 14)) = true := by kernel_rfl
theorem cf11 : ((Rows.schemeGatesUptoRow.recurses == Tryd.prog.recurses 14)) = true := by kernel_rfl
theorem cf12 : ((Rows.schemeGatesUptoRow.named == Tryd.prog.varsNamed 14)) = true := by kernel_rfl
theorem cf13 : ((Rows.schemeGatesUptoRow.maps == (Tryd.f14.params.toList ++ ((Rows.OpenSpec.upto Rows.schemeGatesSpec).bare).plain.varTypes Tryd.prog).any (Tryd.prog.mapsRec ·))) = true := by kernel_rfl
theorem cf14 : ((Rows.schemeGatesUptoRow.ifaces == (Tryd.f14.params.toList ++ ((Rows.OpenSpec.upto Rows.schemeGatesSpec).bare).plain.varTypes Tryd.prog).any (Tryd.prog.ifacesRec ·))) = true := by kernel_rfl
theorem cf15 : ((Rows.schemeGatesUptoRow.mapsOut == Tryd.prog.mapsAmong Tryd.f14.resultTypes.toList)) = true := by kernel_rfl
theorem cf16 : ((Rows.schemeGatesUptoRow.loops == (Tryd.f14.params.toList ++ ((Rows.OpenSpec.upto Rows.schemeGatesSpec).bare).plain.varTypes Tryd.prog).any (Tryd.prog.loopsFrom ·))) = true := by kernel_rfl
theorem cf17 : ((Rows.schemeGatesUptoRow.wideKeys == (Tryd.f14.params.toList ++ ((Rows.OpenSpec.upto Rows.schemeGatesSpec).bare).plain.varTypes Tryd.prog ++ Tryd.f14.resultTypes.toList).any (Tryd.prog.wideKeysFrom ·))) = true := by kernel_rfl
theorem cf18 : (((Rows.OpenSpec.upto Rows.schemeGatesSpec).bare).vars.all (Tryd.prog.varReadable ·)) = true := by kernel_rfl
theorem cf19 : (Tryd.f14.resultTypes.all (fun t => Tryd.prog.readableRec t && decide (t < Tryd.prog.types.size))) = true := by kernel_rfl
theorem cf20 : ((Rows.schemeGatesUptoRow.ifacesOut == Tryd.f14.resultTypes.toList.any (Tryd.prog.ifacesRec ·))) = true := by kernel_rfl
theorem cf21 : ((Rows.schemeGatesUptoRow.loopsOut == Tryd.f14.resultTypes.toList.any (Tryd.prog.loopsFrom ·))) = true := by kernel_rfl
theorem cf22 : ((Rows.schemeGatesUptoRow.plainKeys == Tryd.prog.plainKeys)) = true := by kernel_rfl
theorem cf23 : (Rows.schemeGatesUptoRow.shortTexts.isNone) = true := by kernel_rfl
theorem cf24 : (Tryd.prog.stopsHeard) = true := by kernel_rfl
theorem cf25 : (Tryd.prog.mayEnter) = true := by kernel_rfl
theorem cf26 : ((Rows.schemeGatesUptoRow.lifted == Tryd.prog.liftsFinal)) = true := by kernel_rfl
theorem cf27 : ((Tryd.prog.make == some Rows.schemeGatesUptoRow.make)) = true := by kernel_rfl
theorem cf28 : ((Rows.schemeGatesUptoRow.kinds == (if Rows.schemeGatesUptoRow.domain.isEmpty then [] else Tryd.f14.params.toList.map fun t => match Tryd.prog.underlying t with | some (.int k) => some k | _ => none))) = true := by kernel_rfl
theorem cf29 : ((Rows.schemeGatesUptoRow.pinned == Rows.schemeGatesUptoRow.pinnedBy)) = true := by kernel_rfl
theorem cf30 : ((Rows.schemeGatesUptoRow.veiled == (Tryd.f14.params.toList ++ ((Rows.OpenSpec.upto Rows.schemeGatesSpec).bare).plain.varTypes Tryd.prog ++ Tryd.f14.resultTypes.toList).any (Tryd.prog.veiledRec ·))) = true := by kernel_rfl
theorem cf31 : (Rows.schemeGatesUptoRow.veiledFits Tryd.prog Tryd.f14.params.toList (Tryd.f14.params.toList ++ ((Rows.OpenSpec.upto Rows.schemeGatesSpec).bare).plain.varTypes Tryd.prog ++ Tryd.f14.resultTypes.toList)) = true := by kernel_rfl
set_option maxRecDepth 100000 in
theorem fact2 : joinedFacts Tryd.prog 14 Tryd.f14 (Rows.OpenSpec.upto Rows.schemeGatesSpec).bare Rows.schemeGatesUptoRow = true := by
  unfold joinedFacts
  exact (andI (andI (andI (andI (andI (andI (andI (andI (andI (andI (andI (andI (andI (andI (andI (andI (andI (andI (andI (andI (andI (andI (andI (andI (andI (andI (andI (andI (andI (andI (andI cf0 cf1) cf2) cf3) cf4) cf5) cf6) cf7) cf8) cf9) cf10) cf11) cf12) cf13) cf14) cf15) cf16) cf17) cf18) cf19) cf20) cf21) cf22) cf23) cf24) cf25) cf26) cf27) cf28) cf29) cf30) cf31)
theorem fact3 : Tryd.f14.isInstance Tryd.prog Rows.schemeGatesUptoRow.origin Rows.schemeGatesUptoRow.targs := of_decide_eq_true (by kernel_rfl)
theorem fact4 : Tryd.f14.isWrapper Tryd.prog Rows.schemeGatesUptoRow.wrapper Rows.schemeGatesUptoRow.mainSum := by
  unfold Func.isWrapper; first | (rw [if_pos (by decide +kernel)]; kernel_rfl) | (rw [if_neg (by decide +kernel)]; exact ⟨rfl, rfl⟩)
theorem step (os : Os) (started : os.Started) (H : Type) (enc : TypeId × Value → H) (F : Stop.Interp) :
    ReturnsInHanded Rows.schemeGatesUptoRow.assume Tryd.checked os 14 .any (Rows.schemeGatesUptoRow.pre enc Tryd.prog Tryd.f14 (Rows.OpenSpec.upto Rows.schemeGatesSpec)) (((Rows.OpenSpec.upto Rows.schemeGatesSpec).at F).post enc Tryd.prog Tryd.f14 Rows.schemeGatesUptoRow.apart Rows.schemeGatesUptoRow.fresh Rows.schemeGatesUptoRow.handsOn Rows.schemeGatesUptoRow.again) := by
  rw [OpenClaim.pre_eq_preRow]; exact lifted os started H enc F
theorem said : Rows.SchemeGatesUptoSaid :=
  OpenClaim.holds_of_cond (p := Tryd.pinned) (c := Rows.schemeGatesUptoRow) (s := (Rows.OpenSpec.upto Rows.schemeGatesSpec)) 14 Tryd.f14 rfl rfl rfl rfl rfl rfl rfl ⟨rfl, rfl, rfl, rfl, rfl⟩ rfl rfl rfl rfl rfl fact1 Tryd.func14 fact2 fact3 fact4
    (fun os started H enc _ F => step os started H enc F)
theorem plain (f : FuncId) (fn : Func) (hf : Tryd.pinned.checked.prog.funcNamed "bobbin/bobbinlaw05.SchemeGates" = some f) (hfn : Tryd.pinned.checked.prog.funcs[f]? = some fn) :
    false = Tryd.pinned.checked.prog.looks [] ∧ ∀ (j : Nat) t, fn.params[j]? = some t → Tryd.pinned.checked.prog.wantsStandIn t = false := by
  obtain rfl : f = 14 := Option.some.inj ((show Tryd.prog.funcNamed "bobbin/bobbinlaw05.SchemeGates" = some 14 by kernel_rfl).symm.trans hf) |>.symm
  obtain rfl : fn = Tryd.f14 := (Option.some.inj (Tryd.func14.symm.trans hfn)).symm
  refine ⟨by kernel_rfl, fun j t ht => ?_⟩
  have hall : Tryd.f14.params.all (fun t => Tryd.prog.wantsStandIn t == false) = true := by kernel_rfl
  exact eq_of_beq (Array.all_eq_true'.1 hall t (Array.mem_of_getElem? ht))
end Go.Proofs.YtdpnnglfaofjeaaDoor.schemeGatesRow
namespace Go.Proofs.YtdpnnglfaofjeaaDoor
theorem schemeGates_cw : Rows.schemeGatesUptoRow.wfByText (Rows.OpenSpec.upto Rows.schemeGatesSpec) = true := by kernel_rfl
theorem schemeGates_cg : false = Rows.schemeGatesUptoRow.goesBy Tryd.pinned.checked.prog := by kernel_rfl
theorem schemeGates_card : Rows.SchemeGatesUptoCardSaid :=
  Claim7.holds_tied_plain_at .later [] _ _ _ _ schemeGatesRow.said (fun _ h => by cases h) schemeGates_cw (fun _ h => by cases h) schemeGatesUpto_row_tie rfl ⟨rfl, rfl⟩ mainIs_fact rfl schemeGatesRow.plain schemeGates_cg
#print axioms schemeGates_card
end Go.Proofs.YtdpnnglfaofjeaaDoor

/- Of every name and rest of bulk at most 1048576: the law SchemeNames returns true and leaves its arguments alone. -/
import Derived.Test.YtdpnnglfaofjeaaDoorSQ
import Derived.Test.YtdpnnglfaofjeaaDoorSM
import Derived.Test.YtdpnnglfaofjeaaDoorO
import Derived.Test.YtdpnnglfaofjeaaDoorCards
import Derived.Test.YtdpnnglfaofjeaaDoorMI
import Derived.Test.YtdpnnglfaofjeaaDoorTie
import Derived.Deep.DeepHandedRow
import Derived.Lib.LaidTab
import Derived.LaidSub
import Derived.Lay
import Derived.WalkKit
import Derived.ProofKit
import Derived.OpenShut
import Derived.ShutString
import Derived.ChangeOld
import Derived.Below
import Derived.JoinedCond
namespace Go.Proofs.YtdpnnglfaofjeaaDoor.schemeNamesRow
open Go.ChangeShapes Go.WideShapes Go.ChangeAt Go.RowKit Opening Go.Proofs.YtdpnnglfaofjeaaDoorW.PrintWords
open Go.ChangeMaps (open_string shut_string)
open Z
set_option linter.unusedVariables false
set_option maxRecDepth 100000
set_option linter.unusedSimpArgs false

theorem own : ownKnob Tryd.prog.godebug = none := by kernel_rfl
theorem laidOut : laidOutB Tryd.prog = true := by kernel_rfl


theorem contract (H : Type) (enc : TypeId × Value → H) (W : World) (base : Nat) (args : Array Value) (ds gs : List (DataW H)) (before : List MemPlace)
    (hval : ∀ (j : Nat) t v, Tryd.f13.params[j]? = some t → args[j]? = some v → Value.okWide Tryd.prog W .any base t v)
    (hW : DataW.Whole enc Tryd.prog Tryd.f13.params.toList Rows.schemeNamesSpec.vars false W args.toList ds gs before) (hk : Rows.uptoSmall H (ds ++ gs) = true) (hL : laidMetH Tryd.prog Rows.schemeNamesUptoRow.laid W) (hsh : W.ShapedOpen Tryd.prog) :
    Calls Tryd.prog 13 args W fun e W' => ∃ v, e = .returned v ∧ Rows.schemeNamesSpec.post enc Tryd.prog Tryd.f13 false true false false W args v W' := by
  have hW' := hW
  obtain ⟨p, q, hA0, hV, rfl, hfz, hnd⟩ := hW
  have hA : DataW.TrodAll enc Tryd.prog W 0 (fun _ => true) true Tryd.f13.params.toList args.toList ds p := hA0
  rw [Tryd.params13] at hA hval
  obtain ⟨v0, vs0, d0, ds0, p0, q0, hargs, rfl, rfl, h0, r0⟩ := trodAll_cons hA
  obtain ⟨v1, vs1, d1, ds1, p1, q1, rfl, rfl, rfl, h1, r1⟩ := trodAll_cons r0
  obtain ⟨rfl, rfl, rfl⟩ := trodAll_nil r1
  obtain rfl : args = #[v0, v1] := by cases args; simp_all
  obtain ⟨rfl, rfl⟩ := trodVars_none hV
  obtain ⟨A0, len0, cap0, rfl⟩ := okWide_slice Tryd.underlying22 (hval 0 22 v0 rfl rfl)
  have k0 := h0
  have lt0 : ∀ x ∈ p0, x.block < W.heap.size := by obtain ⟨m, hm⟩ := k0; exact DataW.trod_lt m _ _ _ hm
  obtain ⟨l0, ⟨B0, c0, e0, hc0, hr0⟩, g0, b0⟩ := (have ⟨_, hf⟩ := h0; opens_slice (d := Kd.int .u8) Tryd.underlying22 (by kernel_rfl) (opens_int Tryd.underlying5) hf)
  simp only [Value.cells, List.cons.injEq, Value.slice.injEq, and_true] at e0
  obtain ⟨rfl, rfl, rfl⟩ := e0
  obtain ⟨A1, len1, cap1, rfl⟩ := okWide_slice Tryd.underlying22 (hval 1 22 v1 rfl rfl)
  have k1 := h1
  have lt1 : ∀ x ∈ p1, x.block < W.heap.size := by obtain ⟨m, hm⟩ := k1; exact DataW.trod_lt m _ _ _ hm
  obtain ⟨l1, ⟨B1, c1, e1, hc1, hr1⟩, g1, b1⟩ := (have ⟨_, hf⟩ := h1; opens_slice (d := Kd.int .u8) Tryd.underlying22 (by kernel_rfl) (opens_int Tryd.underlying5) hf)
  simp only [Value.cells, List.cons.injEq, Value.slice.injEq, and_true] at e1
  obtain ⟨rfl, rfl, rfl⟩ := e1
  replace b0 : (l0.map fun _ => 1).sum + 1 ≤ Rows.uptoBulk d0 := b0
  replace b1 : (l1.map fun _ => 1).sum + 1 ≤ Rows.uptoBulk d1 := b1
  have hbk : Rows.uptoBulkAll ([d0, d1] ++ []) ≤ 1048576 := of_decide_eq_true hk
  have hsz : ((l0.map fun _ => 1).sum + 1) + ((l1.map fun _ => 1).sum + 1) ≤ 1048576 := by
    simp only [List.append_nil, Rows.uptoBulkAll, Rows.uptoBulk] at hbk
    omega
  clear hbk hk
  have hwalk : Calls Tryd.prog 13 #[.slice A0 l0.length cap0, .slice A1 l1.length cap1] W fun e W' => e = .returned (.bool true) ∧ Below W.heap.size W W' := by
    clear hW' hA0 hval k0 k1 h0 h1
    have hm0 := sum_ones l0
    have hm1 := sum_ones l1
    exact names_calls l0 l1 _ _ _ _ W hr0 hc0 hr1 hc1 (bytes_small _ (fun x hx => u8_range (g0.2 x hx))) (bytes_small _ (fun x hx => u8_range (g1.2 x hx))) (by omega) (by omega) (schOK hL hsh)
  refine hwalk.mono fun e W' ⟨he, bel⟩ => ?_
  subst he
  exact ⟨_, rfl, _, _, _, [], _, [], hW', trodAll_mk1 (shut_bool Tryd.underlying4 _), (trodAll_cons_mk (Below.trod laidOut (by kernel_rfl) (of_decide_eq_true (by kernel_rfl)) k0 bel lt0) (trodAll_cons_mk (Below.trod laidOut (by kernel_rfl) (of_decide_eq_true (by kernel_rfl)) k1 bel lt1) trodAll_mk0)), rfl, bel.frame _, fun h => by cases h⟩

noncomputable def laidW (os : Os) : World := World.laidAll Tryd.prog os Rows.schemeNamesUptoRow.laid
theorem laid_met (os : Os) : laidMet Tryd.prog Rows.schemeNamesUptoRow.laid ((laidW os).forCall (fun _ _ => 0) ⟨#[], #[.slice none 0 0, .slice none 0 0], []⟩).memory :=
  laidMet_laidAll #[.slice none 0 0, .slice none 0 0] (by kernel_rfl) (by kernel_rfl)
theorem reads (os : Os) {H : Type} (enc : TypeId × Value → H) : ∃ places, DataW.whole enc Tryd.prog ((laidW os).forCall (fun _ _ => 0) ⟨#[], #[.slice none 0 0, .slice none 0 0], []⟩).memory Tryd.f13.params.toList Rows.schemeNamesSpec.vars false (#[.slice none 0 0, .slice none 0 0] : Array Value).toList 8 = some ([.nil, .nil], [], places) :=
  ⟨[], by kernel_rfl⟩
set_option maxRecDepth 100000 in
theorem lifted (os : Os) (started : os.Started) (H : Type) (enc : TypeId × Value → H) (F : Stop.Interp) :
    ReturnsInHanded {} Tryd.checked os 13 .any ((Rows.OpenSpec.upto Rows.schemeNamesSpec).preRow enc Tryd.prog Tryd.f13 Rows.schemeNamesUptoRow.domain false Rows.schemeNamesUptoRow.laid) (((Rows.OpenSpec.upto Rows.schemeNamesSpec).at F).post enc Tryd.prog Tryd.f13 false true false false) := by
  obtain ⟨places, hx⟩ := reads os enc
  refine returnsInHanded_of_row (C := Tryd.checked) (s := (Rows.OpenSpec.upto Rows.schemeNamesSpec)) own started (by kernel_rfl) Tryd.func13
    (witness_row_at (enc := enc) (C := Tryd.checked) false (laidW os) #[.slice none 0 0, .slice none 0 0] (World.laidAll_os _ _ _) (by kernel_rfl) (by kernel_rfl) (by kernel_rfl)
      (OpenSpec.preRow_of_cond 8 hx (by kernel_rfl) (fun k hk => by cases hk; kernel_rfl) (by kernel_rfl) (laid_met os))) ?_
  intro W base args ds gs before hval hW _ hcond _ hL hsh _
  exact contract H enc W base args ds gs before hval hW (hcond _ rfl) hL hsh
theorem fact1 : Tryd.prog.funcNamed Rows.schemeNamesUptoRow.func = some 13 := by kernel_rfl
theorem andI {a b : Bool} (h : a = true) (k : b = true) : (a && b) = true := by rw [h, k]; rfl
theorem cf0 : (Rows.schemeNamesUptoRow.wf (OpenSpec.ofChange ((Rows.OpenSpec.upto Rows.schemeNamesSpec).bare))) = true := by kernel_rfl
theorem cf1 : (laidOutB Tryd.prog) = true := by kernel_rfl
theorem cf2 : (mapsRowed Tryd.prog) = true := by kernel_rfl
theorem cf3 : (Tryd.f13.params.all (Tryd.prog.readableRec ·)) = true := by kernel_rfl
theorem cf4 : (namedTie Tryd.prog Rows.schemeNamesUptoRow.named ((Rows.OpenSpec.upto Rows.schemeNamesSpec).bare).vars) = true := by kernel_rfl
theorem cf5 : ((Rows.schemeNamesUptoRow.stops == [])) = true := by kernel_rfl
theorem cf6 : ((Tryd.prog.stops == [])) = true := by kernel_rfl
theorem cf7 : ((Rows.schemeNamesUptoRow.knobs == [])) = true := by kernel_rfl
theorem cf8 : ((Tryd.prog.stopKnobs == [])) = true := by kernel_rfl
theorem cf9 : ((Rows.schemeNamesUptoRow.inPlace == Tryd.prog.inPlace 13)) = true := by kernel_rfl
theorem cf10 : ((Rows.schemeNamesUptoRow.unfollowed == Tryd.prog.unfollowed 13)) = true := by kernel_rfl
theorem cf11 : ((Rows.schemeNamesUptoRow.recurses == Tryd.prog.recurses 13)) = true := by kernel_rfl
theorem cf12 : ((Rows.schemeNamesUptoRow.named == Tryd.prog.varsNamed 13)) = true := by kernel_rfl
theorem cf13 : ((Rows.schemeNamesUptoRow.maps == (Tryd.f13.params.toList ++ ((Rows.OpenSpec.upto Rows.schemeNamesSpec).bare).plain.varTypes Tryd.prog).any (Tryd.prog.mapsRec ·))) = true := by kernel_rfl
theorem cf14 : ((Rows.schemeNamesUptoRow.ifaces == (Tryd.f13.params.toList ++ ((Rows.OpenSpec.upto Rows.schemeNamesSpec).bare).plain.varTypes Tryd.prog).any (Tryd.prog.ifacesRec ·))) = true := by kernel_rfl
theorem cf15 : ((Rows.schemeNamesUptoRow.mapsOut == Tryd.prog.mapsAmong Tryd.f13.resultTypes.toList)) = true := by kernel_rfl
theorem cf16 : ((Rows.schemeNamesUptoRow.loops == (Tryd.f13.params.toList ++ ((Rows.OpenSpec.upto Rows.schemeNamesSpec).bare).plain.varTypes Tryd.prog).any (Tryd.prog.loopsFrom ·))) = true := by kernel_rfl
theorem cf17 : ((Rows.schemeNamesUptoRow.wideKeys == (Tryd.f13.params.toList ++ ((Rows.OpenSpec.upto Rows.schemeNamesSpec).bare).plain.varTypes Tryd.prog ++ Tryd.f13.resultTypes.toList).any (Tryd.prog.wideKeysFrom ·))) = true := by kernel_rfl
theorem cf18 : (((Rows.OpenSpec.upto Rows.schemeNamesSpec).bare).vars.all (Tryd.prog.varReadable ·)) = true := by kernel_rfl
theorem cf19 : (Tryd.f13.resultTypes.all (fun t => Tryd.prog.readableRec t && decide (t < Tryd.prog.types.size))) = true := by kernel_rfl
theorem cf20 : ((Rows.schemeNamesUptoRow.ifacesOut == Tryd.f13.resultTypes.toList.any (Tryd.prog.ifacesRec ·))) = true := by kernel_rfl
theorem cf21 : ((Rows.schemeNamesUptoRow.loopsOut == Tryd.f13.resultTypes.toList.any (Tryd.prog.loopsFrom ·))) = true := by kernel_rfl
theorem cf22 : ((Rows.schemeNamesUptoRow.plainKeys == Tryd.prog.plainKeys)) = true := by kernel_rfl
theorem cf23 : (Rows.schemeNamesUptoRow.shortTexts.isNone) = true := by kernel_rfl
theorem cf24 : (Tryd.prog.stopsHeard) = true := by kernel_rfl
theorem cf25 : (Tryd.prog.mayEnter) = true := by kernel_rfl
theorem cf26 : ((Rows.schemeNamesUptoRow.lifted == Tryd.prog.liftsFinal)) = true := by kernel_rfl
theorem cf27 : ((Tryd.prog.make == some Rows.schemeNamesUptoRow.make)) = true := by kernel_rfl
theorem cf28 : ((Rows.schemeNamesUptoRow.kinds == (if Rows.schemeNamesUptoRow.domain.isEmpty then [] else Tryd.f13.params.toList.map fun t => match Tryd.prog.underlying t with | some (.int k) => some k | _ => none))) = true := by kernel_rfl
theorem cf29 : ((Rows.schemeNamesUptoRow.pinned == Rows.schemeNamesUptoRow.pinnedBy)) = true := by kernel_rfl
theorem cf30 : ((Rows.schemeNamesUptoRow.veiled == (Tryd.f13.params.toList ++ ((Rows.OpenSpec.upto Rows.schemeNamesSpec).bare).plain.varTypes Tryd.prog ++ Tryd.f13.resultTypes.toList).any (Tryd.prog.veiledRec ·))) = true := by kernel_rfl
theorem cf31 : (Rows.schemeNamesUptoRow.veiledFits Tryd.prog Tryd.f13.params.toList (Tryd.f13.params.toList ++ ((Rows.OpenSpec.upto Rows.schemeNamesSpec).bare).plain.varTypes Tryd.prog ++ Tryd.f13.resultTypes.toList)) = true := by kernel_rfl
set_option maxRecDepth 100000 in
theorem fact2 : joinedFacts Tryd.prog 13 Tryd.f13 (Rows.OpenSpec.upto Rows.schemeNamesSpec).bare Rows.schemeNamesUptoRow = true := by
  unfold joinedFacts
  exact (andI (andI (andI (andI (andI (andI (andI (andI (andI (andI (andI (andI (andI (andI (andI (andI (andI (andI (andI (andI (andI (andI (andI (andI (andI (andI (andI (andI (andI (andI (andI cf0 cf1) cf2) cf3) cf4) cf5) cf6) cf7) cf8) cf9) cf10) cf11) cf12) cf13) cf14) cf15) cf16) cf17) cf18) cf19) cf20) cf21) cf22) cf23) cf24) cf25) cf26) cf27) cf28) cf29) cf30) cf31)
theorem fact3 : Tryd.f13.isInstance Tryd.prog Rows.schemeNamesUptoRow.origin Rows.schemeNamesUptoRow.targs := of_decide_eq_true (by kernel_rfl)
theorem fact4 : Tryd.f13.isWrapper Tryd.prog Rows.schemeNamesUptoRow.wrapper Rows.schemeNamesUptoRow.mainSum := by
  unfold Func.isWrapper; first | (rw [if_pos (by decide +kernel)]; kernel_rfl) | (rw [if_neg (by decide +kernel)]; exact ⟨rfl, rfl⟩)
theorem step (os : Os) (started : os.Started) (H : Type) (enc : TypeId × Value → H) (F : Stop.Interp) :
    ReturnsInHanded Rows.schemeNamesUptoRow.assume Tryd.checked os 13 .any (Rows.schemeNamesUptoRow.pre enc Tryd.prog Tryd.f13 (Rows.OpenSpec.upto Rows.schemeNamesSpec)) (((Rows.OpenSpec.upto Rows.schemeNamesSpec).at F).post enc Tryd.prog Tryd.f13 Rows.schemeNamesUptoRow.apart Rows.schemeNamesUptoRow.fresh Rows.schemeNamesUptoRow.handsOn Rows.schemeNamesUptoRow.again) := by
  rw [OpenClaim.pre_eq_preRow]; exact lifted os started H enc F
theorem said : Rows.SchemeNamesUptoSaid :=
  OpenClaim.holds_of_cond (p := Tryd.pinned) (c := Rows.schemeNamesUptoRow) (s := (Rows.OpenSpec.upto Rows.schemeNamesSpec)) 13 Tryd.f13 rfl rfl rfl rfl rfl rfl rfl ⟨rfl, rfl, rfl, rfl, rfl⟩ rfl rfl rfl rfl rfl fact1 Tryd.func13 fact2 fact3 fact4
    (fun os started H enc _ F => step os started H enc F)
theorem plain (f : FuncId) (fn : Func) (hf : Tryd.pinned.checked.prog.funcNamed "bobbin/bobbinlaw05.SchemeNames" = some f) (hfn : Tryd.pinned.checked.prog.funcs[f]? = some fn) :
    false = Tryd.pinned.checked.prog.looks [] ∧ ∀ (j : Nat) t, fn.params[j]? = some t → Tryd.pinned.checked.prog.wantsStandIn t = false := by
  obtain rfl : f = 13 := Option.some.inj ((show Tryd.prog.funcNamed "bobbin/bobbinlaw05.SchemeNames" = some 13 by kernel_rfl).symm.trans hf) |>.symm
  obtain rfl : fn = Tryd.f13 := (Option.some.inj (Tryd.func13.symm.trans hfn)).symm
  refine ⟨by kernel_rfl, fun j t ht => ?_⟩
  have hall : Tryd.f13.params.all (fun t => Tryd.prog.wantsStandIn t == false) = true := by kernel_rfl
  exact eq_of_beq (Array.all_eq_true'.1 hall t (Array.mem_of_getElem? ht))
end Go.Proofs.YtdpnnglfaofjeaaDoor.schemeNamesRow
namespace Go.Proofs.YtdpnnglfaofjeaaDoor
theorem schemeNames_cw : Rows.schemeNamesUptoRow.wfByText (Rows.OpenSpec.upto Rows.schemeNamesSpec) = true := by kernel_rfl
theorem schemeNames_cg : false = Rows.schemeNamesUptoRow.goesBy Tryd.pinned.checked.prog := by kernel_rfl
theorem schemeNames_card : Rows.SchemeNamesUptoCardSaid :=
  Claim7.holds_tied_plain_at .later [] _ _ _ _ schemeNamesRow.said (fun _ h => by cases h) schemeNames_cw (fun _ h => by cases h) schemeNamesUpto_row_tie rfl ⟨rfl, rfl⟩ mainIs_fact rfl schemeNamesRow.plain schemeNames_cg
#print axioms schemeNames_card
end Go.Proofs.YtdpnnglfaofjeaaDoor

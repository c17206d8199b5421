/- Of every value of bulk at most 1048576: the law SchemeSingles returns true and leaves its argument alone. -/
import Derived.Test.YtdpnnglfaofjeaaDoorSV
import Derived.Test.YtdpnnglfaofjeaaDoorSM
import Derived.Test.YtdpnnglfaofjeaaDoorO
import Derived.Test.YtdpnnglfaofjeaaDoorCards
import Derived.Test.YtdpnnglfaofjeaaDoorMI
import Derived.Test.YtdpnnglfaofjeaaDoorTie
import Derived.Deep.DeepHandedRow
import Derived.Lib.LaidTab
import Derived.LaidSub
import Derived.Lay
import Derived.WalkKit
import Derived.ProofKit
import Derived.OpenShut
import Derived.ShutString
import Derived.ChangeOld
import Derived.Below
import Derived.JoinedCond
namespace Go.Proofs.YtdpnnglfaofjeaaDoor.schemeSinglesRow
open Go.ChangeShapes Go.WideShapes Go.ChangeAt Go.RowKit Opening Go.Proofs.YtdpnnglfaofjeaaDoorW.PrintWords
open Go.ChangeMaps (open_string shut_string)
open Z
set_option linter.unusedVariables false
set_option maxRecDepth 100000
set_option linter.unusedSimpArgs false

theorem own : ownKnob Tryd.prog.godebug = none := by kernel_rfl
theorem laidOut : laidOutB Tryd.prog = true := by kernel_rfl


theorem contract (H : Type) (enc : TypeId × Value → H) (W : World) (base : Nat) (args : Array Value) (ds gs : List (DataW H)) (before : List MemPlace)
    (hval : ∀ (j : Nat) t v, Tryd.f16.params[j]? = some t → args[j]? = some v → Value.okWide Tryd.prog W .any base t v)
    (hW : DataW.Whole enc Tryd.prog Tryd.f16.params.toList Rows.schemeSinglesSpec.vars false W args.toList ds gs before) (hk : Rows.uptoSmall H (ds ++ gs) = true) (hL : laidMetH Tryd.prog Rows.schemeSinglesUptoRow.laid W) (hsh : W.ShapedOpen Tryd.prog) :
    Calls Tryd.prog 16 args W fun e W' => ∃ v, e = .returned v ∧ Rows.schemeSinglesSpec.post enc Tryd.prog Tryd.f16 false true false false W args v W' := by
  have hW' := hW
  obtain ⟨p, q, hA0, hV, rfl, hfz, hnd⟩ := hW
  have hA : DataW.TrodAll enc Tryd.prog W 0 (fun _ => true) true Tryd.f16.params.toList args.toList ds p := hA0
  rw [Tryd.params16] at hA hval
  obtain ⟨v0, vs0, d0, ds0, p0, q0, hargs, rfl, rfl, h0, r0⟩ := trodAll_cons hA
  obtain ⟨rfl, rfl, rfl⟩ := trodAll_nil r0
  obtain rfl : args = #[v0] := by cases args; simp_all
  obtain ⟨rfl, rfl⟩ := trodVars_none hV
  obtain ⟨A0, len0, cap0, rfl⟩ := okWide_slice Tryd.underlying22 (hval 0 22 v0 rfl rfl)
  have k0 := h0
  have lt0 : ∀ x ∈ p0, x.block < W.heap.size := by obtain ⟨m, hm⟩ := k0; exact DataW.trod_lt m _ _ _ hm
  obtain ⟨l0, ⟨B0, c0, e0, hc0, hr0⟩, g0, b0⟩ := (have ⟨_, hf⟩ := h0; opens_slice (d := Kd.int .u8) Tryd.underlying22 (by kernel_rfl) (opens_int Tryd.underlying5) hf)
  simp only [Value.cells, List.cons.injEq, Value.slice.injEq, and_true] at e0
  obtain ⟨rfl, rfl, rfl⟩ := e0
  replace b0 : (l0.map fun _ => 1).sum + 1 ≤ Rows.uptoBulk d0 := b0
  have hbk : Rows.uptoBulkAll ([d0] ++ []) ≤ 1048576 := of_decide_eq_true hk
  have hsz : ((l0.map fun _ => 1).sum + 1) ≤ 1048576 := by
    simp only [List.append_nil, Rows.uptoBulkAll, Rows.uptoBulk] at hbk
    omega
  clear hbk hk
  have hwalk : Calls Tryd.prog 16 #[.slice A0 l0.length cap0] W fun e W' => e = .returned (.bool true) ∧ Below W.heap.size W W' := by
    clear hW' hA0 hval k0 h0
    have hm0 := sum_ones l0
    exact singles_calls l0 _ _ W hr0 hc0 (bytes_small _ (fun x hx => u8_range (g0.2 x hx))) (by omega) (schOK hL hsh)
  refine hwalk.mono fun e W' ⟨he, bel⟩ => ?_
  subst he
  exact ⟨_, rfl, _, _, _, [], _, [], hW', trodAll_mk1 (shut_bool Tryd.underlying4 _), (trodAll_cons_mk (Below.trod laidOut (by kernel_rfl) (of_decide_eq_true (by kernel_rfl)) k0 bel lt0) trodAll_mk0), rfl, bel.frame _, fun h => by cases h⟩

noncomputable def laidW (os : Os) : World := World.laidAll Tryd.prog os Rows.schemeSinglesUptoRow.laid
theorem laid_met (os : Os) : laidMet Tryd.prog Rows.schemeSinglesUptoRow.laid ((laidW os).forCall (fun _ _ => 0) ⟨#[], #[.slice none 0 0], []⟩).memory :=
  laidMet_laidAll #[.slice none 0 0] (by kernel_rfl) (by kernel_rfl)
theorem reads (os : Os) {H : Type} (enc : TypeId × Value → H) : ∃ places, DataW.whole enc Tryd.prog ((laidW os).forCall (fun _ _ => 0) ⟨#[], #[.slice none 0 0], []⟩).memory Tryd.f16.params.toList Rows.schemeSinglesSpec.vars false (#[.slice none 0 0] : Array Value).toList 8 = some ([.nil], [], places) :=
  ⟨[], by kernel_rfl⟩
set_option maxRecDepth 100000 in
theorem lifted (os : Os) (started : os.Started) (H : Type) (enc : TypeId × Value → H) (F : Stop.Interp) :
    ReturnsInHanded {} Tryd.checked os 16 .any ((Rows.OpenSpec.upto Rows.schemeSinglesSpec).preRow enc Tryd.prog Tryd.f16 Rows.schemeSinglesUptoRow.domain false Rows.schemeSinglesUptoRow.laid) (((Rows.OpenSpec.upto Rows.schemeSinglesSpec).at F).post enc Tryd.prog Tryd.f16 false true false false) := by
  obtain ⟨places, hx⟩ := reads os enc
  refine returnsInHanded_of_row (C := Tryd.checked) (s := (Rows.OpenSpec.upto Rows.schemeSinglesSpec)) own started (by kernel_rfl) Tryd.func16
    (witness_row_at (enc := enc) (C := Tryd.checked) false (laidW os) #[.slice none 0 0] (World.laidAll_os _ _ _) (by kernel_rfl) (by kernel_rfl) (by kernel_rfl)
      (OpenSpec.preRow_of_cond 8 hx (by kernel_rfl) (fun k hk => by cases hk; kernel_rfl) (by kernel_rfl) (laid_met os))) ?_
  intro W base args ds gs before hval hW _ hcond _ hL hsh _
  exact contract H enc W base args ds gs before hval hW (hcond _ rfl) hL hsh
theorem fact1 : Tryd.prog.funcNamed Rows.schemeSinglesUptoRow.func = some 16 := by kernel_rfl
theorem andI {a b : Bool} (h : a = true) (k : b = true) : (a && b) = true := by rw [h, k]; rfl
theorem cf0 : (Rows.schemeSinglesUptoRow.wf (OpenSpec.ofChange ((Rows.OpenSpec.upto Rows.schemeSinglesSpec).bare))) = true := by kernel_rfl
theorem cf1 : (laidOutB Tryd.prog) = true := by kernel_rfl
theorem cf2 : (mapsRowed Tryd.prog) = true := by kernel_rfl
theorem cf3 : (Tryd.f16.params.all (Tryd.prog.readableRec ·)) = true := by kernel_rfl
theorem cf4 : (namedTie Tryd.prog Rows.schemeSinglesUptoRow.named ((Rows.OpenSpec.upto Rows.schemeSinglesSpec).bare).vars) = true := by kernel_rfl
theorem cf5 : ((Rows.schemeSinglesUptoRow.stops == [])) = true := by kernel_rfl
theorem cf6 : ((Tryd.prog.stops == [])) = true := by kernel_rfl
theorem cf7 : ((Rows.schemeSinglesUptoRow.knobs == [])) = true := by kernel_rfl
theorem cf8 : ((Tryd.prog.stopKnobs == [])) = true := by kernel_rfl
theorem cf9 : ((Rows.schemeSinglesUptoRow.inPlace == Tryd.prog.inPlace 16)) = true := by kernel_rfl
theorem cf10 : ((Rows.schemeSinglesUptoRow.unfollowed == Tryd.prog.unfollowed 16)) = true := by kernel_rfl
theorem cf11 : ((Rows.schemeSinglesUptoRow.recurses == Tryd.prog.recurses 16)) = true := by kernel_rfl
theorem cf12 : ((Rows.schemeSinglesUptoRow.named == Tryd.prog.varsNamed 16)) = true := by kernel_rfl
theorem cf13 : ((Rows.schemeSinglesUptoRow.maps == (Tryd.f16.params.toList ++ ((Rows.OpenSpec.upto Rows.schemeSinglesSpec).bare).plain.varTypes Tryd.prog).any (Tryd.prog.mapsRec ·))) = true := by kernel_rfl
theorem cf14 : ((Rows.schemeSinglesUptoRow.ifaces == (Tryd.f16.params.toList ++ ((Rows.OpenSpec.upto Rows.schemeSinglesSpec).bare).plain.varTypes Tryd.prog).any (Tryd.prog.ifacesRec ·))) = true := by kernel_rfl
theorem cf15 : ((Rows.schemeSinglesUptoRow.mapsOut == Tryd.prog.mapsAmong Tryd.f16.resultTypes.toList)) = true := by kernel_rfl
theorem cf16 : ((Rows.schemeSinglesUptoRow.loops == (Tryd.f16.params.toList ++ ((Rows.OpenSpec.upto Rows.schemeSinglesSpec).bare).plain.varTypes Tryd.prog).any (Tryd.prog.loopsFrom ·))) = true := by kernel_rfl
theorem cf17 : ((Rows.schemeSinglesUptoRow.wideKeys == (Tryd.f16.params.toList ++ ((Rows.OpenSpec.upto Rows.schemeSinglesSpec).bare).plain.varTypes Tryd.prog ++ Tryd.f16.resultTypes.toList).any (Tryd.prog.wideKeysFrom ·))) = true := by kernel_rfl
theorem cf18 : (((Rows.OpenSpec.upto Rows.schemeSinglesSpec).bare).vars.all (Tryd.prog.varReadable ·)) = true := by kernel_rfl
theorem cf19 : (Tryd.f16.resultTypes.all (fun t => Tryd.prog.readableRec t && decide (t < Tryd.prog.types.size))) = true := by kernel_rfl
theorem cf20 : ((Rows.schemeSinglesUptoRow.ifacesOut == Tryd.f16.resultTypes.toList.any (Tryd.prog.ifacesRec ·))) = true := by kernel_rfl
theorem cf21 : ((Rows.schemeSinglesUptoRow.loopsOut == Tryd.f16.resultTypes.toList.any (Tryd.prog.loopsFrom ·))) = true := by kernel_rfl
theorem cf22 : ((Rows.schemeSinglesUptoRow.plainKeys == Tryd.prog.plainKeys)) = true := by kernel_rfl
theorem cf23 : (Rows.schemeSinglesUptoRow.shortTexts.isNone) = true := by kernel_rfl
theorem cf24 : (Tryd.prog.stopsHeard) = true := by kernel_rfl
theorem cf25 : (Tryd.prog.mayEnter) = true := by kernel_rfl
theorem cf26 : ((Rows.schemeSinglesUptoRow.lifted == Tryd.prog.liftsFinal)) = true := by kernel_rfl
theorem cf27 : ((Tryd.prog.make == some Rows.schemeSinglesUptoRow.make)) = true := by kernel_rfl
theorem cf28 : ((Rows.schemeSinglesUptoRow.kinds == (if Rows.schemeSinglesUptoRow.domain.isEmpty then [] else Tryd.f16.params.toList.map fun t => match Tryd.prog.underlying t with | some (.int k) => some k | _ => none))) = true := by kernel_rfl
theorem cf29 : ((Rows.schemeSinglesUptoRow.pinned == Rows.schemeSinglesUptoRow.pinnedBy)) = true := by kernel_rfl
theorem cf30 : ((Rows.schemeSinglesUptoRow.veiled == (Tryd.f16.params.toList ++ ((Rows.OpenSpec.upto Rows.schemeSinglesSpec).bare).plain.varTypes Tryd.prog ++ Tryd.f16.resultTypes.toList).any (Tryd.prog.veiledRec ·))) = true := by kernel_rfl
theorem cf31 : (Rows.schemeSinglesUptoRow.veiledFits Tryd.prog Tryd.f16.params.toList (Tryd.f16.params.toList ++ ((Rows.OpenSpec.upto Rows.schemeSinglesSpec).bare).plain.varTypes Tryd.prog ++ Tryd.f16.resultTypes.toList)) = true := by kernel_rfl
set_option maxRecDepth 100000 in
theorem fact2 : joinedFacts Tryd.prog 16 Tryd.f16 (Rows.OpenSpec.upto Rows.schemeSinglesSpec).bare Rows.schemeSinglesUptoRow = true := by
  unfold joinedFacts
  exact (andI (andI (andI (andI (andI (andI (andI (andI (andI (andI (andI (andI (andI (andI (andI (andI (andI (andI (andI (andI (andI (andI (andI (andI (andI (andI (andI (andI (andI (andI (andI cf0 cf1) cf2) cf3) cf4) cf5) cf6) cf7) cf8) cf9) cf10) cf11) cf12) cf13) cf14) cf15) cf16) cf17) cf18) cf19) cf20) cf21) cf22) cf23) cf24) cf25) cf26) cf27) cf28) cf29) cf30) cf31)
theorem fact3 : Tryd.f16.isInstance Tryd.prog Rows.schemeSinglesUptoRow.origin Rows.schemeSinglesUptoRow.targs := of_decide_eq_true (by kernel_rfl)
theorem fact4 : Tryd.f16.isWrapper Tryd.prog Rows.schemeSinglesUptoRow.wrapper Rows.schemeSinglesUptoRow.mainSum := by
  unfold Func.isWrapper; first | (rw [if_pos (by decide +kernel)]; kernel_rfl) | (rw [if_neg (by decide +kernel)]; exact ⟨rfl, rfl⟩)
theorem step (os : Os) (started : os.Started) (H : Type) (enc : TypeId × Value → H) (F : Stop.Interp) :
    ReturnsInHanded Rows.schemeSinglesUptoRow.assume Tryd.checked os 16 .any (Rows.schemeSinglesUptoRow.pre enc Tryd.prog Tryd.f16 (Rows.OpenSpec.upto Rows.schemeSinglesSpec)) (((Rows.OpenSpec.upto Rows.schemeSinglesSpec).at F).post enc Tryd.prog Tryd.f16 Rows.schemeSinglesUptoRow.apart Rows.schemeSinglesUptoRow.fresh Rows.schemeSinglesUptoRow.handsOn Rows.schemeSinglesUptoRow.again) := by
  rw [OpenClaim.pre_eq_preRow]; exact lifted os started H enc F
theorem said : Rows.SchemeSinglesUptoSaid :=
  OpenClaim.holds_of_cond (p := Tryd.pinned) (c := Rows.schemeSinglesUptoRow) (s := (Rows.OpenSpec.upto Rows.schemeSinglesSpec)) 16 Tryd.f16 rfl rfl rfl rfl rfl rfl rfl ⟨rfl, rfl, rfl, rfl, rfl⟩ rfl rfl rfl rfl rfl fact1 Tryd.func16 fact2 fact3 fact4
    (fun os started H enc _ F => step os started H enc F)
theorem plain (f : FuncId) (fn : Func) (hf : Tryd.pinned.checked.prog.funcNamed "bobbin/bobbinlaw05.SchemeSingles" = some f) (hfn : Tryd.pinned.checked.prog.funcs[f]? = some fn) :
    false = Tryd.pinned.checked.prog.looks [] ∧ ∀ (j : Nat) t, fn.params[j]? = some t → Tryd.pinned.checked.prog.wantsStandIn t = false := by
  obtain rfl : f = 16 := Option.some.inj ((show Tryd.prog.funcNamed "bobbin/bobbinlaw05.SchemeSingles" = some 16 by kernel_rfl).symm.trans hf) |>.symm
  obtain rfl : fn = Tryd.f16 := (Option.some.inj (Tryd.func16.symm.trans hfn)).symm
  refine ⟨by kernel_rfl, fun j t ht => ?_⟩
  have hall : Tryd.f16.params.all (fun t => Tryd.prog.wantsStandIn t == false) = true := by kernel_rfl
  exact eq_of_beq (Array.all_eq_true'.1 hall t (Array.mem_of_getElem? ht))
end Go.Proofs.YtdpnnglfaofjeaaDoor.schemeSinglesRow
namespace Go.Proofs.YtdpnnglfaofjeaaDoor
theorem schemeSingles_cw : Rows.schemeSinglesUptoRow.wfByText (Rows.OpenSpec.upto Rows.schemeSinglesSpec) = true := by kernel_rfl
theorem schemeSingles_cg : false = Rows.schemeSinglesUptoRow.goesBy Tryd.pinned.checked.prog := by kernel_rfl
theorem schemeSingles_card : Rows.SchemeSinglesUptoCardSaid :=
  Claim7.holds_tied_plain_at .later [] _ _ _ _ schemeSinglesRow.said (fun _ h => by cases h) schemeSingles_cw (fun _ h => by cases h) schemeSinglesUpto_row_tie rfl ⟨rfl, rfl⟩ mainIs_fact rfl schemeSinglesRow.plain schemeSingles_cg
#print axioms schemeSingles_card
end Go.Proofs.YtdpnnglfaofjeaaDoor

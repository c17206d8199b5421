/- Of every r: the law JsstrUnits returns true. -/
import Derived.Test.YtdpnnglfaofjeaaDoorJE
import Derived.Test.YtdpnnglfaofjeaaDoorO
import Derived.Test.YtdpnnglfaofjeaaDoorCards
import Derived.Test.YtdpnnglfaofjeaaDoorMI
import Derived.Test.YtdpnnglfaofjeaaDoorTie
import Derived.Deep.DeepHandedRow
import Derived.Lib.LaidTab
import Derived.LaidSub
import Derived.Lay
import Derived.WalkKit
import Derived.ProofKit
import Derived.OpenShut
import Derived.ShutString
import Derived.ChangeOld
import Derived.Below
import Derived.JoinedCond
namespace Go.Proofs.YtdpnnglfaofjeaaDoor.jsstrUnitsRow
open Go.ChangeShapes Go.WideShapes Go.ChangeAt Go.RowKit Opening Go.Proofs.YtdpnnglfaofjeaaDoorW.PrintWords
open Go.ChangeMaps (open_string shut_string)
open U
set_option linter.unusedVariables false
set_option maxRecDepth 100000
set_option linter.unusedSimpArgs false

theorem own : ownKnob Tryd.prog.godebug = none := by kernel_rfl
theorem laidOut : laidOutB Tryd.prog = true := by kernel_rfl

theorem gTab : Tryd.prog.globalNamed "math/bits.deBruijn64tab" = some 3 := by kernel_rfl
theorem gTabType : (Tryd.prog.globals[3]?).map (·.type) = some 135 := by kernel_rfl
theorem under135 : Tryd.prog.underlying 135 = some (.array 64 5) := by kernel_rfl
theorem cells135 : Tryd.prog.cellsOf 135 = 64 := by kernel_rfl
theorem cells5 : Tryd.prog.cellsOf 5 = 1 := by kernel_rfl
def tab64 : List Int := [0, 1, 56, 2, 57, 49, 28, 3, 61, 58, 42, 50, 38, 29, 17, 4, 62, 47, 59, 36, 45, 43, 51, 22, 53, 39, 33, 30, 24, 18, 12, 5, 63, 55, 48, 27, 60, 41, 37, 16, 46, 35, 44, 21, 52, 32, 23, 11, 54, 26, 40, 15, 34, 20, 31, 10, 25, 14, 19, 9, 13, 8, 7, 6]
theorem tab_eq : (Rows.laid_math_bits_deBruijn64tab : DataW Unit) = Lib.tabData .u8 tab64 := rfl
/-- What the row's list gives. -/
theorem tabOK {W : World} (h : laidMetH Tryd.prog [("math/bits.deBruijn32tab", Rows.laid_math_bits_deBruijn32tab), ("math/bits.deBruijn64tab", Rows.laid_math_bits_deBruijn64tab), ("internal/strconv.uint64pow10", Rows.laid_internal_strconv_uint64pow10)] W) : TabOK W := by
  have h1 := (laidMetH_iff.1 h).1
  have h2 := h1.filter (fun x => x.1 == "math/bits.deBruijn64tab")
  have h3 : laidMet Tryd.prog [("math/bits.deBruijn64tab", Lib.tabData .u8 tab64)] W := h2
  exact (Lib.tabIs_of_head gTab gTabType under135 Tryd.underlying5 cells5 cells135 h3).cell gTab 15 (by decide)
theorem contract (H : Type) (enc : TypeId × Value → H) (W : World) (base : Nat) (args : Array Value) (ds gs : List (DataW H)) (before : List MemPlace)
    (hval : ∀ (j : Nat) t v, Tryd.f8.params[j]? = some t → args[j]? = some v → Value.okWide Tryd.prog W .any base t v)
    (hW : DataW.Whole enc Tryd.prog Tryd.f8.params.toList Rows.jsstrUnitsSpec.vars false W args.toList ds gs before) (hk : Rows.uptoSmall H (ds ++ gs) = true) (hL : laidMetH Tryd.prog Rows.jsstrUnitsUptoRow.laid W) :
    Calls Tryd.prog 8 args W fun e W' => ∃ v, e = .returned v ∧ Rows.jsstrUnitsSpec.post enc Tryd.prog Tryd.f8 false true false false W args v W' := by
  have hW' := hW
  obtain ⟨p, q, hA0, hV, rfl, hfz, hnd⟩ := hW
  have hA : DataW.TrodAll enc Tryd.prog W 0 (fun _ => true) true Tryd.f8.params.toList args.toList ds p := hA0
  rw [Tryd.params8] at hA hval
  obtain ⟨v0, vs0, d0, ds0, p0, q0, hargs, rfl, rfl, h0, r0⟩ := trodAll_cons hA
  obtain ⟨rfl, rfl, rfl⟩ := trodAll_nil r0
  obtain rfl : args = #[v0] := by cases args; simp_all
  obtain ⟨rfl, rfl⟩ := trodVars_none hV
  obtain ⟨a0, rfl, rfl, rfl, w0⟩ := open_int Tryd.underlying21 (hval 0 21 v0 rfl rfl) h0
  have hbk : Rows.uptoBulkAll ([DataW.lit (.int .i32 a0)] ++ []) ≤ 1048576 := of_decide_eq_true hk
  have hsz : (1) ≤ 1048576 := by
    simp only [List.append_nil, Rows.uptoBulkAll, Rows.uptoBulk] at hbk
    omega
  clear hbk hk
  have hwalk : Calls Tryd.prog 8 #[.int .i32 a0] W fun e W' => e = .returned (.bool true) ∧ Below W.heap.size W W' := by
    clear hW' hA0 hval h0
    have hw : -2147483648 ≤ a0 ∧ a0 ≤ 2147483647 := by simpa [Lit.wf, IntKind.min, IntKind.max, IntKind.signed, IntKind.bits] using w0
    obtain ⟨k, hk⟩ := PJs.units_pure a0 hw.1 hw.2
    exact PJs.bobbinlaw06_JsstrUnits.calls k a0 true W hk (tabOK hL)
  refine hwalk.mono fun e W' ⟨he, bel⟩ => ?_
  subst he
  exact ⟨_, rfl, _, _, _, [], _, [], hW', trodAll_mk1 (shut_bool Tryd.underlying4 _), (trodAll_cons_mk (shut_int Tryd.underlying21 w0) trodAll_mk0), rfl, bel.frame _, fun h => by cases h⟩

noncomputable def laidW (os : Os) : World := World.laidAll Tryd.prog os Rows.jsstrUnitsUptoRow.laid
theorem laid_met (os : Os) : laidMet Tryd.prog Rows.jsstrUnitsUptoRow.laid ((laidW os).forCall (fun _ _ => 0) ⟨#[], #[.int .i32 0], []⟩).memory :=
  laidMet_laidAll #[.int .i32 0] (by kernel_rfl) (by kernel_rfl)
theorem reads (os : Os) {H : Type} (enc : TypeId × Value → H) : ∃ places, DataW.whole enc Tryd.prog ((laidW os).forCall (fun _ _ => 0) ⟨#[], #[.int .i32 0], []⟩).memory Tryd.f8.params.toList Rows.jsstrUnitsSpec.vars false (#[.int .i32 0] : Array Value).toList 8 = some ([.lit (.int .i32 0)], [], places) :=
  ⟨[], by kernel_rfl⟩
set_option maxRecDepth 100000 in
theorem lifted (os : Os) (started : os.Started) (H : Type) (enc : TypeId × Value → H) (F : Stop.Interp) :
    ReturnsInHanded {} Tryd.checked os 8 .any ((Rows.OpenSpec.upto Rows.jsstrUnitsSpec).preRow enc Tryd.prog Tryd.f8 Rows.jsstrUnitsUptoRow.domain false Rows.jsstrUnitsUptoRow.laid) (((Rows.OpenSpec.upto Rows.jsstrUnitsSpec).at F).post enc Tryd.prog Tryd.f8 false true false false) := by
  obtain ⟨places, hx⟩ := reads os enc
  refine returnsInHanded_of_row (C := Tryd.checked) (s := (Rows.OpenSpec.upto Rows.jsstrUnitsSpec)) own started (by kernel_rfl) Tryd.func8
    (witness_row_at (enc := enc) (C := Tryd.checked) false (laidW os) #[.int .i32 0] (World.laidAll_os _ _ _) (by kernel_rfl) (by kernel_rfl) (by kernel_rfl)
      (OpenSpec.preRow_of_cond 8 hx (by kernel_rfl) (fun k hk => by cases hk; kernel_rfl) (by kernel_rfl) (laid_met os))) ?_
  intro W base args ds gs before hval hW _ hcond _ hL _ _
  exact contract H enc W base args ds gs before hval hW (hcond _ rfl) hL
theorem fact1 : Tryd.prog.funcNamed Rows.jsstrUnitsUptoRow.func = some 8 := by kernel_rfl
theorem andI {a b : Bool} (h : a = true) (k : b = true) : (a && b) = true := by rw [h, k]; rfl
theorem cf0 : (Rows.jsstrUnitsUptoRow.wf (OpenSpec.ofChange ((Rows.OpenSpec.upto Rows.jsstrUnitsSpec).bare))) = true := by kernel_rfl
theorem cf1 : (laidOutB Tryd.prog) = true := by kernel_rfl
theorem cf2 : (mapsRowed Tryd.prog) = true := by kernel_rfl
theorem cf3 : (Tryd.f8.params.all (Tryd.prog.readableRec ·)) = true := by kernel_rfl
theorem cf4 : (namedTie Tryd.prog Rows.jsstrUnitsUptoRow.named ((Rows.OpenSpec.upto Rows.jsstrUnitsSpec).bare).vars) = true := by kernel_rfl
theorem cf5 : ((Rows.jsstrUnitsUptoRow.stops == [])) = true := by kernel_rfl
theorem cf6 : ((Tryd.prog.stops == [])) = true := by kernel_rfl
theorem cf7 : ((Rows.jsstrUnitsUptoRow.knobs == [])) = true := by kernel_rfl
theorem cf8 : ((Tryd.prog.stopKnobs == [])) = true := by kernel_rfl
theorem cf9 : ((Rows.jsstrUnitsUptoRow.inPlace == Tryd.prog.inPlace 8)) = true := by kernel_rfl
theorem cf10 : ((Rows.jsstrUnitsUptoRow.unfollowed == Tryd.prog.unfollowed 8)) = true := by kernel_rfl
theorem cf11 : ((Rows.jsstrUnitsUptoRow.recurses == Tryd.prog.recurses 8)) = true := by kernel_rfl
theorem cf12 : ((Rows.jsstrUnitsUptoRow.named == Tryd.prog.varsNamed 8)) = true := by kernel_rfl
theorem cf13 : ((Rows.jsstrUnitsUptoRow.maps == (Tryd.f8.params.toList ++ ((Rows.OpenSpec.upto Rows.jsstrUnitsSpec).bare).plain.varTypes Tryd.prog).any (Tryd.prog.mapsRec ·))) = true := by kernel_rfl
theorem cf14 : ((Rows.jsstrUnitsUptoRow.ifaces == (Tryd.f8.params.toList ++ ((Rows.OpenSpec.upto Rows.jsstrUnitsSpec).bare).plain.varTypes Tryd.prog).any (Tryd.prog.ifacesRec ·))) = true := by kernel_rfl
theorem cf15 : ((Rows.jsstrUnitsUptoRow.mapsOut == Tryd.prog.mapsAmong Tryd.f8.resultTypes.toList)) = true := by kernel_rfl
theorem cf16 : ((Rows.jsstrUnitsUptoRow.loops == (Tryd.f8.params.toList ++ ((Rows.OpenSpec.upto Rows.jsstrUnitsSpec).bare).plain.varTypes Tryd.prog).any (Tryd.prog.loopsFrom ·))) = true := by kernel_rfl
theorem cf17 : ((Rows.jsstrUnitsUptoRow.wideKeys == (Tryd.f8.params.toList ++ ((Rows.OpenSpec.upto Rows.jsstrUnitsSpec).bare).plain.varTypes Tryd.prog ++ Tryd.f8.resultTypes.toList).any (Tryd.prog.wideKeysFrom ·))) = true := by kernel_rfl
theorem cf18 : (((Rows.OpenSpec.upto Rows.jsstrUnitsSpec).bare).vars.all (Tryd.prog.varReadable ·)) = true := by kernel_rfl
theorem cf19 : (Tryd.f8.resultTypes.all (fun t => Tryd.prog.readableRec t && decide (t < Tryd.prog.types.size))) = true := by kernel_rfl
theorem cf20 : ((Rows.jsstrUnitsUptoRow.ifacesOut == Tryd.f8.resultTypes.toList.any (Tryd.prog.ifacesRec ·))) = true := by kernel_rfl
theorem cf21 : ((Rows.jsstrUnitsUptoRow.loopsOut == Tryd.f8.resultTypes.toList.any (Tryd.prog.loopsFrom ·))) = true := by kernel_rfl
theorem cf22 : ((Rows.jsstrUnitsUptoRow.plainKeys == Tryd.prog.plainKeys)) = true := by kernel_rfl
theorem cf23 : (Rows.jsstrUnitsUptoRow.shortTexts.isNone) = true := by kernel_rfl
theorem cf24 : (Tryd.prog.stopsHeard) = true := by kernel_rfl
theorem cf25 : (Tryd.prog.mayEnter) = true := by kernel_rfl
theorem cf26 : ((Rows.jsstrUnitsUptoRow.lifted == Tryd.prog.liftsFinal)) = true := by kernel_rfl
theorem cf27 : ((Tryd.prog.make == some Rows.jsstrUnitsUptoRow.make)) = true := by kernel_rfl
theorem cf28 : ((Rows.jsstrUnitsUptoRow.kinds == (if Rows.jsstrUnitsUptoRow.domain.isEmpty then [] else Tryd.f8.params.toList.map fun t => match Tryd.prog.underlying t with | some (.int k) => some k | _ => none))) = true := by kernel_rfl
theorem cf29 : ((Rows.jsstrUnitsUptoRow.pinned == Rows.jsstrUnitsUptoRow.pinnedBy)) = true := by kernel_rfl
theorem cf30 : ((Rows.jsstrUnitsUptoRow.veiled == (Tryd.f8.params.toList ++ ((Rows.OpenSpec.upto Rows.jsstrUnitsSpec).bare).plain.varTypes Tryd.prog ++ Tryd.f8.resultTypes.toList).any (Tryd.prog.veiledRec ·))) = true := by kernel_rfl
theorem cf31 : (Rows.jsstrUnitsUptoRow.veiledFits Tryd.prog Tryd.f8.params.toList (Tryd.f8.params.toList ++ ((Rows.OpenSpec.upto Rows.jsstrUnitsSpec).bare).plain.varTypes Tryd.prog ++ Tryd.f8.resultTypes.toList)) = true := by kernel_rfl
set_option maxRecDepth 100000 in
theorem fact2 : joinedFacts Tryd.prog 8 Tryd.f8 (Rows.OpenSpec.upto Rows.jsstrUnitsSpec).bare Rows.jsstrUnitsUptoRow = true := by
  unfold joinedFacts
  exact (andI (andI (andI (andI (andI (andI (andI (andI (andI (andI (andI (andI (andI (andI (andI (andI (andI (andI (andI (andI (andI (andI (andI (andI (andI (andI (andI (andI (andI (andI (andI cf0 cf1) cf2) cf3) cf4) cf5) cf6) cf7) cf8) cf9) cf10) cf11) cf12) cf13) cf14) cf15) cf16) cf17) cf18) cf19) cf20) cf21) cf22) cf23) cf24) cf25) cf26) cf27) cf28) cf29) cf30) cf31)
theorem fact3 : Tryd.f8.isInstance Tryd.prog Rows.jsstrUnitsUptoRow.origin Rows.jsstrUnitsUptoRow.targs := of_decide_eq_true (by kernel_rfl)
theorem fact4 : Tryd.f8.isWrapper Tryd.prog Rows.jsstrUnitsUptoRow.wrapper Rows.jsstrUnitsUptoRow.mainSum := by
  unfold Func.isWrapper; first | (rw [if_pos (by decide +kernel)]; kernel_rfl) | (rw [if_neg (by decide +kernel)]; exact ⟨rfl, rfl⟩)
theorem step (os : Os) (started : os.Started) (H : Type) (enc : TypeId × Value → H) (F : Stop.Interp) :
    ReturnsInHanded Rows.jsstrUnitsUptoRow.assume Tryd.checked os 8 .any (Rows.jsstrUnitsUptoRow.pre enc Tryd.prog Tryd.f8 (Rows.OpenSpec.upto Rows.jsstrUnitsSpec)) (((Rows.OpenSpec.upto Rows.jsstrUnitsSpec).at F).post enc Tryd.prog Tryd.f8 Rows.jsstrUnitsUptoRow.apart Rows.jsstrUnitsUptoRow.fresh Rows.jsstrUnitsUptoRow.handsOn Rows.jsstrUnitsUptoRow.again) := by
  rw [OpenClaim.pre_eq_preRow]; exact lifted os started H enc F
theorem said : Rows.JsstrUnitsUptoSaid :=
  OpenClaim.holds_of_cond (p := Tryd.pinned) (c := Rows.jsstrUnitsUptoRow) (s := (Rows.OpenSpec.upto Rows.jsstrUnitsSpec)) 8 Tryd.f8 rfl rfl rfl rfl rfl rfl rfl ⟨rfl, rfl, rfl, rfl, rfl⟩ rfl rfl rfl rfl rfl fact1 Tryd.func8 fact2 fact3 fact4
    (fun os started H enc _ F => step os started H enc F)
theorem plain (f : FuncId) (fn : Func) (hf : Tryd.pinned.checked.prog.funcNamed "bobbin/bobbinlaw06.JsstrUnits" = some f) (hfn : Tryd.pinned.checked.prog.funcs[f]? = some fn) :
    false = Tryd.pinned.checked.prog.looks [] ∧ ∀ (j : Nat) t, fn.params[j]? = some t → Tryd.pinned.checked.prog.wantsStandIn t = false := by
  obtain rfl : f = 8 := Option.some.inj ((show Tryd.prog.funcNamed "bobbin/bobbinlaw06.JsstrUnits" = some 8 by kernel_rfl).symm.trans hf) |>.symm
  obtain rfl : fn = Tryd.f8 := (Option.some.inj (Tryd.func8.symm.trans hfn)).symm
  refine ⟨by kernel_rfl, fun j t ht => ?_⟩
  have hall : Tryd.f8.params.all (fun t => Tryd.prog.wantsStandIn t == false) = true := by kernel_rfl
  exact eq_of_beq (Array.all_eq_true'.1 hall t (Array.mem_of_getElem? ht))
end Go.Proofs.YtdpnnglfaofjeaaDoor.jsstrUnitsRow
namespace Go.Proofs.YtdpnnglfaofjeaaDoor
theorem jsstrUnits_cw : Rows.jsstrUnitsUptoRow.wfByText (Rows.OpenSpec.upto Rows.jsstrUnitsSpec) = true := by kernel_rfl
theorem jsstrUnits_cg : false = Rows.jsstrUnitsUptoRow.goesBy Tryd.pinned.checked.prog := by kernel_rfl
theorem jsstrUnits_card : Rows.JsstrUnitsUptoCardSaid :=
  Claim7.holds_tied_plain_at .later [] _ _ _ _ jsstrUnitsRow.said (fun _ h => by cases h) jsstrUnits_cw (fun _ h => by cases h) jsstrUnitsUpto_row_tie rfl ⟨rfl, rfl⟩ mainIs_fact rfl jsstrUnitsRow.plain jsstrUnits_cg
#print axioms jsstrUnits_card
end Go.Proofs.YtdpnnglfaofjeaaDoor

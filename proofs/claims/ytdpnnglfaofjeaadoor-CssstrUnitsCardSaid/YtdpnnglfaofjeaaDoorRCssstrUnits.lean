/- The law CssstrUnits returns true, whatever the world (its row lists three tables of Go's library: of one of them one cell is read). -/
import Derived.Test.YtdpnnglfaofjeaaDoorCards
import Derived.Test.YtdpnnglfaofjeaaDoorTie
import Derived.Test.YtdpnnglfaofjeaaDoorFE
import Derived.WalkKit
import Derived.ProofKit
import Derived.OpenShut
import Derived.ShutString
import Derived.ChangeOld
import Derived.Below
import Derived.Deep.DeepHandedRow
import Derived.Lib.LaidTab
import Derived.LaidSub
import Derived.Lay
namespace Go.Proofs.YtdpnnglfaofjeaaDoor.cssstrUnitsRow
open Go.ChangeShapes Go.WideShapes Go.ChangeAt Go.RowKit Go.Proofs.YtdpnnglfaofjeaaDoorW.PrintWords U
set_option linter.unusedVariables false
set_option linter.unusedSimpArgs false

theorem own : ownKnob Tryd.prog.godebug = none := by kernel_rfl
theorem laidOut : laidOutB Tryd.prog = true := by kernel_rfl
theorem gTab : Tryd.prog.globalNamed "math/bits.deBruijn64tab" = some 3 := by kernel_rfl
theorem gTabType : (Tryd.prog.globals[3]?).map (·.type) = some 135 := by kernel_rfl
theorem under135 : Tryd.prog.underlying 135 = some (.array 64 5) := by kernel_rfl
theorem cells135 : Tryd.prog.cellsOf 135 = 64 := by kernel_rfl
theorem cells5 : Tryd.prog.cellsOf 5 = 1 := by kernel_rfl
def tab64 : List Int := [0, 1, 56, 2, 57, 49, 28, 3, 61, 58, 42, 50, 38, 29, 17, 4, 62, 47, 59, 36, 45, 43, 51, 22, 53, 39, 33, 30, 24, 18, 12, 5, 63, 55, 48, 27, 60, 41, 37, 16, 46, 35, 44, 21, 52, 32, 23, 11, 54, 26, 40, 15, 34, 20, 31, 10, 25, 14, 19, 9, 13, 8, 7, 6]
theorem tab_eq : (Rows.laid_math_bits_deBruijn64tab : DataW Unit) = Lib.tabData .u8 tab64 := rfl
/-- What the row's list gives. -/
theorem tabOK {W : World} (h : laidMetH Tryd.prog [("math/bits.deBruijn32tab", Rows.laid_math_bits_deBruijn32tab), ("math/bits.deBruijn64tab", Rows.laid_math_bits_deBruijn64tab), ("internal/strconv.uint64pow10", Rows.laid_internal_strconv_uint64pow10)] W) : TabOK W := by
  have h1 := (laidMetH_iff.1 h).1
  have h2 := h1.filter (fun x => x.1 == "math/bits.deBruijn64tab")
  have h3 : laidMet Tryd.prog [("math/bits.deBruijn64tab", Lib.tabData .u8 tab64)] W := h2
  exact (Lib.tabIs_of_head gTab gTabType under135 Tryd.underlying5 cells5 cells135 h3).cell gTab 15 (by decide)

theorem contract (H : Type) (enc : TypeId × Value → H) (W : World) (base : Nat) (args : Array Value) (ds gs : List (DataW H)) (before : List MemPlace)
    (hW : DataW.Whole enc Tryd.prog Tryd.f3.params.toList Rows.cssstrUnitsSpec.vars false W args.toList ds gs before) (hL : laidMetH Tryd.prog Rows.cssstrUnitsRow.laid W) :
    Calls Tryd.prog 3 args W fun e W' => ∃ v, e = .returned v ∧ Rows.cssstrUnitsSpec.post enc Tryd.prog Tryd.f3 false true false false W args v W' := by
  have hW' := hW
  obtain ⟨p, q, hA0, hV, rfl, hfz, hnd⟩ := hW
  have hA : DataW.TrodAll enc Tryd.prog W 0 (fun _ => true) true Tryd.f3.params.toList args.toList ds p := hA0
  rw [Tryd.params3] at hA
  obtain ⟨hargs, rfl, rfl⟩ := trodAll_nil hA
  obtain rfl : args = #[] := by cases args; simp_all
  obtain ⟨rfl, rfl⟩ := trodVars_none hV
  refine (units_calls W (tabOK hL)).mono fun e W' ⟨he, bel⟩ => ?_
  subst he
  exact ⟨_, rfl, _, _, _, [], _, [], hW', trodAll_mk1 (shut_bool Tryd.underlying4 _), trodAll_mk0, rfl, bel.frame _, fun h => by cases h⟩

noncomputable def laidW (os : Os) : World := World.laidAll Tryd.prog os Rows.cssstrUnitsRow.laid
theorem laid_met (os : Os) : laidMet Tryd.prog Rows.cssstrUnitsRow.laid ((laidW os).forCall (fun _ _ => 0) ⟨#[], #[], []⟩).memory :=
  laidMet_laidAll #[] (by kernel_rfl) (by kernel_rfl)
theorem reads (os : Os) {H : Type} (enc : TypeId × Value → H) : ∃ places, DataW.whole enc Tryd.prog ((laidW os).forCall (fun _ _ => 0) ⟨#[], #[], []⟩).memory Tryd.f3.params.toList Rows.cssstrUnitsSpec.vars false (#[] : Array Value).toList 8 = some ([], [], places) :=
  ⟨[], by kernel_rfl⟩
set_option maxRecDepth 100000 in
theorem lifted (os : Os) (started : os.Started) (H : Type) (enc : TypeId × Value → H) (F : Stop.Interp) :
    ReturnsInHanded {} Tryd.checked os 3 .any ((OpenSpec.ofChange Rows.cssstrUnitsSpec).preRow enc Tryd.prog Tryd.f3 Rows.cssstrUnitsRow.domain false Rows.cssstrUnitsRow.laid) (((OpenSpec.ofChange Rows.cssstrUnitsSpec).at F).post enc Tryd.prog Tryd.f3 false true false false) := by
  obtain ⟨places, hx⟩ := reads os enc
  refine returnsInHanded_of_row (C := Tryd.checked) (s := OpenSpec.ofChange Rows.cssstrUnitsSpec) own started (by kernel_rfl) Tryd.func3
    (witness_row_at (enc := enc) (C := Tryd.checked) false (laidW os) #[] (World.laidAll_os _ _ _) (by kernel_rfl) (by kernel_rfl) (by kernel_rfl)
      (OpenSpec.preRow_of_cond 8 hx (by kernel_rfl) (fun k hk => by cases hk) (by kernel_rfl) (laid_met os))) ?_
  intro W base args ds gs before hval hW _ _ _ hL _ _
  exact contract H enc W base args ds gs before hW hL
theorem fact1 : Tryd.prog.funcNamed Rows.cssstrUnitsRow.func = some 3 := by kernel_rfl
theorem andI {a b : Bool} (h : a = true) (k : b = true) : (a && b) = true := by rw [h, k]; rfl
theorem cf0 : (Rows.cssstrUnitsRow.wf (OpenSpec.ofChange ((OpenSpec.ofChange Rows.cssstrUnitsSpec).bare))) = true := by kernel_rfl
theorem cf1 : (laidOutB Tryd.prog) = true := by kernel_rfl
theorem cf2 : (mapsRowed Tryd.prog) = true := by kernel_rfl
theorem cf3 : (Tryd.f3.params.all (Tryd.prog.readableRec ·)) = true := by kernel_rfl
theorem cf4 : (namedTie Tryd.prog Rows.cssstrUnitsRow.named ((OpenSpec.ofChange Rows.cssstrUnitsSpec).bare).vars) = true := by kernel_rfl
theorem cf5 : ((Rows.cssstrUnitsRow.stops == [])) = true := by kernel_rfl
theorem cf6 : ((Tryd.prog.stops == [])) = true := by kernel_rfl
theorem cf7 : ((Rows.cssstrUnitsRow.knobs == [])) = true := by kernel_rfl
theorem cf8 : ((Tryd.prog.stopKnobs == [])) = true := by kernel_rfl
theorem cf9 : ((Rows.cssstrUnitsRow.inPlace == Tryd.prog.inPlace 3)) = true := by kernel_rfl
theorem cf10 : ((Rows.cssstrUnitsRow.unfollowed == Tryd.prog.unfollowed 3)) = true := by kernel_rfl
theorem cf11 : ((Rows.cssstrUnitsRow.recurses == Tryd.prog.recurses 3)) = true := by kernel_rfl
theorem cf12 : ((Rows.cssstrUnitsRow.named == Tryd.prog.varsNamed 3)) = true := by kernel_rfl
theorem cf13 : ((Rows.cssstrUnitsRow.maps == (Tryd.f3.params.toList ++ ((OpenSpec.ofChange Rows.cssstrUnitsSpec).bare).plain.varTypes Tryd.prog).any (Tryd.prog.mapsRec ·))) = true := by kernel_rfl
theorem cf14 : ((Rows.cssstrUnitsRow.ifaces == (Tryd.f3.params.toList ++ ((OpenSpec.ofChange Rows.cssstrUnitsSpec).bare).plain.varTypes Tryd.prog).any (Tryd.prog.ifacesRec ·))) = true := by kernel_rfl
theorem cf15 : ((Rows.cssstrUnitsRow.mapsOut == Tryd.prog.mapsAmong Tryd.f3.resultTypes.toList)) = true := by kernel_rfl
theorem cf16 : ((Rows.cssstrUnitsRow.loops == (Tryd.f3.params.toList ++ ((OpenSpec.ofChange Rows.cssstrUnitsSpec).bare).plain.varTypes Tryd.prog).any (Tryd.prog.loopsFrom ·))) = true := by kernel_rfl
theorem cf17 : ((Rows.cssstrUnitsRow.wideKeys == (Tryd.f3.params.toList ++ ((OpenSpec.ofChange Rows.cssstrUnitsSpec).bare).plain.varTypes Tryd.prog ++ Tryd.f3.resultTypes.toList).any (Tryd.prog.wideKeysFrom ·))) = true := by kernel_rfl
theorem cf18 : (((OpenSpec.ofChange Rows.cssstrUnitsSpec).bare).vars.all (Tryd.prog.varReadable ·)) = true := by kernel_rfl
theorem cf19 : (Tryd.f3.resultTypes.all (fun t => Tryd.prog.readableRec t && decide (t < Tryd.prog.types.size))) = true := by kernel_rfl
theorem cf20 : ((Rows.cssstrUnitsRow.ifacesOut == Tryd.f3.resultTypes.toList.any (Tryd.prog.ifacesRec ·))) = true := by kernel_rfl
theorem cf21 : ((Rows.cssstrUnitsRow.loopsOut == Tryd.f3.resultTypes.toList.any (Tryd.prog.loopsFrom ·))) = true := by kernel_rfl
theorem cf22 : ((Rows.cssstrUnitsRow.plainKeys == Tryd.prog.plainKeys)) = true := by kernel_rfl
theorem cf23 : (Rows.cssstrUnitsRow.shortTexts.isNone) = true := by kernel_rfl
theorem cf24 : (Tryd.prog.stopsHeard) = true := by kernel_rfl
theorem cf25 : (Tryd.prog.mayEnter) = true := by kernel_rfl
theorem cf26 : ((Rows.cssstrUnitsRow.lifted == Tryd.prog.liftsFinal)) = true := by kernel_rfl
theorem cf27 : ((Tryd.prog.make == some Rows.cssstrUnitsRow.make)) = true := by kernel_rfl
theorem cf28 : ((Rows.cssstrUnitsRow.kinds == (if Rows.cssstrUnitsRow.domain.isEmpty then [] else Tryd.f3.params.toList.map fun t => match Tryd.prog.underlying t with | some (.int k) => some k | _ => none))) = true := by kernel_rfl
theorem cf29 : ((Rows.cssstrUnitsRow.pinned == Rows.cssstrUnitsRow.pinnedBy)) = true := by kernel_rfl
theorem cf30 : ((Rows.cssstrUnitsRow.veiled == (Tryd.f3.params.toList ++ ((OpenSpec.ofChange Rows.cssstrUnitsSpec).bare).plain.varTypes Tryd.prog ++ Tryd.f3.resultTypes.toList).any (Tryd.prog.veiledRec ·))) = true := by kernel_rfl
theorem cf31 : (Rows.cssstrUnitsRow.veiledFits Tryd.prog Tryd.f3.params.toList (Tryd.f3.params.toList ++ ((OpenSpec.ofChange Rows.cssstrUnitsSpec).bare).plain.varTypes Tryd.prog ++ Tryd.f3.resultTypes.toList)) = true := by kernel_rfl
set_option maxRecDepth 100000 in
theorem fact2 : joinedFacts Tryd.prog 3 Tryd.f3 (OpenSpec.ofChange Rows.cssstrUnitsSpec).bare Rows.cssstrUnitsRow = true := by
  unfold joinedFacts
  exact (andI (andI (andI (andI (andI (andI (andI (andI (andI (andI (andI (andI (andI (andI (andI (andI (andI (andI (andI (andI (andI (andI (andI (andI (andI (andI (andI (andI (andI (andI (andI cf0 cf1) cf2) cf3) cf4) cf5) cf6) cf7) cf8) cf9) cf10) cf11) cf12) cf13) cf14) cf15) cf16) cf17) cf18) cf19) cf20) cf21) cf22) cf23) cf24) cf25) cf26) cf27) cf28) cf29) cf30) cf31)
theorem fact3 : Tryd.f3.isInstance Tryd.prog Rows.cssstrUnitsRow.origin Rows.cssstrUnitsRow.targs := of_decide_eq_true (by kernel_rfl)
theorem fact4 : Tryd.f3.isWrapper Tryd.prog Rows.cssstrUnitsRow.wrapper Rows.cssstrUnitsRow.mainSum := by
  unfold Func.isWrapper; first | (rw [if_pos (by decide +kernel)]; kernel_rfl) | (rw [if_neg (by decide +kernel)]; exact ⟨rfl, rfl⟩)
theorem step (os : Os) (started : os.Started) (H : Type) (enc : TypeId × Value → H) (F : Stop.Interp) :
    ReturnsInHanded Rows.cssstrUnitsRow.assume Tryd.checked os 3 .any (Rows.cssstrUnitsRow.pre enc Tryd.prog Tryd.f3 (OpenSpec.ofChange Rows.cssstrUnitsSpec)) (((OpenSpec.ofChange Rows.cssstrUnitsSpec).at F).post enc Tryd.prog Tryd.f3 Rows.cssstrUnitsRow.apart Rows.cssstrUnitsRow.fresh Rows.cssstrUnitsRow.handsOn Rows.cssstrUnitsRow.again) := by
  rw [OpenClaim.pre_eq_preRow]; exact lifted os started H enc F
theorem said : Rows.CssstrUnitsSaid :=
  OpenClaim.holds_of_cond (p := Tryd.pinned) (c := Rows.cssstrUnitsRow) (s := OpenSpec.ofChange Rows.cssstrUnitsSpec) 3 Tryd.f3 rfl rfl rfl rfl rfl rfl rfl ⟨rfl, rfl, rfl, rfl, rfl⟩ rfl rfl rfl rfl rfl fact1 Tryd.func3 fact2 fact3 fact4
    (fun os started H enc _ F => step os started H enc F)
theorem plain (f : FuncId) (fn : Func) (hf : Tryd.pinned.checked.prog.funcNamed "bobbin/bobbinlaw07.CssstrUnits" = some f) (hfn : Tryd.pinned.checked.prog.funcs[f]? = some fn) :
    false = Tryd.pinned.checked.prog.looks [] ∧ ∀ (j : Nat) t, fn.params[j]? = some t → Tryd.pinned.checked.prog.wantsStandIn t = false := by
  obtain rfl : f = 3 := Option.some.inj ((show Tryd.prog.funcNamed "bobbin/bobbinlaw07.CssstrUnits" = some 3 by kernel_rfl).symm.trans hf) |>.symm
  obtain rfl : fn = Tryd.f3 := (Option.some.inj (Tryd.func3.symm.trans hfn)).symm
  refine ⟨by kernel_rfl, fun j t ht => ?_⟩
  rw [Tryd.params3] at ht
  simp at ht
end Go.Proofs.YtdpnnglfaofjeaaDoor.cssstrUnitsRow
namespace Go.Proofs.YtdpnnglfaofjeaaDoor
theorem cssstrUnits_card : Rows.CssstrUnitsCardSaid :=
  Claim7.holds_tied_plain_at .later [] _ _ _ _ cssstrUnitsRow.said (fun _ h => by cases h) (by kernel_rfl) (fun _ h => by cases h) cssstrUnits_row_tie rfl ⟨rfl, rfl⟩ (by kernel_rfl) rfl cssstrUnitsRow.plain (by kernel_rfl)
#print axioms cssstrUnits_card
end Go.Proofs.YtdpnnglfaofjeaaDoor

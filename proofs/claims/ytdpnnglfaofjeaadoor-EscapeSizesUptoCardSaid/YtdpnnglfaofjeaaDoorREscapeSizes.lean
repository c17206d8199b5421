/- Of every kind and value of bulk at most 1048576: the law EscapeSizes returns true and leaves its arguments alone. -/
import Derived.Test.YtdpnnglfaofjeaaDoorZI6
import Derived.Test.YtdpnnglfaofjeaaDoorCards
import Derived.Test.YtdpnnglfaofjeaaDoorMI
import Derived.Test.YtdpnnglfaofjeaaDoorTie
import Derived.Deep.DeepHandedRow
import Derived.Lib.LaidTab
import Derived.LaidSub
import Derived.Lay
import Derived.WalkKit
import Derived.ProofKit
import Derived.OpenShut
import Derived.ShutString
import Derived.ChangeOld
import Derived.Below
import Derived.JoinedCond
namespace Go.Proofs.YtdpnnglfaofjeaaDoor.escapeSizesRow
open Go.ChangeShapes Go.WideShapes Go.ChangeAt Go.RowKit Opening Go.Proofs.YtdpnnglfaofjeaaDoorW.PrintWords
open Go.ChangeMaps (open_string shut_string)
open Y
set_option linter.unusedVariables false
set_option maxRecDepth 100000
set_option linter.unusedSimpArgs false

theorem own : ownKnob Tryd.prog.godebug = none := by kernel_rfl
theorem laidOut : laidOutB Tryd.prog = true := by kernel_rfl


theorem contract (H : Type) (enc : TypeId × Value → H) (W : World) (base : Nat) (args : Array Value) (ds gs : List (DataW H)) (before : List MemPlace)
    (hval : ∀ (j : Nat) t v, Tryd.f21.params[j]? = some t → args[j]? = some v → Value.okWide Tryd.prog W .any base t v)
    (hW : DataW.Whole enc Tryd.prog Tryd.f21.params.toList Rows.escapeSizesSpec.vars false W args.toList ds gs before) (hk : Rows.uptoSmall H (ds ++ gs) = true) (hL : laidMetH Tryd.prog Rows.escapeSizesUptoRow.laid W) (hsh : W.ShapedOpen Tryd.prog) :
    Calls Tryd.prog 21 args W fun e W' => ∃ v, e = .returned v ∧ Rows.escapeSizesSpec.post enc Tryd.prog Tryd.f21 false true false false W args v W' := by
  have hW' := hW
  obtain ⟨p, q, hA0, hV, rfl, hfz, hnd⟩ := hW
  have hA : DataW.TrodAll enc Tryd.prog W 0 (fun _ => true) true Tryd.f21.params.toList args.toList ds p := hA0
  rw [Tryd.params21] at hA hval
  obtain ⟨v0, vs0, d0, ds0, p0, q0, hargs, rfl, rfl, h0, r0⟩ := trodAll_cons hA
  obtain ⟨v1, vs1, d1, ds1, p1, q1, rfl, rfl, rfl, h1, r1⟩ := trodAll_cons r0
  obtain ⟨rfl, rfl, rfl⟩ := trodAll_nil r1
  obtain rfl : args = #[v0, v1] := by cases args; simp_all
  obtain ⟨rfl, rfl⟩ := trodVars_none hV
  obtain ⟨a0, rfl, rfl, rfl, w0⟩ := open_int Tryd.underlying5 (hval 0 5 v0 rfl rfl) h0
  obtain ⟨A1, len1, cap1, rfl⟩ := okWide_slice Tryd.underlying22 (hval 1 22 v1 rfl rfl)
  have k1 := h1
  have lt1 : ∀ x ∈ p1, x.block < W.heap.size := by obtain ⟨m, hm⟩ := k1; exact DataW.trod_lt m _ _ _ hm
  obtain ⟨l1, ⟨B1, c1, e1, hc1, hr1⟩, g1, b1⟩ := (have ⟨_, hf⟩ := h1; opens_slice (d := Kd.int .u8) Tryd.underlying22 (by kernel_rfl) (opens_int Tryd.underlying5) hf)
  simp only [Value.cells, List.cons.injEq, Value.slice.injEq, and_true] at e1
  obtain ⟨rfl, rfl, rfl⟩ := e1
  replace b1 : (l1.map fun _ => 1).sum + 1 ≤ Rows.uptoBulk d1 := b1
  have hbk : Rows.uptoBulkAll ([DataW.lit (.int .u8 a0), d1] ++ []) ≤ 1048576 := of_decide_eq_true hk
  have hsz : (1) + ((l1.map fun _ => 1).sum + 1) ≤ 1048576 := by
    simp only [List.append_nil, Rows.uptoBulkAll, Rows.uptoBulk] at hbk
    omega
  clear hbk hk
  have hwalk : Calls Tryd.prog 21 #[.int .u8 a0, .slice A1 l1.length cap1] W fun e W' => e = .returned (.bool true) ∧ Below W.heap.size W W' := by
    clear hW' hA0 hval k1 h0 h1
    have hm0 := sum_ones l1
    exact sizes_calls a0 (u8_range w0) l1 _ _ W hr1 hc1 (by omega) (fun x hx => u8_range (g1.2 x hx)) (envOK hL hsh)
  refine hwalk.mono fun e W' ⟨he, bel⟩ => ?_
  subst he
  exact ⟨_, rfl, _, _, _, [], _, [], hW', trodAll_mk1 (shut_bool Tryd.underlying4 _), (trodAll_cons_mk (shut_int Tryd.underlying5 w0) (trodAll_cons_mk (Below.trod laidOut (by kernel_rfl) (of_decide_eq_true (by kernel_rfl)) k1 bel lt1) trodAll_mk0)), rfl, bel.frame _, fun h => by cases h⟩

noncomputable def laidW (os : Os) : World := World.laidAll Tryd.prog os Rows.escapeSizesUptoRow.laid
theorem laid_met (os : Os) : laidMet Tryd.prog Rows.escapeSizesUptoRow.laid ((laidW os).forCall (fun _ _ => 0) ⟨#[], #[.int .u8 0, .slice none 0 0], []⟩).memory :=
  laidMet_laidAll #[.int .u8 0, .slice none 0 0] (by kernel_rfl) (by kernel_rfl)
theorem reads (os : Os) {H : Type} (enc : TypeId × Value → H) : ∃ places, DataW.whole enc Tryd.prog ((laidW os).forCall (fun _ _ => 0) ⟨#[], #[.int .u8 0, .slice none 0 0], []⟩).memory Tryd.f21.params.toList Rows.escapeSizesSpec.vars false (#[.int .u8 0, .slice none 0 0] : Array Value).toList 8 = some ([.lit (.int .u8 0), .nil], [], places) :=
  ⟨[], by kernel_rfl⟩
set_option maxRecDepth 100000 in
theorem lifted (os : Os) (started : os.Started) (H : Type) (enc : TypeId × Value → H) (F : Stop.Interp) :
    ReturnsInHanded {} Tryd.checked os 21 .any ((Rows.OpenSpec.upto Rows.escapeSizesSpec).preRow enc Tryd.prog Tryd.f21 Rows.escapeSizesUptoRow.domain false Rows.escapeSizesUptoRow.laid) (((Rows.OpenSpec.upto Rows.escapeSizesSpec).at F).post enc Tryd.prog Tryd.f21 false true false false) := by
  obtain ⟨places, hx⟩ := reads os enc
  refine returnsInHanded_of_row (C := Tryd.checked) (s := (Rows.OpenSpec.upto Rows.escapeSizesSpec)) own started (by kernel_rfl) Tryd.func21
    (witness_row_at (enc := enc) (C := Tryd.checked) false (laidW os) #[.int .u8 0, .slice none 0 0] (World.laidAll_os _ _ _) (by kernel_rfl) (by kernel_rfl) (by kernel_rfl)
      (OpenSpec.preRow_of_cond 8 hx (by kernel_rfl) (fun k hk => by cases hk; kernel_rfl) (by kernel_rfl) (laid_met os))) ?_
  intro W base args ds gs before hval hW _ hcond _ hL hsh _
  exact contract H enc W base args ds gs before hval hW (hcond _ rfl) hL hsh
theorem fact1 : Tryd.prog.funcNamed Rows.escapeSizesUptoRow.func = some 21 := by kernel_rfl
theorem andI {a b : Bool} (h : a = true) (k : b = true) : (a && b) = true := by rw [h, k]; rfl
theorem cf0 : (Rows.escapeSizesUptoRow.wf (OpenSpec.ofChange ((Rows.OpenSpec.upto Rows.escapeSizesSpec).bare))) = true := by kernel_rfl
theorem cf1 : (laidOutB Tryd.prog) = true := by kernel_rfl
theorem cf2 : (mapsRowed Tryd.prog) = true := by kernel_rfl
theorem cf3 : (Tryd.f21.params.all (Tryd.prog.readableRec ·)) = true := by kernel_rfl
theorem cf4 : (namedTie Tryd.prog Rows.escapeSizesUptoRow.named ((Rows.OpenSpec.upto Rows.escapeSizesSpec).bare).vars) = true := by kernel_rfl
theorem cf5 : ((Rows.escapeSizesUptoRow.stops == [])) = true := by kernel_rfl
theorem cf6 : ((Tryd.prog.stops == [])) = true := by kernel_rfl
theorem cf7 : ((Rows.escapeSizesUptoRow.knobs == [])) = true := by kernel_rfl
theorem cf8 : ((Tryd.prog.stopKnobs == [])) = true := by kernel_rfl
theorem cf9 : ((Rows.escapeSizesUptoRow.inPlace == Tryd.prog.inPlace 21)) = true := by kernel_rfl
theorem cf10 : ((Rows.escapeSizesUptoRow.unfollowed == Tryd.prog.unfollowed 21)) = true := by kernel_rfl
theorem cf11 : ((Rows.escapeSizesUptoRow.recurses == Tryd.prog.recurses 21)) = true := by kernel_rfl
theorem cf12 : ((Rows.escapeSizesUptoRow.named == Tryd.prog.varsNamed 21)) = true := by kernel_rfl
theorem cf13 : ((Rows.escapeSizesUptoRow.maps == (Tryd.f21.params.toList ++ ((Rows.OpenSpec.upto Rows.escapeSizesSpec).bare).plain.varTypes Tryd.prog).any (Tryd.prog.mapsRec ·))) = true := by kernel_rfl
theorem cf14 : ((Rows.escapeSizesUptoRow.ifaces == (Tryd.f21.params.toList ++ ((Rows.OpenSpec.upto Rows.escapeSizesSpec).bare).plain.varTypes Tryd.prog).any (Tryd.prog.ifacesRec ·))) = true := by kernel_rfl
theorem cf15 : ((Rows.escapeSizesUptoRow.mapsOut == Tryd.prog.mapsAmong Tryd.f21.resultTypes.toList)) = true := by kernel_rfl
theorem cf16 : ((Rows.escapeSizesUptoRow.loops == (Tryd.f21.params.toList ++ ((Rows.OpenSpec.upto Rows.escapeSizesSpec).bare).plain.varTypes Tryd.prog).any (Tryd.prog.loopsFrom ·))) = true := by kernel_rfl
theorem cf17 : ((Rows.escapeSizesUptoRow.wideKeys == (Tryd.f21.params.toList ++ ((Rows.OpenSpec.upto Rows.escapeSizesSpec).bare).plain.varTypes Tryd.prog ++ Tryd.f21.resultTypes.toList).any (Tryd.prog.wideKeysFrom ·))) = true := by kernel_rfl
theorem cf18 : (((Rows.OpenSpec.upto Rows.escapeSizesSpec).bare).vars.all (Tryd.prog.varReadable ·)) = true := by kernel_rfl
theorem cf19 : (Tryd.f21.resultTypes.all (fun t => Tryd.prog.readableRec t && decide (t < Tryd.prog.types.size))) = true := by kernel_rfl
theorem cf20 : ((Rows.escapeSizesUptoRow.ifacesOut == Tryd.f21.resultTypes.toList.any (Tryd.prog.ifacesRec ·))) = true := by kernel_rfl
theorem cf21 : ((Rows.escapeSizesUptoRow.loopsOut == Tryd.f21.resultTypes.toList.any (Tryd.prog.loopsFrom ·))) = true := by kernel_rfl
theorem cf22 : ((Rows.escapeSizesUptoRow.plainKeys == Tryd.prog.plainKeys)) = true := by kernel_rfl
theorem cf23 : (Rows.escapeSizesUptoRow.shortTexts.isNone) = true := by kernel_rfl
theorem cf24 : (Tryd.prog.stopsHeard) = true := by kernel_rfl
theorem cf25 : (Tryd.prog.mayEnter) = true := by kernel_rfl
theorem cf26 : ((Rows.escapeSizesUptoRow.lifted == Tryd.prog.liftsFinal)) = true := by kernel_rfl
theorem cf27 : ((Tryd.prog.make == some Rows.escapeSizesUptoRow.make)) = true := by kernel_rfl
theorem cf28 : ((Rows.escapeSizesUptoRow.kinds == (if Rows.escapeSizesUptoRow.domain.isEmpty then [] else Tryd.f21.params.toList.map fun t => match Tryd.prog.underlying t with | some (.int k) => some k | _ => none))) = true := by kernel_rfl
theorem cf29 : ((Rows.escapeSizesUptoRow.pinned == Rows.escapeSizesUptoRow.pinnedBy)) = true := by kernel_rfl
theorem cf30 : ((Rows.escapeSizesUptoRow.veiled == (Tryd.f21.params.toList ++ ((Rows.OpenSpec.upto Rows.escapeSizesSpec).bare).plain.varTypes Tryd.prog ++ Tryd.f21.resultTypes.toList).any (Tryd.prog.veiledRec ·))) = true := by kernel_rfl
theorem cf31 : (Rows.escapeSizesUptoRow.veiledFits Tryd.prog Tryd.f21.params.toList (Tryd.f21.params.toList ++ ((Rows.OpenSpec.upto Rows.escapeSizesSpec).bare).plain.varTypes Tryd.prog ++ Tryd.f21.resultTypes.toList)) = true := by kernel_rfl
set_option maxRecDepth 100000 in
theorem fact2 : joinedFacts Tryd.prog 21 Tryd.f21 (Rows.OpenSpec.upto Rows.escapeSizesSpec).bare Rows.escapeSizesUptoRow = true := by
  unfold joinedFacts
  exact (andI (andI (andI (andI (andI (andI (andI (andI (andI (andI (andI (andI (andI (andI (andI (andI (andI (andI (andI (andI (andI (andI (andI (andI (andI (andI (andI (andI (andI (andI (andI cf0 cf1) cf2) cf3) cf4) cf5) cf6) cf7) cf8) cf9) cf10) cf11) cf12) cf13) cf14) cf15) cf16) cf17) cf18) cf19) cf20) cf21) cf22) cf23) cf24) cf25) cf26) cf27) cf28) cf29) cf30) cf31)
theorem fact3 : Tryd.f21.isInstance Tryd.prog Rows.escapeSizesUptoRow.origin Rows.escapeSizesUptoRow.targs := of_decide_eq_true (by kernel_rfl)
theorem fact4 : Tryd.f21.isWrapper Tryd.prog Rows.escapeSizesUptoRow.wrapper Rows.escapeSizesUptoRow.mainSum := by
  unfold Func.isWrapper; first | (rw [if_pos (by decide +kernel)]; kernel_rfl) | (rw [if_neg (by decide +kernel)]; exact ⟨rfl, rfl⟩)
theorem step (os : Os) (started : os.Started) (H : Type) (enc : TypeId × Value → H) (F : Stop.Interp) :
    ReturnsInHanded Rows.escapeSizesUptoRow.assume Tryd.checked os 21 .any (Rows.escapeSizesUptoRow.pre enc Tryd.prog Tryd.f21 (Rows.OpenSpec.upto Rows.escapeSizesSpec)) (((Rows.OpenSpec.upto Rows.escapeSizesSpec).at F).post enc Tryd.prog Tryd.f21 Rows.escapeSizesUptoRow.apart Rows.escapeSizesUptoRow.fresh Rows.escapeSizesUptoRow.handsOn Rows.escapeSizesUptoRow.again) := by
  rw [OpenClaim.pre_eq_preRow]; exact lifted os started H enc F
theorem said : Rows.EscapeSizesUptoSaid :=
  OpenClaim.holds_of_cond (p := Tryd.pinned) (c := Rows.escapeSizesUptoRow) (s := (Rows.OpenSpec.upto Rows.escapeSizesSpec)) 21 Tryd.f21 rfl rfl rfl rfl rfl rfl rfl ⟨rfl, rfl, rfl, rfl, rfl⟩ rfl rfl rfl rfl rfl fact1 Tryd.func21 fact2 fact3 fact4
    (fun os started H enc _ F => step os started H enc F)
theorem plain (f : FuncId) (fn : Func) (hf : Tryd.pinned.checked.prog.funcNamed "bobbin/bobbinlaw08.EscapeSizes" = some f) (hfn : Tryd.pinned.checked.prog.funcs[f]? = some fn) :
    false = Tryd.pinned.checked.prog.looks [] ∧ ∀ (j : Nat) t, fn.params[j]? = some t → Tryd.pinned.checked.prog.wantsStandIn t = false := by
  obtain rfl : f = 21 := Option.some.inj ((show Tryd.prog.funcNamed "bobbin/bobbinlaw08.EscapeSizes" = some 21 by kernel_rfl).symm.trans hf) |>.symm
  obtain rfl : fn = Tryd.f21 := (Option.some.inj (Tryd.func21.symm.trans hfn)).symm
  refine ⟨by kernel_rfl, fun j t ht => ?_⟩
  have hall : Tryd.f21.params.all (fun t => Tryd.prog.wantsStandIn t == false) = true := by kernel_rfl
  exact eq_of_beq (Array.all_eq_true'.1 hall t (Array.mem_of_getElem? ht))
end Go.Proofs.YtdpnnglfaofjeaaDoor.escapeSizesRow
namespace Go.Proofs.YtdpnnglfaofjeaaDoor
theorem escapeSizes_cw : Rows.escapeSizesUptoRow.wfByText (Rows.OpenSpec.upto Rows.escapeSizesSpec) = true := by kernel_rfl
theorem escapeSizes_cg : false = Rows.escapeSizesUptoRow.goesBy Tryd.pinned.checked.prog := by kernel_rfl
theorem escapeSizes_card : Rows.EscapeSizesUptoCardSaid :=
  Claim7.holds_tied_plain_at .later [] _ _ _ _ escapeSizesRow.said (fun _ h => by cases h) escapeSizes_cw (fun _ h => by cases h) escapeSizesUpto_row_tie rfl ⟨rfl, rfl⟩ mainIs_fact rfl escapeSizesRow.plain escapeSizes_cg
#print axioms escapeSizes_card
end Go.Proofs.YtdpnnglfaofjeaaDoor

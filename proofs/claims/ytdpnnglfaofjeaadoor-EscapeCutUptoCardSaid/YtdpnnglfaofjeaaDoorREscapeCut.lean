/- Of every kind, value and place of bulk at most 1048576: the law EscapeCut returns true and leaves its arguments alone. -/
import Derived.Test.YtdpnnglfaofjeaaDoorZP6
import Derived.Test.YtdpnnglfaofjeaaDoorCards
import Derived.Test.YtdpnnglfaofjeaaDoorMI
import Derived.Test.YtdpnnglfaofjeaaDoorTie
import Derived.Deep.DeepHandedRow
import Derived.Lib.LaidTab
import Derived.LaidSub
import Derived.Lay
import Derived.WalkKit
import Derived.ProofKit
import Derived.OpenShut
import Derived.ShutString
import Derived.ChangeOld
import Derived.Below
import Derived.JoinedCond
namespace Go.Proofs.YtdpnnglfaofjeaaDoor.escapeCutRow
open Go.ChangeShapes Go.WideShapes Go.ChangeAt Go.RowKit Opening Go.Proofs.YtdpnnglfaofjeaaDoorW.PrintWords
open Go.ChangeMaps (open_string shut_string)
open Y
set_option linter.unusedVariables false
set_option maxRecDepth 100000
set_option linter.unusedSimpArgs false

theorem own : ownKnob Tryd.prog.godebug = none := by kernel_rfl
theorem laidOut : laidOutB Tryd.prog = true := by kernel_rfl


theorem contract (H : Type) (enc : TypeId × Value → H) (W : World) (base : Nat) (args : Array Value) (ds gs : List (DataW H)) (before : List MemPlace)
    (hval : ∀ (j : Nat) t v, Tryd.f18.params[j]? = some t → args[j]? = some v → Value.okWide Tryd.prog W .any base t v)
    (hW : DataW.Whole enc Tryd.prog Tryd.f18.params.toList Rows.escapeCutSpec.vars false W args.toList ds gs before) (hk : Rows.uptoSmall H (ds ++ gs) = true) (hL : laidMetH Tryd.prog Rows.escapeCutUptoRow.laid W) (hsh : W.ShapedOpen Tryd.prog) :
    Calls Tryd.prog 18 args W fun e W' => ∃ v, e = .returned v ∧ Rows.escapeCutSpec.post enc Tryd.prog Tryd.f18 false true false false W args v W' := by
  have hW' := hW
  obtain ⟨p, q, hA0, hV, rfl, hfz, hnd⟩ := hW
  have hA : DataW.TrodAll enc Tryd.prog W 0 (fun _ => true) true Tryd.f18.params.toList args.toList ds p := hA0
  rw [Tryd.params18] at hA hval
  obtain ⟨v0, vs0, d0, ds0, p0, q0, hargs, rfl, rfl, h0, r0⟩ := trodAll_cons hA
  obtain ⟨v1, vs1, d1, ds1, p1, q1, rfl, rfl, rfl, h1, r1⟩ := trodAll_cons r0
  obtain ⟨v2, vs2, d2, ds2, p2, q2, rfl, rfl, rfl, h2, r2⟩ := trodAll_cons r1
  obtain ⟨rfl, rfl, rfl⟩ := trodAll_nil r2
  obtain rfl : args = #[v0, v1, v2] := by cases args; simp_all
  obtain ⟨rfl, rfl⟩ := trodVars_none hV
  obtain ⟨a0, rfl, rfl, rfl, w0⟩ := open_int Tryd.underlying5 (hval 0 5 v0 rfl rfl) h0
  obtain ⟨A1, len1, cap1, rfl⟩ := okWide_slice Tryd.underlying22 (hval 1 22 v1 rfl rfl)
  have k1 := h1
  have lt1 : ∀ x ∈ p1, x.block < W.heap.size := by obtain ⟨m, hm⟩ := k1; exact DataW.trod_lt m _ _ _ hm
  obtain ⟨l1, ⟨B1, c1, e1, hc1, hr1⟩, g1, b1⟩ := (have ⟨_, hf⟩ := h1; opens_slice (d := Kd.int .u8) Tryd.underlying22 (by kernel_rfl) (opens_int Tryd.underlying5) hf)
  simp only [Value.cells, List.cons.injEq, Value.slice.injEq, and_true] at e1
  obtain ⟨rfl, rfl, rfl⟩ := e1
  obtain ⟨a2, rfl, rfl, rfl, w2⟩ := open_int Tryd.underlying30 (hval 2 30 v2 rfl rfl) h2
  replace b1 : (l1.map fun _ => 1).sum + 1 ≤ Rows.uptoBulk d1 := b1
  have hbk : Rows.uptoBulkAll ([DataW.lit (.int .u8 a0), d1, DataW.lit (.int .u16 a2)] ++ []) ≤ 1048576 := of_decide_eq_true hk
  have hsz : (1) + ((l1.map fun _ => 1).sum + 1) + (1) ≤ 1048576 := by
    simp only [List.append_nil, Rows.uptoBulkAll, Rows.uptoBulk] at hbk
    omega
  clear hbk hk
  have hwalk : Calls Tryd.prog 18 #[.int .u8 a0, .slice A1 l1.length cap1, .int .u16 a2] W fun e W' => e = .returned (.bool true) ∧ Below W.heap.size W W' := by
    clear hW' hA0 hval k1 h0 h1 h2
    have hm0 := sum_ones l1
    exact cut8_calls a0 (u8_range w0) l1 _ _ a2 W hr1 hc1 (by omega) (u16_range w2) (fun x hx => u8_range (g1.2 x hx)) (envOK hL hsh)
  refine hwalk.mono fun e W' ⟨he, bel⟩ => ?_
  subst he
  exact ⟨_, rfl, _, _, _, [], _, [], hW', trodAll_mk1 (shut_bool Tryd.underlying4 _), (trodAll_cons_mk (shut_int Tryd.underlying5 w0) (trodAll_cons_mk (Below.trod laidOut (by kernel_rfl) (of_decide_eq_true (by kernel_rfl)) k1 bel lt1) (trodAll_cons_mk (shut_int Tryd.underlying30 w2) trodAll_mk0))), rfl, bel.frame _, fun h => by cases h⟩

noncomputable def laidW (os : Os) : World := World.laidAll Tryd.prog os Rows.escapeCutUptoRow.laid
theorem laid_met (os : Os) : laidMet Tryd.prog Rows.escapeCutUptoRow.laid ((laidW os).forCall (fun _ _ => 0) ⟨#[], #[.int .u8 0, .slice none 0 0, .int .u16 0], []⟩).memory :=
  laidMet_laidAll #[.int .u8 0, .slice none 0 0, .int .u16 0] (by kernel_rfl) (by kernel_rfl)
theorem reads (os : Os) {H : Type} (enc : TypeId × Value → H) : ∃ places, DataW.whole enc Tryd.prog ((laidW os).forCall (fun _ _ => 0) ⟨#[], #[.int .u8 0, .slice none 0 0, .int .u16 0], []⟩).memory Tryd.f18.params.toList Rows.escapeCutSpec.vars false (#[.int .u8 0, .slice none 0 0, .int .u16 0] : Array Value).toList 8 = some ([.lit (.int .u8 0), .nil, .lit (.int .u16 0)], [], places) :=
  ⟨[], by kernel_rfl⟩
set_option maxRecDepth 100000 in
theorem lifted (os : Os) (started : os.Started) (H : Type) (enc : TypeId × Value → H) (F : Stop.Interp) :
    ReturnsInHanded {} Tryd.checked os 18 .any ((Rows.OpenSpec.upto Rows.escapeCutSpec).preRow enc Tryd.prog Tryd.f18 Rows.escapeCutUptoRow.domain false Rows.escapeCutUptoRow.laid) (((Rows.OpenSpec.upto Rows.escapeCutSpec).at F).post enc Tryd.prog Tryd.f18 false true false false) := by
  obtain ⟨places, hx⟩ := reads os enc
  refine returnsInHanded_of_row (C := Tryd.checked) (s := (Rows.OpenSpec.upto Rows.escapeCutSpec)) own started (by kernel_rfl) Tryd.func18
    (witness_row_at (enc := enc) (C := Tryd.checked) false (laidW os) #[.int .u8 0, .slice none 0 0, .int .u16 0] (World.laidAll_os _ _ _) (by kernel_rfl) (by kernel_rfl) (by kernel_rfl)
      (OpenSpec.preRow_of_cond 8 hx (by kernel_rfl) (fun k hk => by cases hk; kernel_rfl) (by kernel_rfl) (laid_met os))) ?_
  intro W base args ds gs before hval hW _ hcond _ hL hsh _
  exact contract H enc W base args ds gs before hval hW (hcond _ rfl) hL hsh
theorem fact1 : Tryd.prog.funcNamed Rows.escapeCutUptoRow.func = some 18 := by kernel_rfl
theorem andI {a b : Bool} (h : a = true) (k : b = true) : (a && b) = true := by rw [h, k]; rfl
theorem cf0 : (Rows.escapeCutUptoRow.wf (OpenSpec.ofChange ((Rows.OpenSpec.upto Rows.escapeCutSpec).bare))) = true := by kernel_rfl
theorem cf1 : (laidOutB Tryd.prog) = true := by kernel_rfl
theorem cf2 : (mapsRowed Tryd.prog) = true := by kernel_rfl
theorem cf3 : (Tryd.f18.params.all (Tryd.prog.readableRec ·)) = true := by kernel_rfl
theorem cf4 : (namedTie Tryd.prog Rows.escapeCutUptoRow.named ((Rows.OpenSpec.upto Rows.escapeCutSpec).bare).vars) = true := by kernel_rfl
theorem cf5 : ((Rows.escapeCutUptoRow.stops == [])) = true := by kernel_rfl
theorem cf6 : ((Tryd.prog.stops == [])) = true := by kernel_rfl
theorem cf7 : ((Rows.escapeCutUptoRow.knobs == [])) = true := by kernel_rfl
theorem cf8 : ((Tryd.prog.stopKnobs == [])) = true := by kernel_rfl
theorem cf9 : ((Rows.escapeCutUptoRow.inPlace == Tryd.prog.inPlace 18)) = true := by kernel_rfl
theorem cf10 : ((Rows.escapeCutUptoRow.unfollowed == Tryd.prog.unfollowed 18)) = true := by kernel_rfl
theorem cf11 : ((Rows.escapeCutUptoRow.recurses == Tryd.prog.recurses 18)) = true := by kernel_rfl
theorem cf12 : ((Rows.escapeCutUptoRow.named == Tryd.prog.varsNamed 18)) = true := by kernel_rfl
theorem cf13 : ((Rows.escapeCutUptoRow.maps == (Tryd.f18.params.toList ++ ((Rows.OpenSpec.upto Rows.escapeCutSpec).bare).plain.varTypes Tryd.prog).any (Tryd.prog.mapsRec ·))) = true := by kernel_rfl
theorem cf14 : ((Rows.escapeCutUptoRow.ifaces == (Tryd.f18.params.toList ++ ((Rows.OpenSpec.upto Rows.escapeCutSpec).bare).plain.varTypes Tryd.prog).any (Tryd.prog.ifacesRec ·))) = true := by kernel_rfl
theorem cf15 : ((Rows.escapeCutUptoRow.mapsOut == Tryd.prog.mapsAmong Tryd.f18.resultTypes.toList)) = true := by kernel_rfl
theorem cf16 : ((Rows.escapeCutUptoRow.loops == (Tryd.f18.params.toList ++ ((Rows.OpenSpec.upto Rows.escapeCutSpec).bare).plain.varTypes Tryd.prog).any (Tryd.prog.loopsFrom ·))) = true := by kernel_rfl
theorem cf17 : ((Rows.escapeCutUptoRow.wideKeys == (Tryd.f18.params.toList ++ ((Rows.OpenSpec.upto Rows.escapeCutSpec).bare).plain.varTypes Tryd.prog ++ Tryd.f18.resultTypes.toList).any (Tryd.prog.wideKeysFrom ·))) = true := by kernel_rfl
theorem cf18 : (((Rows.OpenSpec.upto Rows.escapeCutSpec).bare).vars.all (Tryd.prog.varReadable ·)) = true := by kernel_rfl
theorem cf19 : (Tryd.f18.resultTypes.all (fun t => Tryd.prog.readableRec t && decide (t < Tryd.prog.types.size))) = true := by kernel_rfl
theorem cf20 : ((Rows.escapeCutUptoRow.ifacesOut == Tryd.f18.resultTypes.toList.any (Tryd.prog.ifacesRec ·))) = true := by kernel_rfl
theorem cf21 : ((Rows.escapeCutUptoRow.loopsOut == Tryd.f18.resultTypes.toList.any (Tryd.prog.loopsFrom ·))) = true := by kernel_rfl
theorem cf22 : ((Rows.escapeCutUptoRow.plainKeys == Tryd.prog.plainKeys)) = true := by kernel_rfl
theorem cf23 : (Rows.escapeCutUptoRow.shortTexts.isNone) = true := by kernel_rfl
theorem cf24 : (Tryd.prog.stopsHeard) = true := by kernel_rfl
theorem cf25 : (Tryd.prog.mayEnter) = true := by kernel_rfl
theorem cf26 : ((Rows.escapeCutUptoRow.lifted == Tryd.prog.liftsFinal)) = true := by kernel_rfl
theorem cf27 : ((Tryd.prog.make == some Rows.escapeCutUptoRow.make)) = true := by kernel_rfl
theorem cf28 : ((Rows.escapeCutUptoRow.kinds == (if Rows.escapeCutUptoRow.domain.isEmpty then [] else Tryd.f18.params.toList.map fun t => match Tryd.prog.underlying t with | some (.int k) => some k | _ => none))) = true := by kernel_rfl
theorem cf29 : ((Rows.escapeCutUptoRow.pinned == Rows.escapeCutUptoRow.pinnedBy)) = true := by kernel_rfl
theorem cf30 : ((Rows.escapeCutUptoRow.veiled == (Tryd.f18.params.toList ++ ((Rows.OpenSpec.upto Rows.escapeCutSpec).bare).plain.varTypes Tryd.prog ++ Tryd.f18.resultTypes.toList).any (Tryd.prog.veiledRec ·))) = true := by kernel_rfl
theorem cf31 : (Rows.escapeCutUptoRow.veiledFits Tryd.prog Tryd.f18.params.toList (Tryd.f18.params.toList ++ ((Rows.OpenSpec.upto Rows.escapeCutSpec).bare).plain.varTypes Tryd.prog ++ Tryd.f18.resultTypes.toList)) = true := by kernel_rfl
set_option maxRecDepth 100000 in
theorem fact2 : joinedFacts Tryd.prog 18 Tryd.f18 (Rows.OpenSpec.upto Rows.escapeCutSpec).bare Rows.escapeCutUptoRow = true := by
  unfold joinedFacts
  exact (andI (andI (andI (andI (andI (andI (andI (andI (andI (andI (andI (andI (andI (andI (andI (andI (andI (andI (andI (andI (andI (andI (andI (andI (andI (andI (andI (andI (andI (andI (andI cf0 cf1) cf2) cf3) cf4) cf5) cf6) cf7) cf8) cf9) cf10) cf11) cf12) cf13) cf14) cf15) cf16) cf17) cf18) cf19) cf20) cf21) cf22) cf23) cf24) cf25) cf26) cf27) cf28) cf29) cf30) cf31)
theorem fact3 : Tryd.f18.isInstance Tryd.prog Rows.escapeCutUptoRow.origin Rows.escapeCutUptoRow.targs := of_decide_eq_true (by kernel_rfl)
theorem fact4 : Tryd.f18.isWrapper Tryd.prog Rows.escapeCutUptoRow.wrapper Rows.escapeCutUptoRow.mainSum := by
  unfold Func.isWrapper; first | (rw [if_pos (by decide +kernel)]; kernel_rfl) | (rw [if_neg (by decide +kernel)]; exact ⟨rfl, rfl⟩)
theorem step (os : Os) (started : os.Started) (H : Type) (enc : TypeId × Value → H) (F : Stop.Interp) :
    ReturnsInHanded Rows.escapeCutUptoRow.assume Tryd.checked os 18 .any (Rows.escapeCutUptoRow.pre enc Tryd.prog Tryd.f18 (Rows.OpenSpec.upto Rows.escapeCutSpec)) (((Rows.OpenSpec.upto Rows.escapeCutSpec).at F).post enc Tryd.prog Tryd.f18 Rows.escapeCutUptoRow.apart Rows.escapeCutUptoRow.fresh Rows.escapeCutUptoRow.handsOn Rows.escapeCutUptoRow.again) := by
  rw [OpenClaim.pre_eq_preRow]; exact lifted os started H enc F
theorem said : Rows.EscapeCutUptoSaid :=
  OpenClaim.holds_of_cond (p := Tryd.pinned) (c := Rows.escapeCutUptoRow) (s := (Rows.OpenSpec.upto Rows.escapeCutSpec)) 18 Tryd.f18 rfl rfl rfl rfl rfl rfl rfl ⟨rfl, rfl, rfl, rfl, rfl⟩ rfl rfl rfl rfl rfl fact1 Tryd.func18 fact2 fact3 fact4
    (fun os started H enc _ F => step os started H enc F)
theorem plain (f : FuncId) (fn : Func) (hf : Tryd.pinned.checked.prog.funcNamed "bobbin/bobbinlaw08.EscapeCut" = some f) (hfn : Tryd.pinned.checked.prog.funcs[f]? = some fn) :
    false = Tryd.pinned.checked.prog.looks [] ∧ ∀ (j : Nat) t, fn.params[j]? = some t → Tryd.pinned.checked.prog.wantsStandIn t = false := by
  obtain rfl : f = 18 := Option.some.inj ((show Tryd.prog.funcNamed "bobbin/bobbinlaw08.EscapeCut" = some 18 by kernel_rfl).symm.trans hf) |>.symm
  obtain rfl : fn = Tryd.f18 := (Option.some.inj (Tryd.func18.symm.trans hfn)).symm
  refine ⟨by kernel_rfl, fun j t ht => ?_⟩
  have hall : Tryd.f18.params.all (fun t => Tryd.prog.wantsStandIn t == false) = true := by kernel_rfl
  exact eq_of_beq (Array.all_eq_true'.1 hall t (Array.mem_of_getElem? ht))
end Go.Proofs.YtdpnnglfaofjeaaDoor.escapeCutRow
namespace Go.Proofs.YtdpnnglfaofjeaaDoor
theorem escapeCut_cw : Rows.escapeCutUptoRow.wfByText (Rows.OpenSpec.upto Rows.escapeCutSpec) = true := by kernel_rfl
theorem escapeCut_cg : false = Rows.escapeCutUptoRow.goesBy Tryd.pinned.checked.prog := by kernel_rfl
theorem escapeCut_card : Rows.EscapeCutUptoCardSaid :=
  Claim7.holds_tied_plain_at .later [] _ _ _ _ escapeCutRow.said (fun _ h => by cases h) escapeCut_cw (fun _ h => by cases h) escapeCutUpto_row_tie rfl ⟨rfl, rfl⟩ mainIs_fact rfl escapeCutRow.plain escapeCut_cg
#print axioms escapeCut_card
end Go.Proofs.YtdpnnglfaofjeaaDoor

/- Of every kind, chunks and asks of bulk at most 1048576: the law EscapeFeeds returns true and leaves its arguments alone. -/
import Derived.Test.YtdpnnglfaofjeaaDoorZF7
import Derived.Test.YtdpnnglfaofjeaaDoorCards
import Derived.Test.YtdpnnglfaofjeaaDoorMI
import Derived.Test.YtdpnnglfaofjeaaDoorTie
import Derived.Deep.DeepHandedRow
import Derived.Lib.LaidTab
import Derived.LaidSub
import Derived.Lay
import Derived.WalkKit
import Derived.ProofKit
import Derived.OpenShut
import Derived.ShutString
import Derived.ChangeOld
import Derived.Below
import Derived.JoinedCond
namespace Go.Proofs.YtdpnnglfaofjeaaDoor.Y
open Go.RowKit Go.Proofs.YtdpnnglfaofjeaaDoorW.PrintWords Go.Proofs.YtdpnnglfaofjeaaDoorW.PrintLast Go.Proofs.YtdpnnglfaofjeaaDoorW.PrintMore
open Go.Proofs.YtdpnnglfaofjeaaDoor.V (RB RB.of_OB RB.lit info5 runeOf run rest3 clean chars DecIs IsB fffd only_setCell)
open Go.Proofs.YtdpnnglfaofjeaaDoor.Z (Only)
theorem ones_sum2 (l : List Int) : (l.map fun _ => 1).sum = l.length := by
  induction l with
  | nil => rfl
  | cons a l ih => rw [List.map_cons, List.sum_cons, ih, List.length_cons]; omega
theorem chunk_sum2 (cs : List (List Int)) : cs.flatten.length + cs.length ≤ (cs.map fun l => (l.map fun _ => 1).sum + 1).sum := by
  induction cs with
  | nil => simp
  | cons a cs ih =>
    rw [List.flatten_cons, List.length_append, List.length_cons, List.map_cons, List.sum_cons, ones_sum2]
    omega
theorem rows_small {cs : List (List Int)} (h : ∀ v ∈ cs, ∀ x ∈ v, 0 ≤ x ∧ x ≤ 255) (i : Nat) : IsB (rd2 cs i) := by
  intro x hx
  unfold rd2 at hx
  by_cases hi : i < cs.length
  · rw [List.getD_eq_getElem?_getD, List.getElem?_eq_getElem hi] at hx
    exact h _ (List.getElem_mem hi) x hx
  · rw [List.getD_eq_getElem?_getD, List.getElem?_eq_none (by omega)] at hx
    simp at hx
end Go.Proofs.YtdpnnglfaofjeaaDoor.Y
namespace Go.Proofs.YtdpnnglfaofjeaaDoor.escapeFeedsRow
open Go.ChangeShapes Go.WideShapes Go.ChangeAt Go.RowKit Opening Go.Proofs.YtdpnnglfaofjeaaDoorW.PrintWords
open Go.ChangeMaps (open_string shut_string)
open Y
set_option linter.unusedVariables false
set_option maxRecDepth 100000
set_option linter.unusedSimpArgs false

theorem own : ownKnob Tryd.prog.godebug = none := by kernel_rfl
theorem laidOut : laidOutB Tryd.prog = true := by kernel_rfl


theorem contract (H : Type) (enc : TypeId × Value → H) (W : World) (base : Nat) (args : Array Value) (ds gs : List (DataW H)) (before : List MemPlace)
    (hval : ∀ (j : Nat) t v, Tryd.f22.params[j]? = some t → args[j]? = some v → Value.okWide Tryd.prog W .any base t v)
    (hW : DataW.Whole enc Tryd.prog Tryd.f22.params.toList Rows.escapeFeedsSpec.vars false W args.toList ds gs before) (hk : Rows.uptoSmall H (ds ++ gs) = true) (hL : laidMetH Tryd.prog Rows.escapeFeedsUptoRow.laid W) (hsh : W.ShapedOpen Tryd.prog) :
    Calls Tryd.prog 22 args W fun e W' => ∃ v, e = .returned v ∧ Rows.escapeFeedsSpec.post enc Tryd.prog Tryd.f22 false true false false W args v W' := by
  have hW' := hW
  obtain ⟨p, q, hA0, hV, rfl, hfz, hnd⟩ := hW
  have hA : DataW.TrodAll enc Tryd.prog W 0 (fun _ => true) true Tryd.f22.params.toList args.toList ds p := hA0
  rw [Tryd.params22] at hA hval
  obtain ⟨v0, vs0, d0, ds0, p0, q0, hargs, rfl, rfl, h0, r0⟩ := trodAll_cons hA
  obtain ⟨v1, vs1, d1, ds1, p1, q1, rfl, rfl, rfl, h1, r1⟩ := trodAll_cons r0
  obtain ⟨v2, vs2, d2, ds2, p2, q2, rfl, rfl, rfl, h2, r2⟩ := trodAll_cons r1
  obtain ⟨rfl, rfl, rfl⟩ := trodAll_nil r2
  obtain rfl : args = #[v0, v1, v2] := by cases args; simp_all
  obtain ⟨rfl, rfl⟩ := trodVars_none hV
  obtain ⟨a0, rfl, rfl, rfl, w0⟩ := open_int Tryd.underlying5 (hval 0 5 v0 rfl rfl) h0
  obtain ⟨A1, len1, cap1, rfl⟩ := okWide_slice Tryd.underlying38 (hval 1 38 v1 rfl rfl)
  have k1 := h1
  have lt1 : ∀ x ∈ p1, x.block < W.heap.size := by obtain ⟨m, hm⟩ := k1; exact DataW.trod_lt m _ _ _ hm
  obtain ⟨l1, ⟨B1, c1, e1, hc1, hr1⟩, g1, b1⟩ := (have ⟨_, hf⟩ := h1; opens_slice (d := Kd.slice 5 (Kd.int .u8)) Tryd.underlying38 (by kernel_rfl) (opens_slice (d := Kd.int .u8) Tryd.underlying22 (by kernel_rfl) (opens_int Tryd.underlying5)) hf)
  simp only [Value.cells, List.cons.injEq, Value.slice.injEq, and_true] at e1
  obtain ⟨rfl, rfl, rfl⟩ := e1
  obtain ⟨A2, len2, cap2, rfl⟩ := okWide_slice Tryd.underlying39 (hval 2 39 v2 rfl rfl)
  have k2 := h2
  have lt2 : ∀ x ∈ p2, x.block < W.heap.size := by obtain ⟨m, hm⟩ := k2; exact DataW.trod_lt m _ _ _ hm
  obtain ⟨l2, ⟨B2, c2, e2, hc2, hr2⟩, g2, b2⟩ := (have ⟨_, hf⟩ := h2; opens_slice (d := Kd.bool) Tryd.underlying39 (by kernel_rfl) (opens_bool Tryd.underlying4) hf)
  simp only [Value.cells, List.cons.injEq, Value.slice.injEq, and_true] at e2
  obtain ⟨rfl, rfl, rfl⟩ := e2
  replace b1 : (l1.map fun q => (q.map fun _ => 1).sum + 1).sum + 1 ≤ Rows.uptoBulk d1 := b1
  replace b2 : (l2.map fun _ => 1).sum + 1 ≤ Rows.uptoBulk d2 := b2
  have hbk : Rows.uptoBulkAll ([DataW.lit (.int .u8 a0), d1, d2] ++ []) ≤ 1048576 := of_decide_eq_true hk
  have hsz : (1) + ((l1.map fun q => (q.map fun _ => 1).sum + 1).sum + 1) + ((l2.map fun _ => 1).sum + 1) ≤ 1048576 := by
    simp only [List.append_nil, Rows.uptoBulkAll, Rows.uptoBulk] at hbk
    omega
  clear hbk hk
  have hwalk : Calls Tryd.prog 22 #[.int .u8 a0, .slice A1 l1.length cap1, .slice A2 l2.length cap2] W fun e W' => e = .returned (.bool true) ∧ Below W.heap.size W W' := by
    clear hW' hA0 hval k1 k2 h0 h1 h2
    have hm0 := chunk_sum2 l1
    exact feeds8_calls a0 (u8_range w0) l1 l2 _ _ _ _ W hr1 hc1 hr2 hc2 (by omega) (rows_small (fun v hv x hx => u8_range ((g1.2 v hv).2 x hx))) (envOK hL hsh)
  refine hwalk.mono fun e W' ⟨he, bel⟩ => ?_
  subst he
  exact ⟨_, rfl, _, _, _, [], _, [], hW', trodAll_mk1 (shut_bool Tryd.underlying4 _), (trodAll_cons_mk (shut_int Tryd.underlying5 w0) (trodAll_cons_mk (Below.trod laidOut (by kernel_rfl) (of_decide_eq_true (by kernel_rfl)) k1 bel lt1) (trodAll_cons_mk (Below.trod laidOut (by kernel_rfl) (of_decide_eq_true (by kernel_rfl)) k2 bel lt2) trodAll_mk0))), rfl, bel.frame _, fun h => by cases h⟩

noncomputable def laidW (os : Os) : World := World.laidAll Tryd.prog os Rows.escapeFeedsUptoRow.laid
theorem laid_met (os : Os) : laidMet Tryd.prog Rows.escapeFeedsUptoRow.laid ((laidW os).forCall (fun _ _ => 0) ⟨#[], #[.int .u8 0, .slice none 0 0, .slice none 0 0], []⟩).memory :=
  laidMet_laidAll #[.int .u8 0, .slice none 0 0, .slice none 0 0] (by kernel_rfl) (by kernel_rfl)
theorem reads (os : Os) {H : Type} (enc : TypeId × Value → H) : ∃ places, DataW.whole enc Tryd.prog ((laidW os).forCall (fun _ _ => 0) ⟨#[], #[.int .u8 0, .slice none 0 0, .slice none 0 0], []⟩).memory Tryd.f22.params.toList Rows.escapeFeedsSpec.vars false (#[.int .u8 0, .slice none 0 0, .slice none 0 0] : Array Value).toList 8 = some ([.lit (.int .u8 0), .nil, .nil], [], places) :=
  ⟨[], by kernel_rfl⟩
set_option maxRecDepth 100000 in
theorem lifted (os : Os) (started : os.Started) (H : Type) (enc : TypeId × Value → H) (F : Stop.Interp) :
    ReturnsInHanded {} Tryd.checked os 22 .any ((Rows.OpenSpec.upto Rows.escapeFeedsSpec).preRow enc Tryd.prog Tryd.f22 Rows.escapeFeedsUptoRow.domain false Rows.escapeFeedsUptoRow.laid) (((Rows.OpenSpec.upto Rows.escapeFeedsSpec).at F).post enc Tryd.prog Tryd.f22 false true false false) := by
  obtain ⟨places, hx⟩ := reads os enc
  refine returnsInHanded_of_row (C := Tryd.checked) (s := (Rows.OpenSpec.upto Rows.escapeFeedsSpec)) own started (by kernel_rfl) Tryd.func22
    (witness_row_at (enc := enc) (C := Tryd.checked) false (laidW os) #[.int .u8 0, .slice none 0 0, .slice none 0 0] (World.laidAll_os _ _ _) (by kernel_rfl) (by kernel_rfl) (by kernel_rfl)
      (OpenSpec.preRow_of_cond 8 hx (by kernel_rfl) (fun k hk => by cases hk; kernel_rfl) (by kernel_rfl) (laid_met os))) ?_
  intro W base args ds gs before hval hW _ hcond _ hL hsh _
  exact contract H enc W base args ds gs before hval hW (hcond _ rfl) hL hsh
theorem fact1 : Tryd.prog.funcNamed Rows.escapeFeedsUptoRow.func = some 22 := by kernel_rfl
theorem andI {a b : Bool} (h : a = true) (k : b = true) : (a && b) = true := by rw [h, k]; rfl
theorem cf0 : (Rows.escapeFeedsUptoRow.wf (OpenSpec.ofChange ((Rows.OpenSpec.upto Rows.escapeFeedsSpec).bare))) = true := by kernel_rfl
theorem cf1 : (laidOutB Tryd.prog) = true := by kernel_rfl
theorem cf2 : (mapsRowed Tryd.prog) = true := by kernel_rfl
theorem cf3 : (Tryd.f22.params.all (Tryd.prog.readableRec ·)) = true := by kernel_rfl
theorem cf4 : (namedTie Tryd.prog Rows.escapeFeedsUptoRow.named ((Rows.OpenSpec.upto Rows.escapeFeedsSpec).bare).vars) = true := by kernel_rfl
theorem cf5 : ((Rows.escapeFeedsUptoRow.stops == [])) = true := by kernel_rfl
theorem cf6 : ((Tryd.prog.stops == [])) = true := by kernel_rfl
theorem cf7 : ((Rows.escapeFeedsUptoRow.knobs == [])) = true := by kernel_rfl
theorem cf8 : ((Tryd.prog.stopKnobs == [])) = true := by kernel_rfl
theorem cf9 : ((Rows.escapeFeedsUptoRow.inPlace == Tryd.prog.inPlace 22)) = true := by kernel_rfl
theorem cf10 : ((Rows.escapeFeedsUptoRow.unfollowed == Tryd.prog.unfollowed 22)) = true := by kernel_rfl
theorem cf11 : ((Rows.escapeFeedsUptoRow.recurses == Tryd.prog.recurses 22)) = true := by kernel_rfl
theorem cf12 : ((Rows.escapeFeedsUptoRow.named == Tryd.prog.varsNamed 22)) = true := by kernel_rfl
theorem cf13 : ((Rows.escapeFeedsUptoRow.maps == (Tryd.f22.params.toList ++ ((Rows.OpenSpec.upto Rows.escapeFeedsSpec).bare).plain.varTypes Tryd.prog).any (Tryd.prog.mapsRec ·))) = true := by kernel_rfl
theorem cf14 : ((Rows.escapeFeedsUptoRow.ifaces == (Tryd.f22.params.toList ++ ((Rows.OpenSpec.upto Rows.escapeFeedsSpec).bare).plain.varTypes Tryd.prog).any (Tryd.prog.ifacesRec ·))) = true := by kernel_rfl
theorem cf15 : ((Rows.escapeFeedsUptoRow.mapsOut == Tryd.prog.mapsAmong Tryd.f22.resultTypes.toList)) = true := by kernel_rfl
theorem cf16 : ((Rows.escapeFeedsUptoRow.loops == (Tryd.f22.params.toList ++ ((Rows.OpenSpec.upto Rows.escapeFeedsSpec).bare).plain.varTypes Tryd.prog).any (Tryd.prog.loopsFrom ·))) = true := by kernel_rfl
theorem cf17 : ((Rows.escapeFeedsUptoRow.wideKeys == (Tryd.f22.params.toList ++ ((Rows.OpenSpec.upto Rows.escapeFeedsSpec).bare).plain.varTypes Tryd.prog ++ Tryd.f22.resultTypes.toList).any (Tryd.prog.wideKeysFrom ·))) = true := by kernel_rfl
theorem cf18 : (((Rows.OpenSpec.upto Rows.escapeFeedsSpec).bare).vars.all (Tryd.prog.varReadable ·)) = true := by kernel_rfl
theorem cf19 : (Tryd.f22.resultTypes.all (fun t => Tryd.prog.readableRec t && decide (t < Tryd.prog.types.size))) = true := by kernel_rfl
theorem cf20 : ((Rows.escapeFeedsUptoRow.ifacesOut == Tryd.f22.resultTypes.toList.any (Tryd.prog.ifacesRec ·))) = true := by kernel_rfl
theorem cf21 : ((Rows.escapeFeedsUptoRow.loopsOut == Tryd.f22.resultTypes.toList.any (Tryd.prog.loopsFrom ·))) = true := by kernel_rfl
theorem cf22 : ((Rows.escapeFeedsUptoRow.plainKeys == Tryd.prog.plainKeys)) = true := by kernel_rfl
theorem cf23 : (Rows.escapeFeedsUptoRow.shortTexts.isNone) = true := by kernel_rfl
theorem cf24 : (Tryd.prog.stopsHeard) = true := by kernel_rfl
theorem cf25 : (Tryd.prog.mayEnter) = true := by kernel_rfl
theorem cf26 : ((Rows.escapeFeedsUptoRow.lifted == Tryd.prog.liftsFinal)) = true := by kernel_rfl
theorem cf27 : ((Tryd.prog.make == some Rows.escapeFeedsUptoRow.make)) = true := by kernel_rfl
theorem cf28 : ((Rows.escapeFeedsUptoRow.kinds == (if Rows.escapeFeedsUptoRow.domain.isEmpty then [] else Tryd.f22.params.toList.map fun t => match Tryd.prog.underlying t with | some (.int k) => some k | _ => none))) = true := by kernel_rfl
theorem cf29 : ((Rows.escapeFeedsUptoRow.pinned == Rows.escapeFeedsUptoRow.pinnedBy)) = true := by kernel_rfl
theorem cf30 : ((Rows.escapeFeedsUptoRow.veiled == (Tryd.f22.params.toList ++ ((Rows.OpenSpec.upto Rows.escapeFeedsSpec).bare).plain.varTypes Tryd.prog ++ Tryd.f22.resultTypes.toList).any (Tryd.prog.veiledRec ·))) = true := by kernel_rfl
theorem cf31 : (Rows.escapeFeedsUptoRow.veiledFits Tryd.prog Tryd.f22.params.toList (Tryd.f22.params.toList ++ ((Rows.OpenSpec.upto Rows.escapeFeedsSpec).bare).plain.varTypes Tryd.prog ++ Tryd.f22.resultTypes.toList)) = true := by kernel_rfl
set_option maxRecDepth 100000 in
theorem fact2 : joinedFacts Tryd.prog 22 Tryd.f22 (Rows.OpenSpec.upto Rows.escapeFeedsSpec).bare Rows.escapeFeedsUptoRow = true := by
  unfold joinedFacts
  exact (andI (andI (andI (andI (andI (andI (andI (andI (andI (andI (andI (andI (andI (andI (andI (andI (andI (andI (andI (andI (andI (andI (andI (andI (andI (andI (andI (andI (andI (andI (andI cf0 cf1) cf2) cf3) cf4) cf5) cf6) cf7) cf8) cf9) cf10) cf11) cf12) cf13) cf14) cf15) cf16) cf17) cf18) cf19) cf20) cf21) cf22) cf23) cf24) cf25) cf26) cf27) cf28) cf29) cf30) cf31)
theorem fact3 : Tryd.f22.isInstance Tryd.prog Rows.escapeFeedsUptoRow.origin Rows.escapeFeedsUptoRow.targs := of_decide_eq_true (by kernel_rfl)
theorem fact4 : Tryd.f22.isWrapper Tryd.prog Rows.escapeFeedsUptoRow.wrapper Rows.escapeFeedsUptoRow.mainSum := by
  unfold Func.isWrapper; first | (rw [if_pos (by decide +kernel)]; kernel_rfl) | (rw [if_neg (by decide +kernel)]; exact ⟨rfl, rfl⟩)
theorem step (os : Os) (started : os.Started) (H : Type) (enc : TypeId × Value → H) (F : Stop.Interp) :
    ReturnsInHanded Rows.escapeFeedsUptoRow.assume Tryd.checked os 22 .any (Rows.escapeFeedsUptoRow.pre enc Tryd.prog Tryd.f22 (Rows.OpenSpec.upto Rows.escapeFeedsSpec)) (((Rows.OpenSpec.upto Rows.escapeFeedsSpec).at F).post enc Tryd.prog Tryd.f22 Rows.escapeFeedsUptoRow.apart Rows.escapeFeedsUptoRow.fresh Rows.escapeFeedsUptoRow.handsOn Rows.escapeFeedsUptoRow.again) := by
  rw [OpenClaim.pre_eq_preRow]; exact lifted os started H enc F
theorem said : Rows.EscapeFeedsUptoSaid :=
  OpenClaim.holds_of_cond (p := Tryd.pinned) (c := Rows.escapeFeedsUptoRow) (s := (Rows.OpenSpec.upto Rows.escapeFeedsSpec)) 22 Tryd.f22 rfl rfl rfl rfl rfl rfl rfl ⟨rfl, rfl, rfl, rfl, rfl⟩ rfl rfl rfl rfl rfl fact1 Tryd.func22 fact2 fact3 fact4
    (fun os started H enc _ F => step os started H enc F)
theorem plain (f : FuncId) (fn : Func) (hf : Tryd.pinned.checked.prog.funcNamed "bobbin/bobbinlaw08.EscapeFeeds" = some f) (hfn : Tryd.pinned.checked.prog.funcs[f]? = some fn) :
    false = Tryd.pinned.checked.prog.looks [] ∧ ∀ (j : Nat) t, fn.params[j]? = some t → Tryd.pinned.checked.prog.wantsStandIn t = false := by
  obtain rfl : f = 22 := Option.some.inj ((show Tryd.prog.funcNamed "bobbin/bobbinlaw08.EscapeFeeds" = some 22 by kernel_rfl).symm.trans hf) |>.symm
  obtain rfl : fn = Tryd.f22 := (Option.some.inj (Tryd.func22.symm.trans hfn)).symm
  refine ⟨by kernel_rfl, fun j t ht => ?_⟩
  have hall : Tryd.f22.params.all (fun t => Tryd.prog.wantsStandIn t == false) = true := by kernel_rfl
  exact eq_of_beq (Array.all_eq_true'.1 hall t (Array.mem_of_getElem? ht))
end Go.Proofs.YtdpnnglfaofjeaaDoor.escapeFeedsRow
namespace Go.Proofs.YtdpnnglfaofjeaaDoor
theorem escapeFeeds_cw : Rows.escapeFeedsUptoRow.wfByText (Rows.OpenSpec.upto Rows.escapeFeedsSpec) = true := by kernel_rfl
theorem escapeFeeds_cg : false = Rows.escapeFeedsUptoRow.goesBy Tryd.pinned.checked.prog := by kernel_rfl
theorem escapeFeeds_card : Rows.EscapeFeedsUptoCardSaid :=
  Claim7.holds_tied_plain_at .later [] _ _ _ _ escapeFeedsRow.said (fun _ h => by cases h) escapeFeeds_cw (fun _ h => by cases h) escapeFeedsUpto_row_tie rfl ⟨rfl, rfl⟩ mainIs_fact rfl escapeFeedsRow.plain escapeFeeds_cg
#print axioms escapeFeeds_card
end Go.Proofs.YtdpnnglfaofjeaaDoor

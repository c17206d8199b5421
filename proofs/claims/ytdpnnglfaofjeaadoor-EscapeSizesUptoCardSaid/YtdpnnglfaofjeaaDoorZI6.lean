import Derived.Test.YtdpnnglfaofjeaaDoorRows
import Derived.Lib.LaidU8
import Derived.Lib.LaidTab
import Derived.Shelf.Vars
import Derived.Deep.DeepHandedRow
import Derived.LaidSub
import Derived.Lay
import Derived.OpenShut
import Derived.Deep.Slices
import Derived.ChangeArms
import Derived.ProofKit
import Derived.JoinedCond
import Derived.Test.YtdpnnglfaofjeaaDoorZI5
namespace Go.Proofs.YtdpnnglfaofjeaaDoor.Y
open Go.RowKit Go.Proofs.YtdpnnglfaofjeaaDoorW.PrintWords Go.Proofs.YtdpnnglfaofjeaaDoorW.PrintLast Go.Proofs.YtdpnnglfaofjeaaDoorW.PrintMore
open Go.Proofs.YtdpnnglfaofjeaaDoor.V (RB RB.of_OB RB.lit info5 runeOf run rest3 clean chars DecIs IsB fffd only_setCell)
open Go.Proofs.YtdpnnglfaofjeaaDoor.Z (Only)
set_option linter.unusedVariables false
set_option linter.unusedSimpArgs false
set_option maxRecDepth 1000000
theorem R_only {F : Nat → Prop} {w w1 : World} {base : Nat} {v : Value} {xs : List Int} (h : Kd.R (Kd.int .u8) 5 w base (fun _ => True) v xs) (hO : Only F w w1) (hv : ∀ k, v.ownBlock = some k → ¬ F k) : Kd.R (Kd.int .u8) 5 w1 base (fun _ => True) v xs :=
  Kd.R_mono (Kd.R_step (Kd.R_of_own (ok := fun k => v.ownBlock = some k) (Kd.own_of_R h) (fun _ h => h)) (fun k hk hl => hO.block k hl (hv k hk))) (fun _ _ => trivial)
def JS (w0 W : World) (B b : Nat) (k : Int) (S : List Int) (P : Nat → Prop) (v : Value) (xs : List Int) : Prop :=
  EscIs W P B b k S ∧ (∀ x, P x → B ≤ x ∧ x < W.heap.size ∧ some x ≠ v.ownBlock) ∧ Kd.R (Kd.int .u8) 5 W w0.heap.size (fun _ => True) v xs ∧ Below w0.heap.size w0 W ∧ w0.heap.size ≤ B ∧ B ≤ W.heap.size
theorem JS.new {w0 w w' : World} {b : Nat} {k : Int} (hb0 : Below w0.heap.size w0 w) (hE : EscIs w' (fun x => w.heap.size ≤ x) w.heap.size b k []) (hb : Below w.heap.size w w') :
    JS w0 w' w.heap.size b k [] (fun x => w.heap.size ≤ x ∧ x < w'.heap.size) (.slice none 0 0) [] :=
  ⟨hE.bound, fun x hx => ⟨hx.1, hx.2, by simp [Value.ownBlock]⟩, Kd.R_nil _ _ _ _ _, below_then hb0 hb0.size hb, hb0.size, hb.size⟩
theorem JS.below {w0 W W1 : World} {B b : Nat} {k : Int} {S : List Int} {P : Nat → Prop} {v : Value} {xs : List Int} (h : JS w0 W B b k S P v xs) (hb : Below W.heap.size W W1) : JS w0 W1 B b k S P v xs :=
  ⟨h.1.below hb, fun x hx => ⟨(h.2.1 x hx).1, Nat.lt_of_lt_of_le (h.2.1 x hx).2.1 hb.size, (h.2.1 x hx).2.2⟩, Kd.R_below h.2.2.1 hb, below_then h.2.2.2.1 h.2.2.2.1.size hb, h.2.2.2.2.1, Nat.le_trans h.2.2.2.2.2 hb.size⟩
def JP (W : World) (P : Nat → Prop) : Nat → Prop := fun x => P x ∨ W.heap.size ≤ x
theorem JS.feeds {w0 W : World} {B b : Nat} {k : Int} {S p : List Int} {P : Nat → Prop} {v : Value} {xs : List Int} (h : JS w0 W B b k S P v xs) (hk : 1 ≤ k ∧ k ≤ 10) (A : Option Addr) (c : Nat) (hp : Kd.C (Kd.int .u8) W A p.length p) (hc : p.length ≤ c)
    (hN : S.length + p.length ≤ 1073741824) (hBS : IsB S) (hBp : IsB p) (hE : EnvOK w0) :
    Calls Tryd.prog 53 #[.pointer (some ⟨b, 0, none⟩), .slice A p.length c] W (FeedE W (JP W P) B b k (S ++ p) (unitsOf k (letE k (run S).1 (run ((run S).2 ++ p)).1))) :=
  feedE_calls (JP W P) B b k hk S p A c W (h.1.mono (fun x hx => .inl hx)) hp hc hN hBS hBp (hE.below h.2.2.2.1) (Nat.le_trans hE.1.six h.2.2.2.2.1)
    (fun x hx => by rcases hx with hx | hx; exact (h.2.1 x hx).1; exact Nat.le_trans h.2.2.2.2.2 hx) h.2.2.2.2.2 (fun x hx => .inr hx)
theorem JS.fins {w0 W : World} {B b : Nat} {k : Int} {S : List Int} {P : Nat → Prop} {v : Value} {xs : List Int} (h : JS w0 W B b k S P v xs) (hk : 1 ≤ k ∧ k ≤ 10) (hN : S.length ≤ 1073741824) (hBS : IsB S) (hE : EnvOK w0) :
    Calls Tryd.prog 54 #[.pointer (some ⟨b, 0, none⟩)] W (FeedE W (JP W P) B b k [] (unitsOf k (letE k (run S).1 (rest3 (run S).2) ++ restE k (clean S)))) :=
  finE_calls (JP W P) B b k hk S W (h.1.mono (fun x hx => .inl hx)) hN hBS (hE.below h.2.2.2.1) (Nat.le_trans hE.1.six h.2.2.2.2.1)
    (fun x hx => by rcases hx with hx | hx; exact (h.2.1 x hx).1; exact Nat.le_trans h.2.2.2.2.2 hx) h.2.2.2.2.2 (fun x hx => .inr hx)
theorem JS.fed {w0 W W1 : World} {B b : Nat} {k : Int} {S S' : List Int} {P : Nat → Prop} {v : Value} {xs : List Int} {L : List (List Int)} {e : Ending} (h : JS w0 W B b k S P v xs) (hf : FeedE W (JP W P) B b k S' L e W1) :
    ∃ (m : Nat) (A : Option Addr) (c : Nat), e = .returned (.slice A L.length c) ∧ L.length ≤ c ∧ W.heap.size ≤ m ∧ Kd.N (Kd.slice 5 (Kd.int .u8)) 22 W1 m (fun x => m ≤ x) (.slice A L.length c) L ∧ Kd.F (Kd.slice 5 (Kd.int .u8)) W1 (fun x => m ≤ x) A L.length L ∧
      JS w0 W1 B b k S' (fun x => (JP W P x ∧ x < m) ∧ x < W1.heap.size) v xs ∧ Only (JP W P) W W1 ∧ W.heap.size ≤ W1.heap.size := by
  obtain ⟨m, v1, rfl, hm, hn, hE, hO⟩ := hf
  obtain ⟨A, c, rfl, hc, _⟩ := Kd.N_reads hn
  have hl := Kd.R_lt h.2.2.1
  have hsz := hO.size
  have hown : ∀ q, v.ownBlock = some q → ¬ JP W P q := fun q hq hj => by
    rcases hj with hj | hj
    · exact (h.2.1 q hj).2.2 hq.symm
    · have := hl q hq; omega
  refine ⟨m, A, c, rfl, hc, hm, hn, Kd.N_F hn, ⟨hE.bound, fun x hx => ⟨?_, hx.2, fun e => hown x e.symm hx.1.1⟩, R_only h.2.2.1 hO hown, h.2.2.2.1.trans (hO.below (fun x hx => ?_) h.2.2.2.1.size), h.2.2.2.2.1, Nat.le_trans h.2.2.2.2.2 hsz⟩, hO, hsz⟩
  · rcases hx.1.1 with h1 | h1
    · exact (h.2.1 x h1).1
    · exact Nat.le_trans h.2.2.2.2.2 h1
  · rcases hx with h1 | h1
    · exact Nat.le_trans h.2.2.2.2.1 (h.2.1 x h1).1
    · exact Nat.le_trans h.2.2.2.1.size h1
def Apart (W : World) (P : Nat → Prop) (v u : Value) : Prop := ∀ q, u.ownBlock = some q → q < W.heap.size ∧ ¬ P q ∧ some q ≠ v.ownBlock
theorem Apart.fed {W W1 : World} {P : Nat → Prop} {v u : Value} {m : Nat} (h : Apart W P v u) (hs : W.heap.size ≤ W1.heap.size) : Apart W1 (fun x => (JP W P x ∧ x < m) ∧ x < W1.heap.size) v u := fun q hq =>
  ⟨Nat.lt_of_lt_of_le (h q hq).1 hs, fun hp => by rcases hp.1.1 with h1 | h1; exact (h q hq).2.1 h1; have := (h q hq).1; omega, (h q hq).2.2⟩
theorem Apart.below {W W1 : World} {P : Nat → Prop} {v u : Value} (h : Apart W P v u) (hb : Below W.heap.size W W1) : Apart W1 P v u := fun q hq => ⟨Nat.lt_of_lt_of_le (h q hq).1 hb.size, (h q hq).2⟩
def ApP (W : World) (P : Nat → Prop) (v : Value) (Q : Nat → Prop) : Prop := ∀ q, Q q → q < W.heap.size ∧ ¬ P q ∧ some q ≠ v.ownBlock
theorem ApP.fed {W W1 : World} {P Q : Nat → Prop} {v : Value} {m : Nat} (h : ApP W P v Q) (hs : W.heap.size ≤ W1.heap.size) : ApP W1 (fun x => (JP W P x ∧ x < m) ∧ x < W1.heap.size) v Q := fun q hq =>
  ⟨Nat.lt_of_lt_of_le (h q hq).1 hs, fun hp => by rcases hp.1.1 with h1 | h1; exact (h q hq).2.1 h1; have := (h q hq).1; omega, (h q hq).2.2⟩
theorem ApP.below {W W1 : World} {P Q : Nat → Prop} {v : Value} (h : ApP W P v Q) (hb : Below W.heap.size W W1) : ApP W1 P v Q := fun q hq => ⟨Nat.lt_of_lt_of_le (h q hq).1 hb.size, (h q hq).2⟩
end Go.Proofs.YtdpnnglfaofjeaaDoor.Y
namespace Go.Proofs.YtdpnnglfaofjeaaDoor.Y
open Go.RowKit Go.Proofs.YtdpnnglfaofjeaaDoorW.PrintWords Go.Proofs.YtdpnnglfaofjeaaDoorW.PrintLast Go.Proofs.YtdpnnglfaofjeaaDoorW.PrintMore
open Go.Proofs.YtdpnnglfaofjeaaDoor.V (RB RB.of_OB RB.lit info5 runeOf run rest3 clean chars DecIs IsB fffd only_setCell)
set_option linter.unusedVariables false
set_option linter.unusedSimpArgs false
set_option maxRecDepth 1000000
theorem isB_nil : IsB [] := by intro x hx; simp at hx
end Go.Proofs.YtdpnnglfaofjeaaDoor.Y
namespace Go.Proofs.YtdpnnglfaofjeaaDoor.Y
open Go.RowKit Go.Proofs.YtdpnnglfaofjeaaDoorW.PrintWords Go.Proofs.YtdpnnglfaofjeaaDoorW.PrintLast Go.Proofs.YtdpnnglfaofjeaaDoorW.PrintMore
open Go.Proofs.YtdpnnglfaofjeaaDoor.V (RB RB.of_OB RB.lit info5 runeOf run rest3 clean chars DecIs IsB fffd only_setCell)
open Go.Proofs.YtdpnnglfaofjeaaDoor.Z (Only)
open PJh (unitJ)
set_option linter.unusedVariables false
set_option linter.unusedSimpArgs false
set_option maxRecDepth 1000000
def okA (x : Int) : Bool := !([60, 62, 34, 39, 0].contains x)
def okB (x : Int) : Bool := !([60, 62, 34, 39, 0, 10, 13].contains x)
theorem okA_of {x : Int} (h : okB x = true) : okA x = true := by
  unfold okA okB at *
  simp at *
  exact ⟨h.1, h.2.1, h.2.2.1, h.2.2.2.1, h.2.2.2.2.1⟩
theorem html_okA : ∀ b : Int, 0 ≤ b ∧ b ≤ 255 → ((htmlU b).all okA && decide (0 < (htmlU b).length)) = true := of_bytes (by decide +kernel)
theorem html_okB : ∀ b : Int, 0 ≤ b ∧ b ≤ 255 → (!(okB b) || (htmlU b).all okB) = true := of_bytes (by decide +kernel)
theorem path_okB : ∀ b : Int, 0 ≤ b ∧ b ≤ 255 → ((pathU b).all okB && decide (0 < (pathU b).length)) = true := of_bytes (by decide +kernel)
theorem query_okB : ∀ b : Int, 0 ≤ b ∧ b ≤ 255 → ((queryU b).all okB && decide (0 < (queryU b).length)) = true := of_bytes (by decide +kernel)
theorem css_okB : ∀ b : Int, 0 ≤ b ∧ b ≤ 255 → ((U.unitL b).all okB && decide (0 < (U.unitL b).length)) = true := of_bytes (by decide +kernel)
theorem flat_all {u : Int → List Int} {q : Int → Bool} (hu : ∀ b : Int, 0 ≤ b ∧ b ≤ 255 → ((u b).all q && decide (0 < (u b).length)) = true) : ∀ (l : List Int), (∀ x ∈ l, 0 ≤ x ∧ x ≤ 255) → (l.flatMap u).all q = true ∧ (0 < l.length → 0 < (l.flatMap u).length)
  | [], _ => by simp
  | a :: t, h => by
    have ih := flat_all hu t (fun x hx => h x (List.mem_cons_of_mem _ hx))
    have ha := hu a (h a List.mem_cons_self)
    rw [Bool.and_eq_true, decide_eq_true_iff] at ha
    rw [List.flatMap_cons, List.all_append, ha.1, ih.1, List.length_append]
    exact ⟨rfl, fun _ => by omega⟩
theorem flat_html {l : List Int} (hb : ∀ x ∈ l, 0 ≤ x ∧ x ≤ 255) (h : l.all okB = true) : (l.flatMap htmlU).all okB = true := by
  induction l with
  | nil => rfl
  | cons a t ih =>
    rw [List.all_cons, Bool.and_eq_true] at h
    have ha := html_okB a (hb a List.mem_cons_self)
    rw [h.1] at ha
    rw [List.flatMap_cons, List.all_append, ih (fun x hx => hb x (List.mem_cons_of_mem _ hx)) h.2]
    simpa using ha
theorem dig_okB (d : Nat) (h : d < 16) : okB (U.dig d) = true := by
  have h1 : ∀ d : Nat, d < 16 → okB (U.dig d) = true := by decide +kernel
  exact h1 d h
theorem js_okB (r : Int) (h0 : 0 ≤ r) : (unitJ r).all okB = true := by
  unfold unitJ
  by_cases c1 : r = 92
  · rw [if_pos c1]; decide
  rw [if_neg c1]
  by_cases c2 : r = 47
  · rw [if_pos c2]; decide
  rw [if_neg c2]
  by_cases c3 : r = 10
  · rw [if_pos c3]; decide
  rw [if_neg c3]
  by_cases c4 : r = 13
  · rw [if_pos c4]; decide
  rw [if_neg c4]
  by_cases c5 : r = 9
  · rw [if_pos c5]; decide
  rw [if_neg c5]
  by_cases c6 : r = 8232
  · rw [if_pos c6]; decide
  rw [if_neg c6]
  by_cases c7 : r = 8233
  · rw [if_pos c7]; decide
  rw [if_neg c7]
  by_cases c8 : PJh.Hexed r
  · rw [if_pos c8]
    unfold PJh.Hexed at c8
    have d1 := dig_okB (r.toNat / 16) (by omega)
    have d2 := dig_okB (r.toNat % 16) (by omega)
    simp only [List.all_cons, List.all_nil, Bool.and_true, Bool.and_eq_true]
    exact ⟨by decide, by decide, d1, d2⟩
  · rw [if_neg c8]
    unfold PJh.Hexed at c8
    rw [List.all_eq_true]
    intro x hx
    have hx2 : x ≠ 60 ∧ x ≠ 62 ∧ x ≠ 34 ∧ x ≠ 39 ∧ x ≠ 0 ∧ x ≠ 10 ∧ x ≠ 13 := by
      unfold Lib.encodeRuneZ at hx
      split at hx
      · simp at hx; omega
      split at hx
      · simp at hx; omega
      split at hx
      · simp at hx; omega
      split at hx
      · simp at hx; omega
      · simp at hx; omega
    unfold okB
    simp
    exact hx2
theorem unit_inert (k r : Int) (hk : 1 ≤ k ∧ k ≤ 10) (h0 : 0 ≤ r) : (unitE k r).all okA = true ∧ 0 < (unitE k r).length ∧ (4 ≤ k → (unitE k r).all okB = true) := by
  obtain ⟨z1, z2, z3⟩ := encZ_ok r
  have hbase : 4 ≤ k → (baseE k r).all okB = true := by
    intro h4
    unfold baseE
    split
    · exact (flat_all path_okB _ z1).1
    split
    · exact (flat_all query_okB _ z1).1
    split
    · exact js_okB r h0
    rw [if_pos (by omega)]
    exact (flat_all css_okB _ z1).1
  have hpos : 0 < (baseE k r).length := by
    unfold baseE
    split
    · exact (flat_all path_okB _ z1).2 z2
    split
    · exact (flat_all query_okB _ z1).2 z2
    split
    · exact (V.unitJ_len r).1
    split
    · exact (flat_all css_okB _ z1).2 z2
    · exact z2
  have hbb := (baseE_ok k r).1
  have hB : 4 ≤ k → (unitE k r).all okB = true := by
    intro h4
    unfold unitE
    split
    · exact hbase h4
    · exact flat_html hbb (hbase h4)
  refine ⟨?_, ?_, hB⟩
  · by_cases h4 : 4 ≤ k
    · exact List.all_eq_true.2 fun x hx => okA_of (List.all_eq_true.1 (hB h4) x hx)
    · unfold unitE
      rw [if_neg (by omega)]
      exact (flat_all html_okA _ hbb).1
  · unfold unitE
    split
    · exact hpos
    · exact (flat_all html_okA _ hbb).2 hpos
theorem whole_inert (k : Int) (hk : 1 ≤ k ∧ k ≤ 10) {p : List Int} (hp : IsB p) (i : Nat) (hi : i < (wholeE k p).length) :
    0 < (rd2 (wholeE k p) i).length ∧ ∀ j : Nat, j < (rd2 (wholeE k p) i).length → okA ((rd2 (wholeE k p) i).getD j 0) = true ∧ (4 ≤ k → okB ((rd2 (wholeE k p) i).getD j 0) = true) := by
  have hv := Valid.full k (Valid.of_clean hp)
  have hm : rd2 (wholeE k p) i ∈ wholeE k p := by
    unfold rd2
    rw [List.getD_eq_getElem?_getD, List.getElem?_eq_getElem hi]
    exact List.getElem_mem hi
  unfold wholeE unitsOf unitsE at hm
  obtain ⟨ch, hch, he⟩ := List.mem_map.1 hm
  have h0 := V.rune_pos (hv.form ch hch)
  obtain ⟨a1, a2, a3⟩ := unit_inert k (runeOf ch) hk h0
  have he2 : rd2 (wholeE k p) i = unitE k (runeOf ch) := by unfold wholeE unitsOf unitsE; exact he.symm
  rw [he2]
  refine ⟨a2, fun j hj => ?_⟩
  have hmem : (unitE k (runeOf ch)).getD j 0 ∈ unitE k (runeOf ch) := by
    rw [List.getD_eq_getElem?_getD, List.getElem?_eq_getElem hj]
    exact List.getElem_mem hj
  exact ⟨List.all_eq_true.1 a1 _ hmem, fun h4 => List.all_eq_true.1 (a3 h4) _ hmem⟩
set_option maxHeartbeats 16000000 in
theorem inert_calls (kk : Int) (hkk : 0 ≤ kk ∧ kk ≤ 255) (p : List Int) (A : Option Addr) (c : Nat) (w : World) (hp : Kd.C (Kd.int .u8) w A p.length p) (hc : p.length ≤ c) (hN : p.length ≤ 2097152) (hB : IsB p) (hE : EnvOK w) :
    Calls Tryd.prog 19 #[.int .u8 kk, .slice A p.length c] w fun e w' => e = .returned (.bool true) ∧ Below w.heap.size w w' := by
  have HE := Lib.hid hE
  have HP := Lib.hid hp
  have HB := Lib.hid hB
  clear hE hp hB
  go_enter Tryd.func19, Tryd.ntmps19
  go_wp2_with fail
  refine (awake8_calls w HE.out).mono ?_
  rintro e w1 ⟨rfl, hb1⟩
  obtain ⟨k, hq1, hq2, cK⟩ := kinds_calls kk hkk w1
  have hq : 1 ≤ k ∧ k ≤ 10 := ⟨hq1, hq2⟩
  have hu := units_two k HB.out
  have k1 := feed_count k (S := []) isB_nil HB.out
  rw [List.length_nil] at k1
  obtain ⟨k2, k3⟩ := whole_len k HB.out
  have HI := Lib.hid (fun i hi => whole_inert k hq HB.out i hi)
  rw [← hu] at k2 k3 HI
  clear hu
  go_wp2_with fail
  refine cK.mono ?_
  rintro e w2 ⟨rfl, hw2⟩
  obtain rfl : w1 = w2 := hw2.symm
  go_wp2_with fail
  refine (new_calls k hq w1).mono ?_
  rintro e w3 ⟨b, rfl, hE3, hb3⟩
  have D3 := JS.new hb1 hE3 hb3
  have cF := D3.feeds hq A c (Kd.C_below HP.out D3.2.2.2.1) hc (by rw [List.length_nil]; omega) isB_nil HB.out HE.out
  rw [List.nil_append] at cF
  generalize unitsOf k (letE k (run []).1 (run ((run []).2 ++ p)).1) = L1 at *
  go_wp2_with fail
  refine cF.mono ?_
  intro e w4 hf
  obtain ⟨m1, A1, c1, rfl, hc1, hm1, hn1, hF1, D4, hO4, hs4⟩ := D3.fed hf
  have cG := D4.fins hq (by omega) HB.out HE.out
  generalize unitsOf k (letE k (run p).1 (rest3 (run p).2) ++ restE k (clean p)) = L2 at *
  clear hf cF D3
  go_wp2_with fail
  refine cG.mono ?_
  intro e w5 hf
  obtain ⟨m2, A2, c2, rfl, hc2, hm2, hn2, hF2, D5, hO5, hs5⟩ := D4.fed hf
  have hl1 := Kd.N_lt hn1
  have hn1' := Kd.N_step (Kd.N_bound hn1) (fun x hx hl => hO5.block x hl (fun hy => by rcases hy with hy | hy; have := hy.1.2; omega; omega))
  have hbx := D5.2.2.2.1
  have hb2n := Kd.N_lower (Kd.N_mono (ok' := fun x => w3.heap.size ≤ x) hn1' (fun x hx => by omega)) (show w3.heap.size ≤ m1 by omega)
  have hll : L1.length + L2.length = (L1 ++ L2).length := by rw [List.length_append]
  clear hf cG D4 D5 hn1 hn1' hn2 hO4 hO5 hF1
  go_wp2_with (at_builtin; go_loud (refine Kd.N_append_rows (Kd.slice 5 (Kd.int .u8)) (w0 := w5) (W := w5) w3.heap.size rfl _ _ 38 22 (.slice none 0 0) 24 rfl Tryd.underlying38 info22 rfl (by decide) (by omega) (.slice A1 L1.length c1) L1 L2 A2 L2.length c2 (fun x => w3.heap.size ≤ x) (fun x => m2 ≤ x) rfl rfl hb2n hF2 (fun q hq => ⟨by omega, fun e => by have := hl1 q e.symm; omega⟩) (fun q hq => by omega) (Below.refl _ _) (by omega) (by rw [hll]; omega) ?_; intro v6 w6 hn6 hb6 _ _; obtain ⟨A6, c6, rfl, hc6, hC6⟩ := Kd.N_reads hn6; clear hn6; generalize L1 ++ L2 = L at *))
  have hb6' := hbx.trans (hb6.mono (Nat.le_trans hb1.size hb3.size))
  have HC6 := Lib.hid hC6
  have hLn : L.length ≤ 1099511627776 := by omega
  clear hC6 hb2n hF2 hll k1 k2 k3
  go_wp2_with fail
  go_loopw [9] (fun v9 wr => ∃ i : Nat, v9 = .int .i64 (i : Int) ∧ i ≤ L.length ∧ wr = w6) (fun v9 _ => match v9 with | .int _ i => L.length - i.toNat | _ => 0)
  case atStart => exact ⟨0, rfl, Nat.zero_le _, rfl⟩
  case round =>
    obtain ⟨i, rfl, hi, rfl⟩ := hrel
    by_cases hlt : i < L.length
    · have hlt' : (i : Int) < (L.length : Int) := by omega
      obtain ⟨ad, A7, c7, rfl, hcell, hc7, hC7⟩ := at_rows HC6.out i hlt
      obtain ⟨hpos, hall⟩ := HI.out i hlt
      have hmax : (rd2 L i).length ≤ 9223372036854775807 := hC7.2.1
      generalize rd2 L i = row at *
      have HALL := Lib.hid hall
      have HC7 := Lib.hid hC7
      have hne : ((row.length : Int) == 0) = false := beq_eq_false_iff_ne.2 (by omega)
      clear hall hC7
      go_wp2_with fail
      go_loopw [10] (fun v10 wq => ∃ j : Nat, v10 = .int .i64 (j : Int) ∧ j ≤ row.length ∧ wq = wr) (fun v10 _ => match v10 with | .int _ j => row.length - j.toNat | _ => 0)
      case atStart => exact ⟨0, rfl, Nat.zero_le _, rfl⟩
      case round =>
        obtain ⟨j, rfl, hj, rfl⟩ := hrel
        by_cases hjl : j < row.length
        · have hjl' : (j : Int) < (row.length : Int) := by omega
          have hw1 : IntKind.i64.wrap ((j : Int) + 1) = (j : Int) + 1 := IntWalk.i64_in _ (by omega)
          obtain ⟨ad2, rfl, hx⟩ := Kd.at_int HC7.out (j : Int) (by omega) (by omega)
          rw [Int.toNat_natCast, show rd row (j : Int) = row.getD j 0 by simp [rd, rdOf]] at hx
          obtain ⟨ha, hbb⟩ := HALL.out j hjl
          generalize row.getD j 0 = x at hx ha hbb
          unfold okA at ha
          simp at ha
          have g1 : (x == 60) = false := beq_eq_false_iff_ne.2 ha.1
          have g2 : (x == 62) = false := beq_eq_false_iff_ne.2 ha.2.1
          have g3 : (x == 34) = false := beq_eq_false_iff_ne.2 ha.2.2.1
          have g4 : (x == 39) = false := beq_eq_false_iff_ne.2 ha.2.2.2.1
          have g5 : (x == 0) = false := beq_eq_false_iff_ne.2 ha.2.2.2.2
          clear ha
          by_cases h4 : 4 ≤ k
          · have h2 := hbb h4
            unfold okB at h2
            simp at h2
            have g6 : (x == 10) = false := beq_eq_false_iff_ne.2 h2.2.2.2.2.2.1
            have g7 : (x == 13) = false := beq_eq_false_iff_ne.2 h2.2.2.2.2.2.2
            clear h2 hbb
            go_wp2_with fail
            go_roundw
            case rel => exact ⟨j + 1, by first | rfl | simp, by omega, by first | rfl | trivial⟩
            case measure => simp; omega
          · have h4' : ¬ k ≥ 4 := h4
            clear hbb
            have hx3 : x = 10 ∨ x = 13 ∨ ((x == 10) = false ∧ (x == 13) = false) := by
              by_cases e1 : x = 10
              · exact .inl e1
              by_cases e2 : x = 13
              · exact .inr (.inl e2)
              · exact .inr (.inr ⟨beq_eq_false_iff_ne.2 e1, beq_eq_false_iff_ne.2 e2⟩)
            rcases hx3 with rfl | rfl | ⟨g6, g7⟩
            all_goals (
              go_wp2_with fail
              go_roundw
              case rel => exact ⟨j + 1, by first | rfl | simp, by omega, by first | rfl | trivial⟩
              case measure => simp; omega)
        · have hjl' : ¬ ((j : Int) < (row.length : Int)) := by omega
          go_wp2_with fail
          go_roundw
          case rel => exact ⟨i + 1, by first | rfl | simp, by omega, by first | rfl | trivial⟩
          case measure => simp; omega
    · have hlt' : ¬ ((i : Int) < (L.length : Int)) := by omega
      go_wp2_with fail
      go_ret
      exact ⟨rfl, hb6'⟩
end Go.Proofs.YtdpnnglfaofjeaaDoor.Y
namespace Go.Proofs.YtdpnnglfaofjeaaDoor.Y
open Go.RowKit Go.Proofs.YtdpnnglfaofjeaaDoorW.PrintWords Go.Proofs.YtdpnnglfaofjeaaDoorW.PrintLast Go.Proofs.YtdpnnglfaofjeaaDoorW.PrintMore
open Go.Proofs.YtdpnnglfaofjeaaDoor.V (RB RB.of_OB RB.lit info5 runeOf run rest3 clean chars DecIs IsB fffd only_setCell)
open Go.Proofs.YtdpnnglfaofjeaaDoor.Z (Only)
open PJh (unitJ)
set_option linter.unusedVariables false
set_option linter.unusedSimpArgs false
set_option maxRecDepth 1000000
theorem path_two : ∀ b : Int, 0 ≤ b ∧ b ≤ 255 → decide (((pathU b).flatMap htmlU).length ≤ 6) = true := of_bytes (by decide +kernel)
theorem query_two : ∀ b : Int, 0 ≤ b ∧ b ≤ 255 → decide (((queryU b).flatMap htmlU).length ≤ 6) = true := of_bytes (by decide +kernel)
theorem css_two : ∀ b : Int, 0 ≤ b ∧ b ≤ 255 → decide (((U.unitL b).flatMap htmlU).length ≤ 6) = true := of_bytes (by decide +kernel)
theorem flat_six {u : Int → List Int} (hu : ∀ b : Int, 0 ≤ b ∧ b ≤ 255 → decide ((u b).length ≤ 6) = true) (l : List Int) (hl : ∀ x ∈ l, 0 ≤ x ∧ x ≤ 255) : (l.flatMap u).length ≤ 6 * l.length := by
  induction l with
  | nil => simp
  | cons a t ih =>
    have h1 := of_decide_eq_true (hu a (hl a List.mem_cons_self))
    have h2 := ih (fun x hx => hl x (List.mem_cons_of_mem _ hx))
    rw [List.flatMap_cons, List.length_append, List.length_cons]
    omega
def okC (x : Int) : Bool := !([60, 62, 34, 39, 0, 38].contains x)
theorem html_self {l : List Int} (h : l.all okC = true) : l.flatMap htmlU = l := by
  induction l with
  | nil => rfl
  | cons a t ih =>
    rw [List.all_cons, Bool.and_eq_true] at h
    obtain ⟨h1, h2⟩ := h
    unfold okC at h1
    simp at h1
    rw [List.flatMap_cons, ih h2]
    unfold htmlU
    rw [if_neg (by omega), if_neg (by omega), if_neg (by omega), if_neg (by omega), if_neg (by omega), if_neg (by omega)]
    rfl
theorem dig_okC (d : Nat) (h : d < 16) : okC (U.dig d) = true := by
  have h1 : ∀ d : Nat, d < 16 → okC (U.dig d) = true := by decide +kernel
  exact h1 d h
theorem js_okC (r : Int) (h0 : 0 ≤ r) : (unitJ r).all okC = true := by
  unfold unitJ
  by_cases c1 : r = 92
  · rw [if_pos c1]; decide
  rw [if_neg c1]
  by_cases c2 : r = 47
  · rw [if_pos c2]; decide
  rw [if_neg c2]
  by_cases c3 : r = 10
  · rw [if_pos c3]; decide
  rw [if_neg c3]
  by_cases c4 : r = 13
  · rw [if_pos c4]; decide
  rw [if_neg c4]
  by_cases c5 : r = 9
  · rw [if_pos c5]; decide
  rw [if_neg c5]
  by_cases c6 : r = 8232
  · rw [if_pos c6]; decide
  rw [if_neg c6]
  by_cases c7 : r = 8233
  · rw [if_pos c7]; decide
  rw [if_neg c7]
  by_cases c8 : PJh.Hexed r
  · rw [if_pos c8]
    unfold PJh.Hexed at c8
    have d1 := dig_okC (r.toNat / 16) (by omega)
    have d2 := dig_okC (r.toNat % 16) (by omega)
    simp only [List.all_cons, List.all_nil, Bool.and_true, Bool.and_eq_true]
    exact ⟨by decide, by decide, d1, d2⟩
  · rw [if_neg c8]
    unfold PJh.Hexed at c8
    rw [List.all_eq_true]
    intro x hx
    have hx2 : x ≠ 60 ∧ x ≠ 62 ∧ x ≠ 34 ∧ x ≠ 39 ∧ x ≠ 0 ∧ x ≠ 38 := by
      unfold Lib.encodeRuneZ at hx
      split at hx
      · simp at hx; omega
      split at hx
      · simp at hx; omega
      split at hx
      · simp at hx; omega
      split at hx
      · simp at hx; omega
      · simp at hx; omega
    unfold okC
    simp
    exact hx2
theorem unit_six (k r : Int) (h0 : 0 ≤ r) : (unitE k r).length ≤ 6 * (encZ r).length := by
  obtain ⟨z1, z2, z3⟩ := encZ_ok r
  have j1 := (V.unitJ_len r).2
  unfold unitE baseE
  by_cases h79 : k = 7 ∨ k = 9
  · rw [if_pos h79]
    rcases h79 with rfl | rfl
    · rw [if_neg (by decide), if_neg (by decide), if_pos (by decide)]; omega
    · rw [if_neg (by decide), if_neg (by decide), if_neg (by decide), if_pos (by decide)]
      exact flat_six (fun b hb => by have := (isU_css b hb).2; simpa using this) _ z1
  rw [if_neg h79]
  split
  · rw [List.flatMap_assoc]; exact flat_six path_two _ z1
  split
  · rw [List.flatMap_assoc]; exact flat_six query_two _ z1
  split
  · rw [html_self (js_okC r h0)]; omega
  split
  · rw [List.flatMap_assoc]; exact flat_six css_two _ z1
  · exact flat_six (fun b hb => by have := (isU_html b hb).2; simpa using this) _ z1
theorem unit_fffd (k : Int) (hk : 1 ≤ k ∧ k ≤ 10) : (unitE k (runeOf fffd)).length ≤ 9 := by
  have h : k = 1 ∨ k = 2 ∨ k = 3 ∨ k = 4 ∨ k = 5 ∨ k = 6 ∨ k = 7 ∨ k = 8 ∨ k = 9 ∨ k = 10 := by omega
  rcases h with rfl | rfl | rfl | rfl | rfl | rfl | rfl | rfl | rfl | rfl <;> decide +kernel
theorem enc_char {ch : List Int} (h : V.Form ch) : encZ (runeOf ch) = ch := by
  rw [← bytes_encode _ (V.rune_pos h)]
  exact V.bytesOf_encode ch h
theorem chars_size (k : Int) (hk : 1 ≤ k ∧ k ≤ 10) (l : List Int) (hl : IsB l) : (unitsE k (chars l)).flatten.length ≤ 12 * l.length := by
  induction hn : l.length using Nat.strongRecOn generalizing l with
  | ind n ih =>
    subst hn
    have hf := unit_fffd k hk
    by_cases hp : 0 < l.length
    · have h1 := V.firstL_pos l hp
      have h2 := V.firstL_le l hp
      have hi := ih (l.drop (V.firstL l).1.toNat).length (by rw [List.length_drop]; omega) _ (isB_drop hl _) rfl
      rw [List.length_drop] at hi
      cases ho : (V.firstL l).2.2
      · cases hg : (V.firstL l).2.1
        · rw [V.chars_bad l hp ho hg]
          unfold unitsE at *
          rw [List.map_cons, List.flatten_cons, List.length_append]
          omega
        · have hform := V.form_of _ (V.isChar_take l hp ho hg) (isB_take hl _)
          have h6 := unit_six k _ (V.rune_pos hform)
          rw [enc_char hform, List.length_take] at h6
          rw [V.chars_good l hp ho hg]
          unfold unitsE at *
          rw [List.map_cons, List.flatten_cons, List.length_append]
          omega
      · rw [V.chars_open l hp ho]
        unfold unitsE
        rw [List.map_cons, List.flatten_cons, List.length_append]
        simp
        omega
    · have : l = [] := List.eq_nil_of_length_eq_zero (by omega)
      subst this
      rw [V.chars_nil]
      simp [unitsE]
theorem blocked_units : (unitsOf 4 Z.blockedL).flatten = Z.blockedL := by decide +kernel
theorem whole_size (k : Int) (hk : 1 ≤ k ∧ k ≤ 10) {p : List Int} (hp : IsB p) : (wholeE k p).flatten.length ≤ 12 * p.length + 8 := by
  have h1 := chars_size k hk p hp
  have hc : chars (clean p) = chars p := by
    have := V.chars_clean p []
    simpa [V.chars_nil] using this
  unfold wholeE fullE Z.passL
  by_cases h4 : k = 4
  · subst h4
    rw [if_pos rfl]
    split
    · rw [blocked_units]; simp [Z.blockedL]
    · unfold unitsOf; rw [hc]; omega
  · rw [if_neg h4]
    unfold unitsOf
    rw [hc]
    omega
def aln (b : Int) : Bool := decide (97 ≤ b ∧ b ≤ 122) || decide (65 ≤ b ∧ b ≤ 90) || decide (48 ≤ b ∧ b ≤ 57)
theorem aln_range {b : Int} (h : aln b = true) : 48 ≤ b ∧ b ≤ 122 ∧ ¬ Z.stop b := by
  unfold aln at h
  simp only [Bool.or_eq_true, decide_eq_true_eq] at h
  unfold Z.stop
  omega
theorem aln_units : ∀ b : Int, 0 ≤ b ∧ b ≤ 255 → (!(aln b) || [1, 2, 3, 4, 5, 6, 7, 8, 9, 10].all (fun k => unitE k b == [b])) = true := of_bytes (by decide +kernel)
theorem aln_unit (k : Int) (hk : 1 ≤ k ∧ k ≤ 10) (b : Int) (h : aln b = true) : unitE k b = [b] := by
  have hr := aln_range h
  have h1 := aln_units b (by omega)
  rw [h] at h1
  simp only [Bool.not_true, Bool.false_or, List.all_eq_true, beq_iff_eq] at h1
  have hm : k = 1 ∨ k = 2 ∨ k = 3 ∨ k = 4 ∨ k = 5 ∨ k = 6 ∨ k = 7 ∨ k = 8 ∨ k = 9 ∨ k = 10 := by omega
  exact h1 k (by simp; omega)
theorem isChar_ascii (b : Int) (h : 0 ≤ b ∧ b < 128) : V.IsChar [b] := by
  refine ⟨by simp, fun t => ?_⟩
  rw [List.singleton_append, V.firstL_cons]
  unfold V.firstM
  rw [if_pos h.2]
  rfl
theorem aln_chars (p : List Int) (h : p.all aln = true) : chars p = p.map fun b => [b] := by
  induction p with
  | nil => exact V.chars_nil
  | cons a t ih =>
    rw [List.all_cons, Bool.and_eq_true] at h
    have hr := aln_range h.1
    have := V.chars_cons [a] t (isChar_ascii a (by omega))
    rw [List.singleton_append] at this
    rw [this, ih h.2]
    rfl
theorem aln_flat (k : Int) (hk : 1 ≤ k ∧ k ≤ 10) (p : List Int) (h : p.all aln = true) : ((p.map fun b => [b]).map fun ch => unitE k (runeOf ch)).flatten = p := by
  induction p with
  | nil => rfl
  | cons a t ih =>
    rw [List.all_cons, Bool.and_eq_true] at h
    rw [List.map_cons, List.map_cons, List.flatten_cons, ih h.2, show runeOf [a] = a from rfl, aln_unit k hk a h.1]
    rfl
theorem aln_whole (k : Int) (hk : 1 ≤ k ∧ k ≤ 10) (p : List Int) (h : p.all aln = true) : (wholeE k p).flatten = p ∨ (k = 4 ∧ 16 < (p.length : Int) ∧ (wholeE k p).flatten = Z.blockedL) := by
  have hch := aln_chars p h
  have hcl : clean p = p := by
    rw [V.clean_chars, hch]
    clear h hch
    induction p with
    | nil => rfl
    | cons a t ih => rw [List.map_cons, List.flatten_cons, ih]; rfl
  have hu : (unitsOf k p).flatten = p := by
    unfold unitsOf unitsE
    rw [hch]
    exact aln_flat k hk p h
  unfold wholeE fullE
  rw [hcl]
  by_cases h4 : k = 4
  · subst h4
    rw [if_pos rfl]
    unfold Z.passL
    cases hs : Z.stopped p
    · left; simpa using hu
    · right
      refine ⟨rfl, ?_, by simpa using blocked_units⟩
      have hm : Z.mark p = -1 := (Z.mark_is p).unique (.inl ⟨rfl, fun j hj => by
        have hmem : p.getD j 0 ∈ p := by
          rw [List.getD_eq_getElem?_getD, List.getElem?_eq_getElem hj]
          exact List.getElem_mem hj
        exact (aln_range (List.all_eq_true.1 h _ hmem)).2.2⟩)
      unfold Z.stopped at hs
      rw [hm, if_pos (by decide)] at hs
      simpa using hs
  · rw [if_neg h4]
    exact .inl hu
theorem aln_cases (b : Int) : (b < 48 ∧ aln b = false) ∨ (48 ≤ b ∧ b ≤ 57 ∧ aln b = true) ∨ (57 < b ∧ b < 65 ∧ aln b = false) ∨ (65 ≤ b ∧ b ≤ 90 ∧ aln b = true) ∨ (90 < b ∧ b < 97 ∧ aln b = false) ∨ (97 ≤ b ∧ b ≤ 122 ∧ aln b = true) ∨ (122 < b ∧ aln b = false) := by
  unfold aln
  simp only [Bool.or_eq_true, Bool.or_eq_false_iff, decide_eq_true_eq, decide_eq_false_iff_not]
  omega
theorem take_all (p : List Int) (i : Nat) (hi : i < p.length) (h : (p.take i).all aln = true) (hb : aln (p.getD i 0) = true) : (p.take (i + 1)).all aln = true := by
  rw [y_snoc p i hi, List.all_append, h]
  simpa using hb
set_option maxHeartbeats 16000000 in
theorem sizes_calls (kk : Int) (hkk : 0 ≤ kk ∧ kk ≤ 255) (p : List Int) (A : Option Addr) (c : Nat) (w : World) (hp : Kd.C (Kd.int .u8) w A p.length p) (hc : p.length ≤ c) (hN : p.length ≤ 2097152) (hB : IsB p) (hE : EnvOK w) :
    Calls Tryd.prog 21 #[.int .u8 kk, .slice A p.length c] w fun e w' => e = .returned (.bool true) ∧ Below w.heap.size w w' := by
  have HE := Lib.hid hE
  have HP := Lib.hid hp
  have HB := Lib.hid hB
  clear hE hp hB
  go_enter Tryd.func21, Tryd.ntmps21
  go_wp2_with fail
  refine (awake8_calls w HE.out).mono ?_
  rintro e w1 ⟨rfl, hb1⟩
  obtain ⟨k, hq1, hq2, cK⟩ := kinds_calls kk hkk w1
  have hq : 1 ≤ k ∧ k ≤ 10 := ⟨hq1, hq2⟩
  have hsz := whole_size k hq HB.out
  have HA := Lib.hid (fun h => aln_whole k hq p h)
  have cA := all_calls k hq p A c w1 (Kd.C_below HP.out hb1) hc (by omega) HB.out (HE.out.below hb1)
  generalize (wholeE k p).flatten = W at *
  go_wp2_with fail
  refine cK.mono ?_
  rintro e w2 ⟨rfl, hw2⟩
  obtain rfl : w1 = w2 := hw2.symm
  have hm1 : IntKind.i64.wrap (12 * (p.length : Int)) = 12 * (p.length : Int) := IntWalk.i64_in _ (by omega)
  have hm2 : IntKind.i64.wrap (12 * (p.length : Int) + 8) = 12 * (p.length : Int) + 8 := IntWalk.i64_in _ (by omega)
  have hle : ¬ ((W.length : Int) > 12 * (p.length : Int) + 8) := by omega
  have hle2 : (W.length : Int) ≤ 12 * (p.length : Int) + 8 := by omega
  go_wp2_with fail
  refine cA.mono ?_
  rintro e w3 ⟨v3, rfl, ho3, hb3⟩
  obtain ⟨A3, c3, rfl, hc3, hC3⟩ := Kd.R_reads ho3
  have hb3' := below_then hb1 hb1.size hb3
  have HP3 := Lib.hid (Kd.C_below HP.out hb3')
  have HC3 := Lib.hid hC3
  clear cA cK ho3 hC3
  go_wp2_with fail
  go_loopw [8] (fun v8 wr => ∃ i : Nat, v8 = .int .i64 (i : Int) ∧ i ≤ p.length ∧ wr = w3 ∧ (p.take i).all aln = true) (fun v8 _ => match v8 with | .int _ i => p.length - i.toNat | _ => 0)
  case atStart => exact ⟨0, rfl, Nat.zero_le _, rfl, rfl⟩
  case round =>
    obtain ⟨i, rfl, hi, rfl, hal⟩ := hrel
    have HAL := Lib.hid hal
    clear hal
    by_cases hlt : i < p.length
    · have hlt' : (i : Int) < (p.length : Int) := by omega
      have hw1 : IntKind.i64.wrap ((i : Int) + 1) = (i : Int) + 1 := IntWalk.i64_in _ (by omega)
      obtain ⟨ad, rfl, hx⟩ := Kd.at_int HP3.out (i : Int) (by omega) (by omega)
      rw [Int.toNat_natCast, show rd p (i : Int) = p.getD i 0 by simp [rd, rdOf]] at hx
      have HT := Lib.hid (fun h => take_all p i hlt HAL.out h)
      have hcs := aln_cases (p.getD i 0)
      generalize p.getD i 0 = x at hx HT hcs
      rcases hcs with ⟨h1, ha⟩ | ⟨h1, h2, ha⟩ | ⟨h1, h2, ha⟩ | ⟨h1, h2, ha⟩ | ⟨h1, h2, ha⟩ | ⟨h1, h2, ha⟩ | ⟨h1, ha⟩
      all_goals (
        have HH := Lib.hid ha
        clear ha
        have d1 := Lib.hid (show decide (97 ≤ x) = decide (97 ≤ x) from rfl)
        by_cases e1 : 97 ≤ x <;> by_cases e2 : x ≤ 122 <;> by_cases e3 : 65 ≤ x <;> by_cases e4 : x ≤ 90 <;> by_cases e5 : 48 ≤ x <;> by_cases e6 : x ≤ 57 <;> first
          | (exfalso; omega)
          | (clear h1; go_wp2_with fail
             first
               | (go_ret; exact ⟨rfl, hb3'⟩)
               | (go_roundw
                  case rel => exact ⟨i + 1, by first | rfl | simp, by omega, by first | rfl | trivial, HT.out HH.out⟩
                  case measure => simp; omega)))
    · have hip : i = p.length := by omega
      subst hip
      have hlt' : ¬ ((p.length : Int) < (p.length : Int)) := by omega
      have hall := HAL.out
      rw [List.take_length] at hall
      have s1 := Z.z_string (c := c3) HC3.out
      have s2 := Z.z_string (c := c) HP3.out
      rcases HA.out hall with h | ⟨rfl, h16, h⟩
      · subst h
        go_wp2_with fail
        go_ret
        exact ⟨by first | rfl | (simp; done), hb3'⟩
      · subst h
        have s1' : (convert 22 9 (.slice A3 Z.blockedL.length c3)).run Tryd.prog wr = .ok (.string ⟨#[35, 98, 108, 111, 99, 107, 101, 100]⟩) wr := s1
        clear s1
        obtain ⟨sp, hsp⟩ : ∃ s, strOfNums p = s := ⟨_, rfl⟩
        rw [hsp] at s2
        clear hsp
        go_wp2_with fail
        all_goals (
          go_ret
          exact ⟨by first | rfl | (simp; done), hb3'⟩)
end Go.Proofs.YtdpnnglfaofjeaaDoor.Y
namespace Go.Proofs.YtdpnnglfaofjeaaDoor.Y
open Go.RowKit Go.Proofs.YtdpnnglfaofjeaaDoorW.PrintWords
set_option linter.unusedVariables false
set_option linter.unusedSimpArgs false
set_option maxRecDepth 1000000
theorem n4 : Tryd.prog.globalNamed "unicode/utf8.first" = some 4 := by kernel_rfl
theorem y4 : (Tryd.prog.globals[4]?).map (·.type) = some 136 := by kernel_rfl
theorem n5 : Tryd.prog.globalNamed "unicode/utf8.acceptRanges" = some 5 := by kernel_rfl
theorem y5 : (Tryd.prog.globals[5]?).map (·.type) = some 139 := by kernel_rfl
theorem c5 : Tryd.prog.cellsOf 5 = 1 := by kernel_rfl
theorem c136 : Tryd.prog.cellsOf 136 = 256 := by kernel_rfl
theorem c138 : Tryd.prog.cellsOf 138 = 2 := by kernel_rfl
theorem first_data : (Rows.laid_unicode_utf8_first : DataW Unit) = Lib.firstData := by kernel_rfl
theorem accept_data : (Rows.laid_unicode_utf8_acceptRanges : DataW Unit) = Lib.acceptData := by kernel_rfl
theorem first_same : ∀ p : Nat, p < 256 → (Lib.firstTab)[p]? = some (Z.firstT p) := by decide +kernel
theorem acc_same : ∀ i : Nat, i < 5 → ((Lib.accLo i : Nat) : Int) = Z.loT i ∧ ((Lib.accHi i : Nat) : Int) = Z.hiT i := by decide +kernel
theorem schOK {W : World} (hL : laidMetH Tryd.prog [("math/bits.deBruijn32tab", Rows.laid_math_bits_deBruijn32tab), ("math/bits.deBruijn64tab", Rows.laid_math_bits_deBruijn64tab), ("internal/strconv.uint64pow10", Rows.laid_internal_strconv_uint64pow10), ("unicode/utf8.acceptRanges", Rows.laid_unicode_utf8_acceptRanges), ("unicode/utf8.first", Rows.laid_unicode_utf8_first)] W) (hsh : W.ShapedOpen Tryd.prog) : Z.SchOK W := by
  have h1 : laidMet Tryd.prog [("math/bits.deBruijn32tab", Rows.laid_math_bits_deBruijn32tab), ("math/bits.deBruijn64tab", Rows.laid_math_bits_deBruijn64tab), ("internal/strconv.uint64pow10", Rows.laid_internal_strconv_uint64pow10), ("unicode/utf8.acceptRanges", Rows.laid_unicode_utf8_acceptRanges), ("unicode/utf8.first", Rows.laid_unicode_utf8_first)] W := (laidMetH_iff.1 hL).1
  have h3 := Lib.laidMet.reads h1 (n := "unicode/utf8.first") (d := Rows.laid_unicode_utf8_first) (by simp)
  have h4 := Lib.laidMet.reads h1 (n := "unicode/utf8.acceptRanges") (d := Rows.laid_unicode_utf8_acceptRanges) (by simp)
  rw [first_data] at h3
  rw [accept_data] at h4
  refine ⟨⟨fun p hp => ?_, fun i hi => ?_⟩, Go.Proofs.cell_of_shapedOpen_int (zero := #[.int .i64 0]) (t := 3) hsh (of_decide_eq_true (by kernel_rfl)) (by kernel_rfl) rfl (by kernel_rfl) (by kernel_rfl) Tryd.underlying3⟩
  · obtain ⟨g, t, cs, fuel, p', hg, hty, hvar, hd⟩ := h3
    obtain rfl := Option.some.inj (n4.symm.trans hg)
    obtain rfl := Option.some.inj (y4.symm.trans hty)
    have hcs := Lib.cells_of_tab Tryd.underlying136 Tryd.underlying5 c5 c136 hd
    have := World.var?_cell hg hvar p
    rw [this, ← Array.getElem?_toList, hcs]
    rw [List.getElem?_map, first_same p hp]
    rfl
  · obtain ⟨g, t, cs, fuel, p', hg, hty, hvar, hd⟩ := h4
    obtain rfl := Option.some.inj (n5.symm.trans hg)
    obtain rfl := Option.some.inj (y5.symm.trans hty)
    obtain ⟨fuel', d, q, hdi, he⟩ := Lib.array_elem Tryd.underlying139 hd i (by omega)
    simp only [List.getElem?_map, List.getElem?_range (show i < 16 by omega), Option.map_some, Option.some.injEq] at hdi
    subst hdi
    rw [c138] at he
    have hcs := Lib.ints_of_struct Tryd.underlying138 (fun j f hj => by
      match j, hj with
      | 0, hj => simp at hj; subst hj; exact ⟨Tryd.underlying5, rfl, c5⟩
      | 1, hj => simp at hj; subst hj; exact ⟨Tryd.underlying5, rfl, c5⟩
      | j + 2, hj => simp at hj) (by rw [c138]; rfl) he
    have e0 := congrArg (·[0]?) hcs
    have e1 := congrArg (·[1]?) hcs
    simp only [List.getElem?_take, List.getElem?_drop] at e0 e1
    obtain ⟨a0, a1⟩ := acc_same i hi
    rw [← a0, ← a1]
    constructor
    · rw [World.var?_cell hg hvar (i * 2), ← Array.getElem?_toList]
      simpa [Nat.mul_comm] using e0
    · rw [World.var?_cell hg hvar (i * 2 + 1), ← Array.getElem?_toList]
      simpa [Nat.mul_comm] using e1
theorem gTab : Tryd.prog.globalNamed "math/bits.deBruijn64tab" = some 3 := by kernel_rfl
theorem gTabType : (Tryd.prog.globals[3]?).map (·.type) = some 135 := by kernel_rfl
theorem under135 : Tryd.prog.underlying 135 = some (.array 64 5) := by kernel_rfl
theorem cells135 : Tryd.prog.cellsOf 135 = 64 := by kernel_rfl
theorem cells5 : Tryd.prog.cellsOf 5 = 1 := by kernel_rfl
def tab64 : List Int := [0, 1, 56, 2, 57, 49, 28, 3, 61, 58, 42, 50, 38, 29, 17, 4, 62, 47, 59, 36, 45, 43, 51, 22, 53, 39, 33, 30, 24, 18, 12, 5, 63, 55, 48, 27, 60, 41, 37, 16, 46, 35, 44, 21, 52, 32, 23, 11, 54, 26, 40, 15, 34, 20, 31, 10, 25, 14, 19, 9, 13, 8, 7, 6]
theorem tab_eq : (Rows.laid_math_bits_deBruijn64tab : DataW Unit) = Lib.tabData .u8 tab64 := rfl
theorem tabOK {W : World} (h : laidMetH Tryd.prog [("math/bits.deBruijn32tab", Rows.laid_math_bits_deBruijn32tab), ("math/bits.deBruijn64tab", Rows.laid_math_bits_deBruijn64tab), ("internal/strconv.uint64pow10", Rows.laid_internal_strconv_uint64pow10), ("unicode/utf8.acceptRanges", Rows.laid_unicode_utf8_acceptRanges), ("unicode/utf8.first", Rows.laid_unicode_utf8_first)] W) : U.TabOK W := by
  have h1 := (laidMetH_iff.1 h).1
  have h2 := h1.filter (fun x => x.1 == "math/bits.deBruijn64tab")
  have h3 : laidMet Tryd.prog [("math/bits.deBruijn64tab", Lib.tabData .u8 tab64)] W := h2
  exact (Lib.tabIs_of_head gTab gTabType under135 Tryd.underlying5 cells5 cells135 h3).cell gTab 15 (by decide)
theorem envOK {W : World} (hL : laidMetH Tryd.prog [("math/bits.deBruijn32tab", Rows.laid_math_bits_deBruijn32tab), ("math/bits.deBruijn64tab", Rows.laid_math_bits_deBruijn64tab), ("internal/strconv.uint64pow10", Rows.laid_internal_strconv_uint64pow10), ("unicode/utf8.acceptRanges", Rows.laid_unicode_utf8_acceptRanges), ("unicode/utf8.first", Rows.laid_unicode_utf8_first)] W) (hsh : W.ShapedOpen Tryd.prog) : EnvOK W := ⟨schOK hL hsh, tabOK hL⟩
end Go.Proofs.YtdpnnglfaofjeaaDoor.Y
namespace Go.Proofs.YtdpnnglfaofjeaaDoor.Opening
open Go.RowKit Go.Deep Go.Proofs.YtdpnnglfaofjeaaDoorW.PrintWords Go.ChangeShapes
theorem one_le {H : Type} (d : DataW H) : 1 ≤ Rows.uptoBulk d := by
  cases d with
  | lit l => cases l <;> simp [Rows.uptoBulk]
  | nil => simp [Rows.uptoBulk]
  | ptr d => simp [Rows.uptoBulk]
  | slice elems spare => simp [Rows.uptoBulk]
  | agg parts => simp [Rows.uptoBulk]
  | iface t d => simp [Rows.uptoBulk]
  | map entries => simp [Rows.uptoBulk]
  | held h => simp [Rows.uptoBulk]
def Opens {α : Type} (P : Program) (t : Nat) (d : Kd α) (good : α → Prop) (bulk : α → Nat) : Prop :=
  ∀ {H : Type} {enc : TypeId × Value → H} {w : World} {base : Nat} {spare : Nat → Bool} {held : Bool} {fuel : Nat} {cs : List Value} {x : DataW H × List MemPlace},
    DataW.trod enc P w base spare held fuel t cs = some x → ∃ v : α, d.K w v cs ∧ good v ∧ bulk v ≤ Rows.uptoBulk x.1
theorem opens_int {P : Program} {t : Nat} {k : IntKind} (ht : P.underlying t = some (.int k)) : Opens P t (Kd.int k) (fun n => (Lit.int k n).wf = true) (fun _ => 1) := by
  intro H enc w base spare held fuel cs x h
  obtain ⟨n, rfl, rfl, hw⟩ := DataW.trod_int ht h
  exact ⟨n, rfl, hw, one_le _⟩
theorem opens_bool {P : Program} {t : Nat} (ht : P.underlying t = some .bool) : Opens P t Kd.bool (fun _ => True) (fun _ => 1) := by
  intro H enc w base spare held fuel cs x h
  obtain ⟨b, rfl, rfl⟩ := DataW.trod_bool ht h
  exact ⟨b, rfl, trivial, one_le _⟩
theorem opens_string {P : Program} {t : Nat} (ht : P.underlying t = some .string) : Opens P t Kd.string (fun s => s.size ≤ maxLen) (fun s => s.size + 1) := by
  intro H enc w base spare held fuel cs x h
  obtain ⟨s, rfl, rfl, hs⟩ := DataW.trod_string ht h
  refine ⟨s, rfl, hs, ?_⟩
  have e : s.data.toList.length = s.size := data_length s
  simp only [Rows.uptoBulk, e]
  exact Nat.le_refl _
theorem bulk_map {H α : Type} (bulk : α → Nat) (D : Nat → DataW H) (l : List α) : ∀ (m : Nat), l.length = m → (∀ (i : Nat) (v : α), l[i]? = some v → bulk v ≤ Rows.uptoBulk (D i)) → (l.map bulk).sum ≤ Rows.uptoBulkAll ((List.range m).map D) := by
  induction l generalizing D with
  | nil => intro m hm h; simp
  | cons a l ih =>
    intro m hm h
    obtain ⟨m, rfl⟩ : ∃ k, m = k + 1 := ⟨m - 1, by simp at hm; omega⟩
    rw [List.range_succ_eq_map]
    simp only [List.map_cons, List.sum_cons, Rows.uptoBulkAll, List.map_map]
    have h0 := h 0 a rfl
    have h1 := ih (fun i => D (i + 1)) m (by simpa using hm) (fun i v hv => h (i + 1) v (by simpa using hv))
    have e : (D ∘ Nat.succ) = fun i => D (i + 1) := rfl
    rw [e]
    omega
theorem opens_slice {P : Program} {α : Type} {t e : Nat} {d : Kd α} {good : α → Prop} {bulk : α → Nat} (ht : P.underlying t = some (.slice e)) (hsz : P.cellsOf e = d.sz) (h : Opens P e d good bulk) :
    Opens P t (Kd.slice e d) (fun l => l.length ≤ maxLen ∧ ∀ v ∈ l, good v) (fun l => (l.map bulk).sum + 1) := by
  intro H enc w base spare held fuel cs x hx
  rcases open_slice ht hx with ⟨rfl, rfl⟩ | ⟨a, len, cap, m, n, D, Pl, rfl, hb, hlc, hcm, hm, rfl, hi⟩
  · exact ⟨[], ⟨none, 0, rfl, Nat.le_refl _, Kd.C_nil _ _⟩, ⟨Nat.zero_le _, fun v hv => by simp at hv⟩, by simp [Rows.uptoBulk]⟩
  · have hlm : len ≤ m := by rw [hm]; split <;> omega
    have step : ∀ i, i < len → ∃ (v : α) (c : List Value), c.length = d.sz ∧ d.K w v c ∧ good v ∧ bulk v ≤ Rows.uptoBulk (D i) ∧ ∀ j u, c[j]? = some u → w.cell? (a.add (i * d.sz + j)) = some u := by
      intro i hil
      obtain ⟨c, hc, htr⟩ := hi i (by omega)
      obtain ⟨v, hK, hg, hbk⟩ := h htr
      obtain ⟨_, hcl, hat⟩ := World.cells?_some hc
      refine ⟨v, c, by rw [hcl, hsz], hK, hg, hbk, fun j u hu => ?_⟩
      have hj : j < c.length := (List.getElem?_eq_some_iff.1 hu).1
      have := hat j (by omega)
      rw [← Go.Deep.add_add, ← hsz, this, hu]
    have build : ∀ k, k ≤ len → ∃ l : List α, l.length = k ∧ ∀ (i : Nat) (v : α), l[i]? = some v → ∃ c : List Value, c.length = d.sz ∧ d.K w v c ∧ good v ∧ bulk v ≤ Rows.uptoBulk (D i) ∧ ∀ j u, c[j]? = some u → w.cell? (a.add (i * d.sz + j)) = some u := by
      intro k
      induction k with
      | zero => exact fun _ => ⟨[], rfl, fun i v hv => by simp at hv⟩
      | succ k ih =>
        intro hk
        obtain ⟨l, hl, hall⟩ := ih (by omega)
        obtain ⟨v, c, hcv⟩ := step k (by omega)
        refine ⟨l ++ [v], by simp [hl], fun i u hu => ?_⟩
        rcases Nat.lt_or_ge i l.length with h1 | h1
        · rw [List.getElem?_append_left h1] at hu
          exact hall i u hu
        · rw [List.getElem?_append_right h1] at hu
          have h2 : i - l.length = 0 := by
            rcases Nat.eq_zero_or_pos (i - l.length) with h3 | h3
            · exact h3
            · rw [List.getElem?_eq_none (by simp; omega)] at hu
              cases hu
          rw [h2] at hu
          simp at hu
          subst hu
          obtain rfl : i = k := by omega
          exact ⟨c, hcv⟩
    obtain ⟨l, hl, hall⟩ := build len (Nat.le_refl _)
    subst hl
    refine ⟨l, ⟨some a, cap, rfl, hlc, rfl, by simp only [maxLen] at hcm; omega, fun _ => ⟨a, rfl, fun j p hp => ?_⟩⟩, ⟨by omega, fun v hv => ?_⟩, ?_⟩
    · obtain ⟨c, h1, h2, _, _, h5⟩ := hall j p hp
      exact ⟨c, h1, h2, h5⟩
    · obtain ⟨i, hi', rfl⟩ := List.mem_iff_getElem.1 hv
      obtain ⟨c, _, _, h3, _⟩ := hall i _ (List.getElem?_eq_getElem hi')
      exact h3
    · have := bulk_map bulk D l l.length rfl (fun i v hv => by obtain ⟨c, _, _, _, h4, _⟩ := hall i v hv; exact h4)
      simp only [Rows.uptoBulk]
      omega
theorem sum_ones {α : Type} (l : List α) : (l.map fun _ => 1).sum = l.length := by
  induction l with
  | nil => rfl
  | cons a l ih => simp only [List.map_cons, List.sum_cons, ih, List.length_cons]; omega
theorem u8_range {x : Int} (h : (Lit.int .u8 x).wf = true) : 0 ≤ x ∧ x ≤ 255 := by simpa [Lit.wf, IntKind.min, IntKind.max, IntKind.signed, IntKind.bits] using h
theorem u16_range {x : Int} (h : (Lit.int .u16 x).wf = true) : 0 ≤ x ∧ x ≤ 65535 := by simpa [Lit.wf, IntKind.min, IntKind.max, IntKind.signed, IntKind.bits] using h
end Go.Proofs.YtdpnnglfaofjeaaDoor.Opening

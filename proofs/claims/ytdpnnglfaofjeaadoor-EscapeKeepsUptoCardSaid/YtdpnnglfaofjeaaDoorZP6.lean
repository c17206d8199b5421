import Derived.Test.YtdpnnglfaofjeaaDoorRows
import Derived.Lib.LaidU8
import Derived.Lib.LaidTab
import Derived.Shelf.Vars
import Derived.Deep.DeepHandedRow
import Derived.LaidSub
import Derived.Lay
import Derived.OpenShut
import Derived.Deep.Slices
import Derived.ChangeArms
import Derived.ProofKit
import Derived.JoinedCond
import Derived.Test.YtdpnnglfaofjeaaDoorZP5
namespace Go.Proofs.YtdpnnglfaofjeaaDoor.Y
open Go.RowKit Go.Proofs.YtdpnnglfaofjeaaDoorW.PrintWords Go.Proofs.YtdpnnglfaofjeaaDoorW.PrintLast Go.Proofs.YtdpnnglfaofjeaaDoorW.PrintMore
open Go.Proofs.YtdpnnglfaofjeaaDoor.V (RB RB.of_OB RB.lit info5 runeOf run rest3 clean chars DecIs IsB fffd only_setCell)
open Go.Proofs.YtdpnnglfaofjeaaDoor.Z (Only)
set_option linter.unusedVariables false
set_option linter.unusedSimpArgs false
set_option maxRecDepth 1000000
theorem R_only {F : Nat → Prop} {w w1 : World} {base : Nat} {v : Value} {xs : List Int} (h : Kd.R (Kd.int .u8) 5 w base (fun _ => True) v xs) (hO : Only F w w1) (hv : ∀ k, v.ownBlock = some k → ¬ F k) : Kd.R (Kd.int .u8) 5 w1 base (fun _ => True) v xs :=
  Kd.R_mono (Kd.R_step (Kd.R_of_own (ok := fun k => v.ownBlock = some k) (Kd.own_of_R h) (fun _ h => h)) (fun k hk hl => hO.block k hl (hv k hk))) (fun _ _ => trivial)
def JS (w0 W : World) (B b : Nat) (k : Int) (S : List Int) (P : Nat → Prop) (v : Value) (xs : List Int) : Prop :=
  EscIs W P B b k S ∧ (∀ x, P x → B ≤ x ∧ x < W.heap.size ∧ some x ≠ v.ownBlock) ∧ Kd.R (Kd.int .u8) 5 W w0.heap.size (fun _ => True) v xs ∧ Below w0.heap.size w0 W ∧ w0.heap.size ≤ B ∧ B ≤ W.heap.size
theorem JS.new {w0 w w' : World} {b : Nat} {k : Int} (hb0 : Below w0.heap.size w0 w) (hE : EscIs w' (fun x => w.heap.size ≤ x) w.heap.size b k []) (hb : Below w.heap.size w w') :
    JS w0 w' w.heap.size b k [] (fun x => w.heap.size ≤ x ∧ x < w'.heap.size) (.slice none 0 0) [] :=
  ⟨hE.bound, fun x hx => ⟨hx.1, hx.2, by simp [Value.ownBlock]⟩, Kd.R_nil _ _ _ _ _, below_then hb0 hb0.size hb, hb0.size, hb.size⟩
theorem JS.below {w0 W W1 : World} {B b : Nat} {k : Int} {S : List Int} {P : Nat → Prop} {v : Value} {xs : List Int} (h : JS w0 W B b k S P v xs) (hb : Below W.heap.size W W1) : JS w0 W1 B b k S P v xs :=
  ⟨h.1.below hb, fun x hx => ⟨(h.2.1 x hx).1, Nat.lt_of_lt_of_le (h.2.1 x hx).2.1 hb.size, (h.2.1 x hx).2.2⟩, Kd.R_below h.2.2.1 hb, below_then h.2.2.2.1 h.2.2.2.1.size hb, h.2.2.2.2.1, Nat.le_trans h.2.2.2.2.2 hb.size⟩
theorem JS.fresh {w0 W : World} {B b : Nat} {k : Int} {S : List Int} {P : Nat → Prop} {v : Value} {xs : List Int} (h : JS w0 W B b k S P v xs) : JS w0 W B b k S P (.slice none 0 0) [] :=
  ⟨h.1, fun x hx => ⟨(h.2.1 x hx).1, (h.2.1 x hx).2.1, by simp [Value.ownBlock]⟩, Kd.R_nil _ _ _ _ _, h.2.2.2⟩
def JP (W : World) (P : Nat → Prop) : Nat → Prop := fun x => P x ∨ W.heap.size ≤ x
theorem JS.feeds {w0 W : World} {B b : Nat} {k : Int} {S p : List Int} {P : Nat → Prop} {v : Value} {xs : List Int} (h : JS w0 W B b k S P v xs) (hk : 1 ≤ k ∧ k ≤ 10) (A : Option Addr) (c : Nat) (hp : Kd.C (Kd.int .u8) W A p.length p) (hc : p.length ≤ c)
    (hN : S.length + p.length ≤ 1073741824) (hBS : IsB S) (hBp : IsB p) (hE : EnvOK w0) :
    Calls Tryd.prog 53 #[.pointer (some ⟨b, 0, none⟩), .slice A p.length c] W (FeedE W (JP W P) B b k (S ++ p) (unitsOf k (letE k (run S).1 (run ((run S).2 ++ p)).1))) :=
  feedE_calls (JP W P) B b k hk S p A c W (h.1.mono (fun x hx => .inl hx)) hp hc hN hBS hBp (hE.below h.2.2.2.1) (Nat.le_trans hE.1.six h.2.2.2.2.1)
    (fun x hx => by rcases hx with hx | hx; exact (h.2.1 x hx).1; exact Nat.le_trans h.2.2.2.2.2 hx) h.2.2.2.2.2 (fun x hx => .inr hx)
theorem JS.fins {w0 W : World} {B b : Nat} {k : Int} {S : List Int} {P : Nat → Prop} {v : Value} {xs : List Int} (h : JS w0 W B b k S P v xs) (hk : 1 ≤ k ∧ k ≤ 10) (hN : S.length ≤ 1073741824) (hBS : IsB S) (hE : EnvOK w0) :
    Calls Tryd.prog 54 #[.pointer (some ⟨b, 0, none⟩)] W (FeedE W (JP W P) B b k [] (unitsOf k (letE k (run S).1 (rest3 (run S).2) ++ restE k (clean S)))) :=
  finE_calls (JP W P) B b k hk S W (h.1.mono (fun x hx => .inl hx)) hN hBS (hE.below h.2.2.2.1) (Nat.le_trans hE.1.six h.2.2.2.2.1)
    (fun x hx => by rcases hx with hx | hx; exact (h.2.1 x hx).1; exact Nat.le_trans h.2.2.2.2.2 hx) h.2.2.2.2.2 (fun x hx => .inr hx)
theorem JS.fed {w0 W W1 : World} {B b : Nat} {k : Int} {S S' : List Int} {P : Nat → Prop} {v : Value} {xs : List Int} {L : List (List Int)} {e : Ending} (h : JS w0 W B b k S P v xs) (hf : FeedE W (JP W P) B b k S' L e W1) :
    ∃ (m : Nat) (A : Option Addr) (c : Nat), e = .returned (.slice A L.length c) ∧ L.length ≤ c ∧ W.heap.size ≤ m ∧ Kd.N (Kd.slice 5 (Kd.int .u8)) 22 W1 m (fun x => m ≤ x) (.slice A L.length c) L ∧ Kd.F (Kd.slice 5 (Kd.int .u8)) W1 (fun x => m ≤ x) A L.length L ∧
      JS w0 W1 B b k S' (fun x => (JP W P x ∧ x < m) ∧ x < W1.heap.size) v xs ∧ Only (JP W P) W W1 ∧ W.heap.size ≤ W1.heap.size := by
  obtain ⟨m, v1, rfl, hm, hn, hE, hO⟩ := hf
  obtain ⟨A, c, rfl, hc, _⟩ := Kd.N_reads hn
  have hl := Kd.R_lt h.2.2.1
  have hsz := hO.size
  have hown : ∀ q, v.ownBlock = some q → ¬ JP W P q := fun q hq hj => by
    rcases hj with hj | hj
    · exact (h.2.1 q hj).2.2 hq.symm
    · have := hl q hq; omega
  refine ⟨m, A, c, rfl, hc, hm, hn, Kd.N_F hn, ⟨hE.bound, fun x hx => ⟨?_, hx.2, fun e => hown x e.symm hx.1.1⟩, R_only h.2.2.1 hO hown, h.2.2.2.1.trans (hO.below (fun x hx => ?_) h.2.2.2.1.size), h.2.2.2.2.1, Nat.le_trans h.2.2.2.2.2 hsz⟩, hO, hsz⟩
  · rcases hx.1.1 with h1 | h1
    · exact (h.2.1 x h1).1
    · exact Nat.le_trans h.2.2.2.2.2 h1
  · rcases hx with h1 | h1
    · exact Nat.le_trans h.2.2.2.2.1 (h.2.1 x h1).1
    · exact Nat.le_trans h.2.2.2.1.size h1
theorem JS.joined {w0 W W1 : World} {B b : Nat} {k : Int} {S : List Int} {P : Nat → Prop} {v : Value} {xs ys : List Int} {e : Ending} (h : JS w0 W B b k S P v xs) (hj : JoinIs W w0.heap.size v ys e W1) :
    ∃ A c, e = .returned (.slice A ys.length c) ∧ ys.length ≤ c ∧ JS w0 W1 B b k S P (.slice A ys.length c) ys ∧ W.grownBy W1 v.ownBlock ∧ ((Value.slice A ys.length c).ownBlock = v.ownBlock ∨ ∃ q, (Value.slice A ys.length c).ownBlock = some q ∧ W.heap.size ≤ q) := by
  obtain ⟨v1, rfl, ho, hg, ha⟩ := hj
  obtain ⟨A, c, rfl, hc, _⟩ := Kd.R_reads ho
  refine ⟨A, c, rfl, hc, ⟨h.1.step (fun x hx hl => hg.block x hl (h.2.1 x hx).2.2), fun x hx => ⟨(h.2.1 x hx).1, Nat.lt_of_lt_of_le (h.2.1 x hx).2.1 hg.size, ?_⟩, ho, pw_below_grown h.2.2.2.1 _ h.2.2.2.1.size hg (fun q hq => Kd.R_base h.2.2.1 q hq), h.2.2.2.2.1, Nat.le_trans h.2.2.2.2.2 hg.size⟩, hg, ha⟩
  rcases ha with e | ⟨q, e, hq⟩
  · rw [e]; exact (h.2.1 x hx).2.2
  · rw [e]; intro e2; injection e2 with e2; have := (h.2.1 x hx).2.1; omega
theorem JS.joins {w0 W : World} {B b : Nat} {k : Int} {S : List Int} {P : Nat → Prop} {v : Value} {xs : List Int} {L : List (List Int)} {A : Option Addr} {c m : Nat} (h : JS w0 W B b k S P v xs)
    (hF : Kd.F (Kd.slice 5 (Kd.int .u8)) W (fun x => m ≤ x) A L.length L) (hm : ∀ q, v.ownBlock = some q → q < m) (hN : xs.length + L.flatten.length ≤ 140737488355328) (hL : L.length ≤ 1099511627776) :
    Calls Tryd.prog 52 #[v, .slice A L.length c] W (JoinIs W w0.heap.size v (xs ++ L.flatten)) :=
  join_calls w0.heap.size v xs L A c W h.2.2.1 h.2.2.2.1.size (Kd.F_mono hF (fun x hx e => by have := hm x e.symm; omega)) hN hL
def Apart (W : World) (P : Nat → Prop) (v u : Value) : Prop := ∀ q, u.ownBlock = some q → q < W.heap.size ∧ ¬ P q ∧ some q ≠ v.ownBlock
theorem Apart.fed {W W1 : World} {P : Nat → Prop} {v u : Value} {m : Nat} (h : Apart W P v u) (hs : W.heap.size ≤ W1.heap.size) : Apart W1 (fun x => (JP W P x ∧ x < m) ∧ x < W1.heap.size) v u := fun q hq =>
  ⟨Nat.lt_of_lt_of_le (h q hq).1 hs, fun hp => by rcases hp.1.1 with h1 | h1; exact (h q hq).2.1 h1; have := (h q hq).1; omega, (h q hq).2.2⟩
theorem Apart.row_fed {W W1 : World} {P : Nat → Prop} {v u : Value} {base : Nat} {zs : List Int} (h : Apart W P v u) (hr : Kd.R (Kd.int .u8) 5 W base (fun _ => True) u zs) (hO : Only (JP W P) W W1) : Kd.R (Kd.int .u8) 5 W1 base (fun _ => True) u zs :=
  R_only hr hO (fun q hq hj => by rcases hj with h1 | h1; exact (h q hq).2.1 h1; have := (h q hq).1; omega)
theorem Apart.joined {W W1 : World} {P : Nat → Prop} {v v1 u : Value} (h : Apart W P v u) (hg : W.grownBy W1 v.ownBlock) (ha : v1.ownBlock = v.ownBlock ∨ ∃ q, v1.ownBlock = some q ∧ W.heap.size ≤ q) : Apart W1 P v1 u := fun q hq =>
  ⟨Nat.lt_of_lt_of_le (h q hq).1 hg.size, (h q hq).2.1, by
    rcases ha with e | ⟨r, e, hr⟩
    · rw [e]; exact (h q hq).2.2
    · rw [e]; intro e2; injection e2 with e2; have := (h q hq).1; omega⟩
theorem Apart.row_joined {W W1 : World} {P : Nat → Prop} {v u : Value} {base : Nat} {zs : List Int} (h : Apart W P v u) (hr : Kd.R (Kd.int .u8) 5 W base (fun _ => True) u zs) (hg : W.grownBy W1 v.ownBlock) : Kd.R (Kd.int .u8) 5 W1 base (fun _ => True) u zs :=
  Kd.R_grown2 hr rfl hg (fun q hq e => (h q (e.symm)).2.2 hq.symm)
theorem Apart.below {W W1 : World} {P : Nat → Prop} {v u : Value} (h : Apart W P v u) (hb : Below W.heap.size W W1) : Apart W1 P v u := fun q hq => ⟨Nat.lt_of_lt_of_le (h q hq).1 hb.size, (h q hq).2⟩
def ApP (W : World) (P : Nat → Prop) (v : Value) (Q : Nat → Prop) : Prop := ∀ q, Q q → q < W.heap.size ∧ ¬ P q ∧ some q ≠ v.ownBlock
theorem ApP.fed {W W1 : World} {P Q : Nat → Prop} {v : Value} {m : Nat} (h : ApP W P v Q) (hs : W.heap.size ≤ W1.heap.size) : ApP W1 (fun x => (JP W P x ∧ x < m) ∧ x < W1.heap.size) v Q := fun q hq =>
  ⟨Nat.lt_of_lt_of_le (h q hq).1 hs, fun hp => by rcases hp.1.1 with h1 | h1; exact (h q hq).2.1 h1; have := (h q hq).1; omega, (h q hq).2.2⟩
theorem ApP.joined {W W1 : World} {P Q : Nat → Prop} {v v1 : Value} (h : ApP W P v Q) (hg : W.grownBy W1 v.ownBlock) (ha : v1.ownBlock = v.ownBlock ∨ ∃ q, v1.ownBlock = some q ∧ W.heap.size ≤ q) : ApP W1 P v1 Q := fun q hq =>
  ⟨Nat.lt_of_lt_of_le (h q hq).1 hg.size, (h q hq).2.1, by
    rcases ha with e | ⟨r, e, hr⟩
    · rw [e]; exact (h q hq).2.2
    · rw [e]; intro e2; injection e2 with e2; have := (h q hq).1; omega⟩
theorem ApP.below {W W1 : World} {P Q : Nat → Prop} {v : Value} (h : ApP W P v Q) (hb : Below W.heap.size W W1) : ApP W1 P v Q := fun q hq => ⟨Nat.lt_of_lt_of_le (h q hq).1 hb.size, (h q hq).2⟩
theorem JS.keep {w0 W W1 : World} {B b : Nat} {k : Int} {S : List Int} {Q F : Nat → Prop} (h : JS w0 W B b k S Q (.slice none 0 0) []) (hO : Only F W W1) (hF : ∀ x, Q x → ¬ F x) (hb : Below w0.heap.size w0 W1) : JS w0 W1 B b k S Q (.slice none 0 0) [] :=
  ⟨h.1.step (fun x hx hl => hO.block x hl (hF x hx)), fun x hx => ⟨(h.2.1 x hx).1, Nat.lt_of_lt_of_le (h.2.1 x hx).2.1 hO.size, by simp [Value.ownBlock]⟩, Kd.R_nil _ _ _ _ _, hb, h.2.2.2.2.1, Nat.le_trans h.2.2.2.2.2 hO.size⟩
theorem JS.keep_fed {w0 W W1 : World} {B b : Nat} {k : Int} {S : List Int} {P Q : Nat → Prop} {v : Value} (h : JS w0 W B b k S Q (.slice none 0 0) []) (hO : Only (JP W P) W W1) (ha : ApP W P v Q) (hb : Below w0.heap.size w0 W1) : JS w0 W1 B b k S Q (.slice none 0 0) [] :=
  h.keep hO (fun x hx hp => by rcases hp with h1 | h1; exact (ha x hx).2.1 h1; have := (ha x hx).1; omega) hb
theorem JS.keep_joined {w0 W W1 : World} {B b : Nat} {k : Int} {S : List Int} {P Q : Nat → Prop} {v : Value} (h : JS w0 W B b k S Q (.slice none 0 0) []) (hg : W.grownBy W1 v.ownBlock) (ha : ApP W P v Q) (hb : Below w0.heap.size w0 W1) : JS w0 W1 B b k S Q (.slice none 0 0) [] :=
  h.keep (F := fun x => some x = v.ownBlock) (Only.of_grown hg (fun x hx => hx.symm)) (fun x hx hp => (ha x hx).2.2 hp) hb
end Go.Proofs.YtdpnnglfaofjeaaDoor.Y
namespace Go.Proofs.YtdpnnglfaofjeaaDoor.Y
open Go.RowKit Go.Proofs.YtdpnnglfaofjeaaDoorW.PrintWords Go.Proofs.YtdpnnglfaofjeaaDoorW.PrintLast Go.Proofs.YtdpnnglfaofjeaaDoorW.PrintMore
open Go.Proofs.YtdpnnglfaofjeaaDoor.V (RB RB.of_OB RB.lit info5 runeOf run rest3 clean chars DecIs IsB fffd only_setCell)
set_option linter.unusedVariables false
set_option linter.unusedSimpArgs false
set_option maxRecDepth 1000000
theorem isB_nil : IsB [] := by intro x hx; simp at hx
theorem end_count (k : Int) {S : List Int} (hS : IsB S) : (unitsOf k (letE k (run S).1 (rest3 (run S).2) ++ restE k (clean S))).length ≤ 6 * S.length + 16 ∧ (unitsOf k (letE k (run S).1 (rest3 (run S).2) ++ restE k (clean S))).flatten.length ≤ 144 * (6 * S.length + 16) := by
  have hv := (Valid.let k (Valid.run hS) (Valid.rest3 (run S).2)).app (Valid.restE k (Valid.of_clean hS))
  have h1 := unitsOf_len k hv
  have h2 := V.run_len S
  have h3 := rest3_len (run S).2
  have h4 := clean_le S
  have h5 : (letE k (run S).1 (rest3 (run S).2)).length ≤ (run S).1.length + 3 + 8 := by
    unfold letE
    split
    · have := Z.out_len (run S).1 (rest3 (run S).2); omega
    · omega
  have h6 : (restE k (clean S)).length ≤ (clean S).length := by
    unfold restE Z.heldG
    repeat' split
    all_goals simp
  rw [List.length_append] at h1
  have h7 := units_flat k (chars (letE k (run S).1 (rest3 (run S).2) ++ restE k (clean S)))
  have h8 : (chars (letE k (run S).1 (rest3 (run S).2) ++ restE k (clean S))).length = (unitsOf k (letE k (run S).1 (rest3 (run S).2) ++ restE k (clean S))).length := by unfold unitsOf unitsE; rw [List.length_map]
  rw [h8] at h7
  exact ⟨by omega, by unfold unitsOf at *; omega⟩
theorem feed_count2 (k : Int) {S p : List Int} (hS : IsB S) (hp : IsB p) : (unitsOf k (letE k (run S).1 (run ((run S).2 ++ p)).1)).flatten.length ≤ 144 * (3 * (S.length + p.length) + 8) := by
  have h1 := feed_count k hS hp
  have h7 := units_flat k (chars (letE k (run S).1 (run ((run S).2 ++ p)).1))
  have h8 : (chars (letE k (run S).1 (run ((run S).2 ++ p)).1)).length = (unitsOf k (letE k (run S).1 (run ((run S).2 ++ p)).1)).length := by unfold unitsOf unitsE; rw [List.length_map]
  rw [h8] at h7
  unfold unitsOf at *
  omega
set_option maxHeartbeats 16000000 in
theorem resets_calls (kk : Int) (hkk : 0 ≤ kk ∧ kk ≤ 255) (p r : List Int) (A D : Option Addr) (c d : Nat) (w : World) (hp : Kd.C (Kd.int .u8) w A p.length p) (hc : p.length ≤ c) (hr : Kd.C (Kd.int .u8) w D r.length r) (hd : r.length ≤ d)
    (hN : p.length ≤ 2097152) (hM : r.length ≤ 2097152) (hB : IsB p) (hBr : IsB r) (hE : EnvOK w) :
    Calls Tryd.prog 20 #[.int .u8 kk, .slice A p.length c, .slice D r.length d] w fun e w' => e = .returned (.bool true) ∧ Below w.heap.size w w' := by
  have HE := Lib.hid hE
  have HP := Lib.hid hp
  have HR := Lib.hid hr
  have HB := Lib.hid hB
  have HBR := Lib.hid hBr
  clear hE hp hr hB hBr
  go_enter Tryd.func20, Tryd.ntmps20
  go_wp2_with fail
  refine (awake8_calls w HE.out).mono ?_
  rintro e w1 ⟨rfl, hb1⟩
  obtain ⟨k, hq1, hq2, cK⟩ := kinds_calls kk hkk w1
  have hq : 1 ≤ k ∧ k ≤ 10 := ⟨hq1, hq2⟩
  have cN := new_calls k hq w1
  go_wp2_with (first
    | (go_at_call 51; go_loud (refine cK.mono ?_; rintro e w2 ⟨rfl, hw2⟩; obtain rfl : w1 = w2 := hw2.symm))
    | (go_at_call 49; go_loud (refine cN.mono ?_; rintro e w3 ⟨b, rfl, hE3, hb3⟩)))
  have D3 := JS.new hb1 hE3 hb3
  -- STAGES BEGIN
  have cF1 := D3.feeds hq A c (Kd.C_below HP.out D3.2.2.2.1) hc (by rw [List.length_nil]; omega) isB_nil HB.out HE.out
  have kF1 := feed_count k (S := []) (p := p) isB_nil HB.out
  have kG1 := feed_count2 k (S := []) (p := p) isB_nil HB.out
  have kE1 := end_count k HB.out
  have hu1 := congrArg List.flatten (units_two k HB.out)
  rw [List.nil_append] at cF1
  rw [List.flatten_append] at hu1
  rw [List.length_nil] at kF1 kG1
  generalize unitsOf k (letE k (run []).1 (run ((run []).2 ++ p)).1) = L1 at cF1 kF1 kG1 hu1
  have cG1 := fun (W : World) (P : Nat → Prop) (B : Nat) (v : Value) (xs : List Int) (h : JS w W B b k p P v xs) => h.fins hq (by omega) HB.out HE.out
  generalize unitsOf k (letE k (run p).1 (rest3 (run p).2) ++ restE k (clean p)) = M1 at cG1 kE1 hu1
  obtain ⟨X1, hX1⟩ : ∃ X, L1.flatten = X := ⟨_, rfl⟩
  obtain ⟨T1, hT1⟩ : ∃ X, X1 ++ M1.flatten = X := ⟨_, rfl⟩
  have kX1 : X1.length = L1.flatten.length := by rw [hX1]
  have HT1 : Hid ((wholeE k p).flatten = T1) := Lib.hid (by rw [← hu1, hX1, hT1])
  have HX1 := Lib.hid hX1
  have HTT1 := Lib.hid hT1
  have HG1 := Lib.hid cG1
  have HKX1 := Lib.hid kX1
  clear hu1 hX1 hT1 cG1 kX1
  go_wp2_with fail
  refine cF1.mono ?_
  intro e wa1 hf
  obtain ⟨m1, Aa1, ca1, rfl, hca1, hm1, hn1, hF1, Da1, hO1, hs1⟩ := D3.fed hf
  have cJ1 := Da1.joins (c := ca1) hF1 (by intro q hq; simp [Value.ownBlock] at hq) (by rw [List.length_nil]; omega) (by omega)
  rw [List.nil_append, HX1.out] at cJ1
  clear hf hn1 hF1 cF1
  go_wp2_with fail
  refine cJ1.mono ?_
  intro e wb1 hj
  obtain ⟨Ab1, cb1, rfl, hcb1, Db1, hg1, ha1⟩ := Da1.joined hj
  have cH1 := HG1.out _ _ _ _ _ Db1
  clear hj cJ1 Da1
  go_wp2_with fail
  refine cH1.mono ?_
  intro e wc1 hf
  obtain ⟨mc1, Ac1, cc1, rfl, hcc1, hmc1, hnc1, hFc1, Dc1, hOc1, hsc1⟩ := Db1.fed hf
  have hlc1 := Kd.R_lt Db1.2.2.1
  have cL1 := Dc1.joins (c := cc1) hFc1 (fun q hq => by have := hlc1 q hq; omega) (by have := HKX1.out; omega) (by omega)
  rw [HTT1.out] at cL1
  clear hf hnc1 hFc1 cH1 Db1
  go_wp2_with fail
  refine cL1.mono ?_
  intro e wd1 hj
  obtain ⟨Ad1, cd1, rfl, hcd1, Dd1, hgd1, had1⟩ := Dc1.joined hj
  clear hj cL1 Dc1
  have r0 := Dd1.2.2.1
  have ap0 : Apart wd1 _ (.slice none 0 0) (.slice Ad1 T1.length cd1) := fun q hq => ⟨Kd.R_lt r0 q hq, fun hp => (Dd1.2.1 q hp).2.2 hq.symm, by simp [Value.ownBlock]⟩
  have Df1 := Dd1.fresh
  clear Dd1
  have cF2 := Df1.feeds hq D d (Kd.C_below HR.out Df1.2.2.2.1) hd (by rw [List.length_nil]; omega) isB_nil HBR.out HE.out
  have kF2 := feed_count k (S := []) (p := r) isB_nil HBR.out
  have kG2 := feed_count2 k (S := []) (p := r) isB_nil HBR.out
  have kE2 := end_count k HBR.out
  have hu2 := congrArg List.flatten (units_two k HBR.out)
  rw [List.nil_append] at cF2
  rw [List.flatten_append] at hu2
  rw [List.length_nil] at kF2 kG2
  generalize unitsOf k (letE k (run []).1 (run ((run []).2 ++ r)).1) = L2 at cF2 kF2 kG2 hu2
  have cG2 := fun (W : World) (P : Nat → Prop) (B : Nat) (v : Value) (xs : List Int) (h : JS w W B b k r P v xs) => h.fins hq (by omega) HBR.out HE.out
  generalize unitsOf k (letE k (run r).1 (rest3 (run r).2) ++ restE k (clean r)) = M2 at cG2 kE2 hu2
  obtain ⟨X2, hX2⟩ : ∃ X, L2.flatten = X := ⟨_, rfl⟩
  obtain ⟨T2, hT2⟩ : ∃ X, X2 ++ M2.flatten = X := ⟨_, rfl⟩
  have kX2 : X2.length = L2.flatten.length := by rw [hX2]
  have HT2 : Hid ((wholeE k r).flatten = T2) := Lib.hid (by rw [← hu2, hX2, hT2])
  have HX2 := Lib.hid hX2
  have HTT2 := Lib.hid hT2
  have HG2 := Lib.hid cG2
  have HKX2 := Lib.hid kX2
  clear hu2 hX2 hT2 cG2 kX2
  go_wp2_with fail
  refine cF2.mono ?_
  intro e wa2 hf
  obtain ⟨m2, Aa2, ca2, rfl, hca2, hm2, hn2, hF2, Da2, hO2, hs2⟩ := Df1.fed hf
  have cJ2 := Da2.joins (c := ca2) hF2 (by intro q hq; simp [Value.ownBlock] at hq) (by rw [List.length_nil]; omega) (by omega)
  rw [List.nil_append, HX2.out] at cJ2
  have r1a := ap0.row_fed r0 hO2
  have apa := ap0.fed (m := m2) hs2
  clear hf hn2 hF2 cF2
  go_wp2_with fail
  refine cJ2.mono ?_
  intro e wb2 hj
  obtain ⟨Ab2, cb2, rfl, hcb2, Db2, hg2, ha2⟩ := Da2.joined hj
  have cH2 := HG2.out _ _ _ _ _ Db2
  have r1b := apa.row_joined r1a hg2
  have apb := apa.joined hg2 ha2
  clear hj cJ2 Da2
  go_wp2_with fail
  refine cH2.mono ?_
  intro e wc2 hf
  obtain ⟨mc2, Ac2, cc2, rfl, hcc2, hmc2, hnc2, hFc2, Dc2, hOc2, hsc2⟩ := Db2.fed hf
  have hlc2 := Kd.R_lt Db2.2.2.1
  have cL2 := Dc2.joins (c := cc2) hFc2 (fun q hq => by have := hlc2 q hq; omega) (by have := HKX2.out; omega) (by omega)
  rw [HTT2.out] at cL2
  have r1c := apb.row_fed r1b hOc2
  have apc := apb.fed (m := mc2) hsc2
  clear hf hnc2 hFc2 cH2 Db2
  go_wp2_with fail
  refine cL2.mono ?_
  intro e wd2 hj
  obtain ⟨Ad2, cd2, rfl, hcd2, Dd2, hgd2, had2⟩ := Dc2.joined hj
  have r1d := apc.row_joined r1c hgd2
  clear hj cL2 Dc2
  have hbx := Dd2.2.2.2.1
  have cA := all_calls k hq p A c wd2 (Kd.C_below HP.out hbx) hc (by omega) HB.out (HE.out.below hbx)
  rw [HT1.out] at cA
  obtain ⟨_, _, h0e, h0c, hCf⟩ := Kd.R_reads r1d
  injection h0e with h0a h0b h0d
  subst h0a
  subst h0d
  have hCs := (Kd.R_reads' Dd2.2.2.1).2.2
  clear r1a r1b r1c r1d ap0 apa apb apc Dd2
  go_wp2_with fail
  refine cA.mono ?_
  rintro e wx ⟨vx, rfl, hox, hbx2⟩
  obtain ⟨Ax, cx, rfl, hcx, hCx⟩ := Kd.R_reads hox
  have hb9 := below_then hbx hbx.size hbx2
  have cA2 := all_calls k hq r D d wx (Kd.C_below HR.out hb9) hd (by omega) HBR.out (HE.out.below hb9)
  rw [HT2.out] at cA2
  clear cA hox
  go_wp2_with fail
  refine cA2.mono ?_
  rintro e wy ⟨vy, rfl, hoy, hby⟩
  obtain ⟨Ay, cy, rfl, hcy, hCy⟩ := Kd.R_reads hoy
  have s1 := Z.z_string (c := cd1) (Kd.C_below (Kd.C_below hCf hbx2) hby)
  have s2 := Z.z_string (c := cd2) (Kd.C_below (Kd.C_below hCs hbx2) hby)
  have s3 := Z.z_string (c := cx) (Kd.C_below hCx hby)
  have s4 := Z.z_string (c := cy) hCy
  have hb10 := below_then hb9 hb9.size hby
  clear hoy cA2 hCf hCs hCx hCy
  go_wp2_with fail
  go_ret
  exact ⟨by first | rfl | (simp; done), hb10⟩
  -- STAGES END
end Go.Proofs.YtdpnnglfaofjeaaDoor.Y
namespace Go.Proofs.YtdpnnglfaofjeaaDoor.Y
open Go.RowKit Go.Proofs.YtdpnnglfaofjeaaDoorW.PrintWords Go.Proofs.YtdpnnglfaofjeaaDoorW.PrintLast Go.Proofs.YtdpnnglfaofjeaaDoorW.PrintMore
open Go.Proofs.YtdpnnglfaofjeaaDoor.V (RB RB.of_OB RB.lit info5 runeOf run rest3 clean chars DecIs IsB fffd only_setCell)
set_option linter.unusedVariables false
set_option linter.unusedSimpArgs false
set_option maxRecDepth 1000000
def VS (k : Int) (S : List Int) : List Int := (unitsOf k (wantE k (run S).1)).flatten
def feedU (k : Int) (S p : List Int) : List (List Int) := unitsOf k (letE k (run S).1 (run ((run S).2 ++ p)).1)
def finU (k : Int) (S : List Int) : List (List Int) := unitsOf k (letE k (run S).1 (rest3 (run S).2) ++ restE k (clean S))
theorem VS_nil (k : Int) : VS k [] = [] := by unfold VS; rw [run_nil, want_nil, unitsOf_nil]; rfl
theorem VS_feed (k : Int) {S p : List Int} (hS : IsB S) (hp : IsB p) : VS k S ++ (feedU k S p).flatten = VS k (S ++ p) := by
  unfold VS feedU
  rw [← List.flatten_append, units_more k hS hp]
theorem VS_fin (k : Int) {S : List Int} (hS : IsB S) : VS k S ++ (finU k S).flatten = (wholeE k S).flatten := by
  unfold VS finU
  rw [← List.flatten_append, units_end k hS]
theorem VS_len (k : Int) {S : List Int} (hS : IsB S) : (VS k S).length ≤ 144 * (3 * S.length + 8) := by
  have h1 := unitsOf_len k (Valid.wantE k (Valid.run hS))
  have h2 := V.run_len S
  have h3 : (wantE k (run S).1).length ≤ (run S).1.length + 8 := by
    unfold wantE Z.wantL
    split
    · split
      · have := Z.pass_length (run S).1; omega
      · simp
    · omega
  have h7 := units_flat k (chars (wantE k (run S).1))
  have h8 : (chars (wantE k (run S).1)).length = (unitsOf k (wantE k (run S).1)).length := by unfold unitsOf unitsE; rw [List.length_map]
  rw [h8] at h7
  unfold VS unitsOf at *
  omega
theorem JS.feedsU {w0 W : World} {B b : Nat} {k : Int} {S p : List Int} {P : Nat → Prop} {v : Value} {xs : List Int} (h : JS w0 W B b k S P v xs) (hk : 1 ≤ k ∧ k ≤ 10) (A : Option Addr) (c : Nat) (hp : Kd.C (Kd.int .u8) W A p.length p) (hc : p.length ≤ c)
    (hN : S.length + p.length ≤ 8388608) (hBS : IsB S) (hBp : IsB p) (hE : EnvOK w0) : Calls Tryd.prog 53 #[.pointer (some ⟨b, 0, none⟩), .slice A p.length c] W (FeedE W (JP W P) B b k (S ++ p) (feedU k S p)) := h.feeds hk A c hp hc (by omega) hBS hBp hE
theorem JS.finsU {w0 W : World} {B b : Nat} {k : Int} {S : List Int} {P : Nat → Prop} {v : Value} {xs : List Int} (h : JS w0 W B b k S P v xs) (hk : 1 ≤ k ∧ k ≤ 10) (hN : S.length ≤ 8388608) (hBS : IsB S) (hE : EnvOK w0) :
    Calls Tryd.prog 54 #[.pointer (some ⟨b, 0, none⟩)] W (FeedE W (JP W P) B b k [] (finU k S)) := h.fins hk (by omega) hBS hE
theorem JS.joinsU {w0 W : World} {B b : Nat} {k : Int} {S p T : List Int} {P : Nat → Prop} {v : Value} {A : Option Addr} {c m : Nat} (h : JS w0 W B b k T P v (VS k S)) (hF : Kd.F (Kd.slice 5 (Kd.int .u8)) W (fun x => m ≤ x) A (feedU k S p).length (feedU k S p))
    (hm : ∀ q, v.ownBlock = some q → q < m) (hBS : IsB S) (hBp : IsB p) (hN : S.length + p.length ≤ 8388608) : Calls Tryd.prog 52 #[v, .slice A (feedU k S p).length c] W (JoinIs W w0.heap.size v (VS k (S ++ p))) := by
  rw [← VS_feed k hBS hBp]
  have h1 := VS_len k hBS
  have h2 := feed_count k hBS hBp
  have h3 := feed_count2 k hBS hBp
  exact h.joins hF hm (by unfold feedU; omega) (by unfold feedU; omega)
theorem JS.joinsF {w0 W : World} {B b : Nat} {k : Int} {S T : List Int} {P : Nat → Prop} {v : Value} {A : Option Addr} {c m : Nat} (h : JS w0 W B b k T P v (VS k S)) (hF : Kd.F (Kd.slice 5 (Kd.int .u8)) W (fun x => m ≤ x) A (finU k S).length (finU k S))
    (hm : ∀ q, v.ownBlock = some q → q < m) (hBS : IsB S) (hN : S.length ≤ 8388608) : Calls Tryd.prog 52 #[v, .slice A (finU k S).length c] W (JoinIs W w0.heap.size v (wholeE k S).flatten) := by
  rw [← VS_fin k hBS]
  have h1 := VS_len k hBS
  obtain ⟨h2, h3⟩ := end_count k hBS
  exact h.joins hF hm (by unfold finU; omega) (by unfold finU; omega)
theorem out_nil_lt {v : Value} {W : World} {base : Nat} {xs : List Int} {m : Nat} (h : Kd.R (Kd.int .u8) 5 W base (fun _ => True) v xs) (hm : W.heap.size ≤ m) : ∀ q, v.ownBlock = some q → q < m := fun q hq => by have := Kd.R_lt h q hq; omega
set_option maxHeartbeats 16000000 in
theorem cut8_calls (kk : Int) (hkk : 0 ≤ kk ∧ kk ≤ 255) (p : List Int) (A : Option Addr) (c : Nat) (a : Int) (w : World) (hp : Kd.C (Kd.int .u8) w A p.length p) (hc : p.length ≤ c) (hN : p.length ≤ 2097152) (ha : 0 ≤ a ∧ a ≤ 65535) (hB : IsB p) (hE : EnvOK w) :
    Calls Tryd.prog 18 #[.int .u8 kk, .slice A p.length c, .int .u16 a] w fun e w' => e = .returned (.bool true) ∧ Below w.heap.size w w' := by
  obtain ⟨i0, hi0, _, hsz0, _⟩ := info_parts info5
  obtain ⟨n, hn, hn0, hnl⟩ : ∃ n : Int, a % ((p.length : Int) + 1) = n ∧ 0 ≤ n ∧ n ≤ p.length := ⟨_, rfl, Int.emod_nonneg _ (by omega), by have := Int.emod_lt_of_pos a (show (0 : Int) < (p.length : Int) + 1 by omega); omega⟩
  obtain ⟨htake, hT1, htc⟩ := print_take_of (P := Tryd.prog) (Value.int .u8) 0 22 5 .i64 Tryd.underlying22 hi0 hsz0 A c p n hn0 hnl hc
  obtain ⟨A2, hdrop, hT2, hdc⟩ := print_drop_of (P := Tryd.prog) (Value.int .u8) 0 22 5 .i64 Tryd.underlying22 hi0 hsz0 A c p n hn0 hnl hc
  have hl1 : (p.take n.toNat).length ≤ 2097152 := by rw [List.length_take]; omega
  have hl2 : (p.drop n.toNat).length ≤ 2097152 := by rw [List.length_drop]; omega
  have hB1 := isB_take hB n.toNat
  have hB2 := isB_drop hB n.toNat
  have e0 : p.take n.toNat ++ p.drop n.toNat = p := List.take_append_drop _ _
  generalize p.take n.toNat = p1 at htake hT1 htc hl1 hB1 e0
  generalize p.drop n.toNat = p2 at hdrop hT2 hdc hl2 hB2 e0
  have E0 := Lib.hid e0
  have HE := Lib.hid hE
  have HP := Lib.hid hp
  have HB := Lib.hid hB
  have HB1 := Lib.hid hB1
  have HB2 := Lib.hid hB2
  have HT1 := Lib.hid hT1
  have HT2 := Lib.hid hT2
  clear hE hp hB e0 hB1 hB2 hT1 hT2
  go_enter Tryd.func18, Tryd.ntmps18
  go_wp2_with fail
  refine (awake8_calls w HE.out).mono ?_
  rintro e w1 ⟨rfl, hb1⟩
  obtain ⟨k, hq1, hq2, cK⟩ := kinds_calls kk hkk w1
  have hq : 1 ≤ k ∧ k ≤ 10 := ⟨hq1, hq2⟩
  go_wp2_with fail
  refine cK.mono ?_
  rintro e w2 ⟨rfl, hw2⟩
  obtain rfl : w1 = w2 := hw2.symm
  go_wp2_with fail
  refine (new_calls k hq w1).mono ?_
  rintro e w3 ⟨b, rfl, hE3, hb3⟩
  have D3 := JS.new hb1 hE3 hb3
  have hb3' := below_then hb1 hb1.size hb3
  go_wp2_with fail
  refine (new_calls k hq w3).mono ?_
  rintro e w4 ⟨b2, rfl, hE4, hb4⟩
  have Dy4 := JS.new hb3' hE4 hb4
  have hb4' := below_then hb3' hb3'.size hb4
  have D4 := D3.below hb4
  have hs3 := hb3.size
  have hs4 := hb4.size
  have cA := all_calls k hq p A c w4 (Kd.C_below HP.out hb4') hc (by omega) HB.out (HE.out.below hb4')
  obtain ⟨T, hT⟩ : ∃ T, (wholeE k p).flatten = T := ⟨_, rfl⟩
  rw [hT] at cA
  have HTT := Lib.hid hT
  clear hT hE3 hE4 D3
  go_wp2_with fail
  refine cA.mono ?_
  rintro e w5 ⟨vW, rfl, hoW, hb5⟩
  have hs5 := hb5.size
  have hownW : ∀ q, vW.ownBlock = some q → w4.heap.size ≤ q := fun q hq => Kd.R_base hoW q hq
  have hltW := Kd.R_lt hoW
  have r0 := Kd.R_lower hoW hb4'.size
  have D5 := D4.below hb5
  have Dy5 := Dy4.below hb5
  have ap0 : Apart w5 (fun x => w1.heap.size ≤ x ∧ x < w3.heap.size) (.slice none 0 0) vW := fun q hq => ⟨hltW q hq, fun hx => by have := hownW q hq; have := hx.2; omega, by simp [Value.ownBlock]⟩
  have aq0 : ApP w5 (fun x => w1.heap.size ≤ x ∧ x < w3.heap.size) (.slice none 0 0) (fun x => w3.heap.size ≤ x ∧ x < w4.heap.size) := fun q hq => ⟨by have := hq.2; omega, fun hx => by have := hq.1; have := hx.2; omega, by simp [Value.ownBlock]⟩
  have hWy : ∀ q, vW.ownBlock = some q → ¬ (w3.heap.size ≤ q ∧ q < w4.heap.size) := fun q hq hx => by have := hownW q hq; have := hx.2; omega
  obtain ⟨AW, cW, rfl, hcW, _⟩ := Kd.R_reads hoW
  have D5' : JS w w5 w1.heap.size b k [] (fun x => w1.heap.size ≤ x ∧ x < w3.heap.size) (.slice none 0 0) (VS k []) := by rw [VS_nil]; exact D5
  have HWY := Lib.hid hWy
  clear hoW cA hltW hownW hWy D5 D4 Dy4
  go_wp2_with fail
  rw [hn]

  have cF1 := D5'.feedsU hq A c (Kd.C_of_reads (h1 := fun _ => rfl) (HT1.out _ (Kd.reads_of_C (Kd.C_below HP.out D5'.2.2.2.1)))) htc (by rw [List.length_nil]; omega) isB_nil HB1.out HE.out
  rw [List.nil_append] at cF1
  go_wp2_with fail
  (with_reducible refine cF1.mono ?_)
  intro e wa1 hf
  obtain ⟨m1, Aa1, ca1, rfl, hca1, hm1, hn1, hF1, Da1, hO1, hs1⟩ := D5'.fed hf
  have cJ1 := Da1.joinsU (c := ca1) hF1 (out_nil_lt D5'.2.2.1 hm1) isB_nil HB1.out (by rw [List.length_nil]; omega)
  rw [List.nil_append] at cJ1
  have ra1_0 := ap0.row_fed r0 hO1
  have pa1_0 := ap0.fed (m := m1) hs1
  have Ea1_0 := Dy5.keep_fed hO1 aq0 Da1.2.2.2.1
  have qa1_0 := aq0.fed (m := m1) hs1
  clear hf hn1 hF1 cF1 hs1 hO1 D5' r0 ap0 Dy5 aq0 
  go_wp2_with fail
  (with_reducible refine cJ1.mono ?_)
  intro e wb1 hj
  obtain ⟨Ab1, cb1, rfl, hcb1, D1, hg1, ha1⟩ := Da1.joined hj
  have r1_0 := pa1_0.row_joined ra1_0 hg1
  have p1_0 := pa1_0.joined hg1 ha1
  have E1_0 := Ea1_0.keep_joined hg1 qa1_0 D1.2.2.2.1
  have q1_0 := qa1_0.joined hg1 ha1
  clear hj cJ1 Da1 hg1 ha1 ra1_0 pa1_0 Ea1_0 qa1_0
  have cF2 := D1.feedsU hq A2 (c - n.toNat) (Kd.C_of_reads (h1 := fun _ => rfl) (HT2.out _ (Kd.reads_of_C (Kd.C_below HP.out D1.2.2.2.1)))) hdc (by omega) HB1.out HB2.out HE.out
  rw [E0.out] at cF2
  go_wp2_with fail
  (with_reducible refine cF2.mono ?_)
  intro e wa2 hf
  obtain ⟨m2, Aa2, ca2, rfl, hca2, hm2, hn2, hF2, Da2, hO2, hs2⟩ := D1.fed hf
  have cJ2 := Da2.joinsU (c := ca2) hF2 (out_nil_lt D1.2.2.1 hm2) HB1.out HB2.out (by omega)
  rw [E0.out] at cJ2
  have ra2_0 := p1_0.row_fed r1_0 hO2
  have pa2_0 := p1_0.fed (m := m2) hs2
  have Ea2_0 := E1_0.keep_fed hO2 q1_0 Da2.2.2.2.1
  have qa2_0 := q1_0.fed (m := m2) hs2
  clear hf hn2 hF2 cF2 hs2 hO2 D1 r1_0 p1_0 E1_0 q1_0 
  go_wp2_with fail
  (with_reducible refine cJ2.mono ?_)
  intro e wb2 hj
  obtain ⟨Ab2, cb2, rfl, hcb2, D2, hg2, ha2⟩ := Da2.joined hj
  have r2_0 := pa2_0.row_joined ra2_0 hg2
  have p2_0 := pa2_0.joined hg2 ha2
  have E2_0 := Ea2_0.keep_joined hg2 qa2_0 D2.2.2.2.1
  have q2_0 := qa2_0.joined hg2 ha2
  clear hj cJ2 Da2 hg2 ha2 ra2_0 pa2_0 Ea2_0 qa2_0
  have cF3 := D2.finsU hq (by omega) HB.out HE.out
  go_wp2_with fail
  (with_reducible refine cF3.mono ?_)
  intro e wa3 hf
  obtain ⟨m3, Aa3, ca3, rfl, hca3, hm3, hn3, hF3, Da3, hO3, hs3⟩ := D2.fed hf
  have cJ3 := Da3.joinsF (c := ca3) hF3 (out_nil_lt D2.2.2.1 hm3) HB.out (by omega)
  rw [HTT.out] at cJ3
  have ra3_0 := p2_0.row_fed r2_0 hO3
  have pa3_0 := p2_0.fed (m := m3) hs3
  have Ea3_0 := E2_0.keep_fed hO3 q2_0 Da3.2.2.2.1
  have qa3_0 := q2_0.fed (m := m3) hs3
  clear hf hn3 hF3 cF3 hs3 hO3 D2 r2_0 p2_0 E2_0 q2_0 
  go_wp2_with fail
  (with_reducible refine cJ3.mono ?_)
  intro e wb3 hj
  obtain ⟨Ab3, cb3, rfl, hcb3, D3, hg3, ha3⟩ := Da3.joined hj
  have r3_0 := pa3_0.row_joined ra3_0 hg3
  have p3_0 := pa3_0.joined hg3 ha3
  have E3_0 := Ea3_0.keep_joined hg3 qa3_0 D3.2.2.2.1
  have q3_0 := qa3_0.joined hg3 ha3
  clear hj cJ3 Da3 hg3 ha3 ra3_0 pa3_0 Ea3_0 qa3_0
  have rT := D3.2.2.1
  have apT : Apart wb3 (fun x => w3.heap.size ≤ x ∧ x < w4.heap.size) (.slice none 0 0) (.slice Ab3 T.length cb3) := fun q hq => ⟨Kd.R_lt rT q hq, fun hx => (q3_0 q hx).2.2 hq.symm, by simp [Value.ownBlock]⟩
  have apW : Apart wb3 (fun x => w3.heap.size ≤ x ∧ x < w4.heap.size) (.slice none 0 0) (.slice AW T.length cW) := fun q hq => ⟨Kd.R_lt r3_0 q hq, fun hx => HWY.out q hq hx, by simp [Value.ownBlock]⟩
  have Ey : JS w wb3 w3.heap.size b2 k (p.take 0) (fun x => w3.heap.size ≤ x ∧ x < w4.heap.size) (.slice none 0 0) (VS k (p.take 0)) := by rw [List.take_zero, VS_nil]; exact E3_0
  have hbb := Ey.2.2.2.1
  clear D3 E3_0 q3_0 p3_0
  go_wp2_with fail
  go_loopw [16, 17] (fun v16 v17 wr => ∃ (i : Nat) (P : Nat → Prop), v17 = .int .i64 (i : Int) ∧ i ≤ p.length ∧ JS w wr w3.heap.size b2 k (p.take i) P v16 (VS k (p.take i)) ∧ Apart wr P v16 (.slice Ab3 T.length cb3) ∧ Kd.R (Kd.int .u8) 5 wr w.heap.size (fun _ => True) (.slice Ab3 T.length cb3) T ∧ Apart wr P v16 (.slice AW T.length cW) ∧ Kd.R (Kd.int .u8) 5 wr w.heap.size (fun _ => True) (.slice AW T.length cW) T) (fun _ v17 _ => match v17 with | .int _ i => p.length - i.toNat | _ => 0)
  case atStart => exact ⟨0, _, rfl, Nat.zero_le _, Ey, apT, rT, apW, r3_0⟩
  case round =>
    obtain ⟨i, P, rfl, hi, D6, a0, t0, a1, t1⟩ := hrel
    by_cases hlt : i < p.length
    · have hlt' : (i : Int) < (p.length : Int) := by omega
      obtain ⟨A12, hmid, hT3, hmc⟩ := print_mid_of (P := Tryd.prog) (Value.int .u8) 0 22 5 .i64 .i64 Tryd.underlying22 hi0 hsz0 A c p (i : Int) ((i : Int) + 1) (by omega) (by omega) (by omega) hc
      have hqe : (p.take (i + 1)).drop i = [p.getD i 0] := by
        rw [y_snoc p i hlt, List.drop_append_of_le_length (by rw [List.length_take]; omega), List.drop_of_length_le (by rw [List.length_take]; omega)]; rfl
      rw [show ((i : Int) + 1).toNat = i + 1 from by omega, Int.toNat_natCast, hqe] at hmid hT3 hmc
      have hsn := y_snoc p i hlt
      have hBx : IsB [p.getD i 0] := by
        intro z hz
        rw [List.mem_singleton] at hz
        subst hz
        rw [List.getD_eq_getElem?_getD, List.getElem?_eq_getElem hlt]
        exact HB.out _ (List.getElem_mem hlt)
      have hBs := isB_take HB.out i
      have hls : (p.take i).length ≤ 2097152 := by rw [List.length_take]; omega
      generalize p.getD i 0 = x at hmid hT3 hmc hsn hBx
      have HSN := Lib.hid hsn
      have hmid1 : ∀ W : World, (Instr.slice 22 (.slice A p.length c) (some (.int .i64 (i : Int))) (some (.int .i64 ((i : Int) + 1))) none).run Tryd.prog W = .ok (.slice A12 1 (c - i)) W := hmid
      have hw1 : IntKind.i64.wrap ((i : Int) + 1) = (i : Int) + 1 := IntWalk.i64_in _ (by omega)
      clear hqe hsn hmid
      generalize p.take i = s at *
      have hCx := Kd.C_of_reads (h1 := fun _ => rfl) (hT3 _ (Kd.reads_of_C (Kd.C_below HP.out D6.2.2.2.1)))
      clear hT3
      have cF7 := D6.feedsU hq A12 (c - i) hCx hmc (by rw [List.length_singleton]; omega) hBs hBx HE.out
      have cF7' : Calls Tryd.prog 53 #[.pointer (some ⟨b2, 0, none⟩), .slice A12 1 (c - i)] wr (FeedE wr (JP wr P) w3.heap.size b2 k (s ++ [x]) (feedU k s [x])) := cF7
      go_wp2_with fail
      (with_reducible refine cF7'.mono ?_)
      intro e wa7 hf
      obtain ⟨m7, Aa7, ca7, rfl, hca7, hm7, hn7, hF7, Da7, hO7, hs7⟩ := D6.fed hf
      have cJ7 := Da7.joinsU (c := ca7) hF7 (out_nil_lt D6.2.2.1 hm7) hBs hBx (by rw [List.length_singleton]; omega)
      have ra7_0 := a0.row_fed t0 hO7
      have pa7_0 := a0.fed (m := m7) hs7
      have ra7_1 := a1.row_fed t1 hO7
      have pa7_1 := a1.fed (m := m7) hs7
      clear hf hn7 hF7 cF7 cF7' hs7 hO7 D6 t0 a0 t1 a1 
      go_wp2_with fail
      (with_reducible refine cJ7.mono ?_)
      intro e wb7 hj
      obtain ⟨Ab7, cb7, rfl, hcb7, D7, hg7, ha7⟩ := Da7.joined hj
      have r7_0 := pa7_0.row_joined ra7_0 hg7
      have p7_0 := pa7_0.joined hg7 ha7
      have r7_1 := pa7_1.row_joined ra7_1 hg7
      have p7_1 := pa7_1.joined hg7 ha7
      clear hj cJ7 Da7 hg7 ha7 ra7_0 pa7_0 ra7_1 pa7_1
      go_wp2_with fail
      go_roundw
      case rel => exact ⟨i + 1, _, by first | rfl | simp, by omega, by rw [HSN.out]; exact D7, p7_0, r7_0, p7_1, r7_1⟩
      case measure => simp; omega
    · have hip : i = p.length := by omega
      subst hip
      rw [List.take_length] at *
      have hlt' : ¬ ((p.length : Int) < (p.length : Int)) := by omega
      have cF8 := D6.finsU hq (by omega) HB.out HE.out
      go_wp2_with fail
      (with_reducible refine cF8.mono ?_)
      intro e wa8 hf
      obtain ⟨m8, Aa8, ca8, rfl, hca8, hm8, hn8, hF8, Da8, hO8, hs8⟩ := D6.fed hf
      have cJ8 := Da8.joinsF (c := ca8) hF8 (out_nil_lt D6.2.2.1 hm8) HB.out (by omega)
      rw [HTT.out] at cJ8
      have ra8_0 := a0.row_fed t0 hO8
      have pa8_0 := a0.fed (m := m8) hs8
      have ra8_1 := a1.row_fed t1 hO8
      have pa8_1 := a1.fed (m := m8) hs8
      clear hf hn8 hF8 cF8 hs8 hO8 D6 t0 a0 t1 a1 
      go_wp2_with fail
      (with_reducible refine cJ8.mono ?_)
      intro e wb8 hj
      obtain ⟨Ab8, cb8, rfl, hcb8, D8, hg8, ha8⟩ := Da8.joined hj
      have r8_0 := pa8_0.row_joined ra8_0 hg8
      have p8_0 := pa8_0.joined hg8 ha8
      have r8_1 := pa8_1.row_joined ra8_1 hg8
      have p8_1 := pa8_1.joined hg8 ha8
      clear hj cJ8 Da8 hg8 ha8 ra8_0 pa8_0 ra8_1 pa8_1
      have s1 := Z.z_string (c := cb3) (Kd.R_reads' r8_0).2.2
      have s2 := Z.z_string (c := cW) (Kd.R_reads' r8_1).2.2
      have s3 := Z.z_string (c := cb8) (Kd.R_reads' D8.2.2.1).2.2
      have hb10 := D8.2.2.2.1
      clear r8_0 r8_1 p8_0 p8_1 D8
      go_wp2_with fail
      go_ret
      exact ⟨by first | rfl | (simp; done), hb10⟩
end Go.Proofs.YtdpnnglfaofjeaaDoor.Y
namespace Go.Proofs.YtdpnnglfaofjeaaDoor.Z
open Go.RowKit Go.Lib Go.Proofs.YtdpnnglfaofjeaaDoorW.PrintWords Go.Proofs.YtdpnnglfaofjeaaDoorW.PrintLast Go.Proofs.YtdpnnglfaofjeaaDoorW.PrintMore Go.Proofs.YtdpnnglfaofjeaaDoor.PSc
open Go.Proofs.YtdpnnglfaofjeaaDoor.V (RB RB.of_OB RB.lit only_setCell only_alloc size_set conv_const info5 R_empty)
set_option linter.unusedVariables false
set_option linter.unusedSimpArgs false
set_option maxRecDepth 1000000
def Fill (W0 W : World) (A : Option Addr) (n c : Nat) : Prop :=
  W0.grownBy W (Value.slice A n c).ownBlock ∧ (0 < n → ∃ g cur, A = some ⟨g, 0, none⟩ ∧ W.heap[g]? = some (.cells cur 5 (0, 0)) ∧ n ≤ cur.size)
theorem Fill.of_R {W : World} {base : Nat} {F : Nat → Prop} {A : Option Addr} {n c : Nat} {xs : List Int} (h : Kd.R (Kd.int .u8) 5 W base F (.slice A n c) xs) : Fill W W A n c := by
  refine ⟨World.grownBy.refl _ _, fun hn => ?_⟩
  have hn' := (Kd.R_reads' h).1
  subst hn'
  have ho := Kd.own_of_R h
  rcases ho.2 with ⟨h1, h2⟩ | ⟨g, cap, cur, h1, hbg, hg, hnc, hcm, hcs, htake⟩
  · injection h1 with _ h3 _; omega
  · injection h1 with h3 h4 h5
    exact ⟨g, cur, h3, hg, by omega⟩
theorem Fill.cell {W0 W : World} {A : Option Addr} {n c i : Nat} (h : Fill W0 W A n c) (hi : i < n) : ∃ ad, A = some ad ∧ (∃ u, W.cell? (ad.add i) = some u) ∧ W.frozen? (ad.add i) = false ∧ ∀ v, Fill W0 (W.setCell (ad.add i) v) A n c := by
  obtain ⟨hg, hc⟩ := h
  obtain ⟨g, cur, rfl, hb, hn⟩ := hc (by omega)
  refine ⟨_, rfl, ?_⟩
  rw [add_plain]
  refine ⟨⟨cur[i]'(by omega), ?_⟩, blk_frozen hb i, fun v => ⟨only_setCell (g := g) (p := ⟨g, i, none⟩) hg (.inl rfl) v, fun _ => ⟨g, cur.setIfInBounds i v, rfl, blk_set hb i v, by simpa using hn⟩⟩⟩
  have := blk_cell hb i
  simpa [show i < cur.size by omega] using this
end Go.Proofs.YtdpnnglfaofjeaaDoor.Z
namespace Go.Proofs.YtdpnnglfaofjeaaDoor.Y
open Go.RowKit Go.Proofs.YtdpnnglfaofjeaaDoorW.PrintWords Go.Proofs.YtdpnnglfaofjeaaDoorW.PrintLast Go.Proofs.YtdpnnglfaofjeaaDoorW.PrintMore
open Go.Proofs.YtdpnnglfaofjeaaDoor.V (RB RB.of_OB RB.lit info5 runeOf run rest3 clean chars DecIs IsB fffd only_setCell)
open Go.Proofs.YtdpnnglfaofjeaaDoor.Z (Only Fill)
set_option linter.unusedVariables false
set_option linter.unusedSimpArgs false
set_option maxRecDepth 1000000
theorem JS.toVS {w0 W : World} {B b : Nat} {k : Int} {S : List Int} {P : Nat → Prop} {v : Value} (h : JS w0 W B b k S P v []) : JS w0 W B b k S P v (VS k []) := by rw [VS_nil]; exact h
theorem Apart.later {W W1 : World} {P : Nat → Prop} {v u : Value} (h : Apart W P v u) (hs : W.heap.size ≤ W1.heap.size) : Apart W1 P v u := fun q hq => ⟨Nat.lt_of_lt_of_le (h q hq).1 hs, (h q hq).2⟩
set_option maxHeartbeats 16000000 in
theorem keeps8_calls (kk : Int) (hkk : 0 ≤ kk ∧ kk ≤ 255) (p : List Int) (A : Option Addr) (c : Nat) (w : World) (hp : Kd.C (Kd.int .u8) w A p.length p) (hc : p.length ≤ c) (hN : p.length ≤ 2097152) (hB : IsB p) (hE : EnvOK w) :
    Calls Tryd.prog 23 #[.int .u8 kk, .slice A p.length c] w fun e w' => e = .returned (.bool true) ∧ Below w.heap.size w w' := by
  have HE := Lib.hid hE
  have HP := Lib.hid hp
  have HB := Lib.hid hB
  clear hE hp hB
  go_enter Tryd.func23, Tryd.ntmps23
  go_wp2_with fail
  refine (awake8_calls w HE.out).mono ?_
  rintro e w1 ⟨rfl, hb1⟩
  obtain ⟨k, hq1, hq2, cK⟩ := kinds_calls kk hkk w1
  have hq : 1 ≤ k ∧ k ≤ 10 := ⟨hq1, hq2⟩
  go_wp2_with fail
  refine cK.mono ?_
  rintro e w2 ⟨rfl, hw2⟩
  obtain rfl : w1 = w2 := hw2.symm
  go_wp2_with fail
  refine (new_calls k hq w1).mono ?_
  rintro e w3 ⟨b, rfl, hE3, hb3⟩
  have D3 := JS.new hb1 hE3 hb3
  have hb3' := below_then hb1 hb1.size hb3
  have hs3 := hb3.size
  have cA := all_calls k hq p A c w3 (Kd.C_below HP.out hb3') hc (by omega) HB.out (HE.out.below hb3')
  obtain ⟨T, hT⟩ : ∃ T, (wholeE k p).flatten = T := ⟨_, rfl⟩
  rw [hT] at cA
  have HTT := Lib.hid hT
  clear hT hE3
  go_wp2_with fail
  refine cA.mono ?_
  rintro e w5 ⟨vW, rfl, hoW, hb5⟩
  have hb5' := below_then hb3' hb3'.size hb5
  have hs5 := hb5.size
  have hownW : ∀ q, vW.ownBlock = some q → w3.heap.size ≤ q := fun q hq => Kd.R_base hoW q hq
  have hltW := Kd.R_lt hoW
  have D5 := D3.below hb5
  have hC5 := Kd.C_below HP.out hb5'
  clear cA D3
  go_wp2_with (at_builtin; refine V.appB (w0 := w5) rfl _ _ rfl (.slice none 0 0) [] p _ _ _ rfl rfl (Kd.R_nil _ _ _ _ _) hC5 (Below.refl _ _) (by simp; omega) ?_; intro vM w6 hoM hb6 _ _)
  rw [List.nil_append] at hoM
  have hs6 := hb6.size
  have hb6' := below_then hb5' hb5'.size hb6
  have hownM : ∀ q, vM.ownBlock = some q → w5.heap.size ≤ q := fun q hq => Kd.R_base hoM q hq
  have hltM := Kd.R_lt hoM
  have r0 := Kd.R_lower (Kd.R_below hoW hb6) hb3'.size
  have t0 := Kd.R_lower hoM hb5'.size
  have ap0 : Apart w6 (fun x => w1.heap.size ≤ x ∧ x < w3.heap.size) (.slice none 0 0) vW := fun q hq => ⟨by have := hltW q hq; omega, fun hx => by have := hownW q hq; have := hx.2; omega, by simp [Value.ownBlock]⟩
  have at0 : Apart w6 (fun x => w1.heap.size ≤ x ∧ x < w3.heap.size) (.slice none 0 0) vM := fun q hq => ⟨hltM q hq, fun hx => by have := hownM q hq; have := hx.2; omega, by simp [Value.ownBlock]⟩
  have D6 : JS w w6 w1.heap.size b k [] (fun x => w1.heap.size ≤ x ∧ x < w3.heap.size) (.slice none 0 0) (VS k []) := by rw [VS_nil]; exact D5.below hb6
  obtain ⟨AW, cW, rfl, hcW, _⟩ := Kd.R_reads hoW
  obtain ⟨AM, cM, rfl, hcM, hCM⟩ := Kd.R_reads hoM
  have hWM : ∀ q, (Value.slice AM p.length cM).ownBlock = some q → some q ≠ (Value.slice AW T.length cW).ownBlock := fun q hq he => by have := hownM q hq; have := hltW q he.symm; omega
  have HWM := Lib.hid hWM
  have HLM := Lib.hid hltM
  have cF := D6.feedsU hq AM cM hCM hcM (by rw [List.length_nil]; omega) isB_nil HB.out HE.out
  rw [List.nil_append] at cF
  clear hoW hoM hownM hltM hltW hownW hWM D5 hC5 hCM
  go_wp2_with fail
  (with_reducible refine cF.mono ?_)
  intro e w7 hf
  obtain ⟨m, Aa, ca, rfl, hca, hm, hn, hF, D7, hO, hs⟩ := D6.fed hf
  have r7 := ap0.row_fed r0 hO
  have a7 := ap0.fed (m := m) hs
  have t7 := at0.row_fed t0 hO
  have b7 := at0.fed (m := m) hs
  have hb7 := D7.2.2.2.1
  have s1 := Z.z_string (c := cM) (Kd.R_reads' t7).2.2
  have s2 := Z.z_string (c := c) (Kd.C_below HP.out hb7)
  have HF7 := Fill.of_R t7
  have hLb := D6.2.2.1
  clear hf hn cF r0 t0 ap0 at0 D6 hO
  go_wp2_with fail
  clear s1 s2
  go_loopw [12] (fun v12 wr => ∃ i : Nat, v12 = .int .i64 (i : Int) ∧ i ≤ p.length ∧ Fill w7 wr AM p.length cM) (fun v12 _ => match v12 with | .int _ i => p.length - i.toNat | _ => 0)
  case atStart => exact ⟨0, rfl, Nat.zero_le _, HF7⟩
  case round =>
    obtain ⟨i, rfl, hi, HFr⟩ := hrel
    by_cases hlt : i < p.length
    · have hlt' : (i : Int) < (p.length : Int) := by omega
      obtain ⟨ad, rfl, ⟨u, hu⟩, hfr, hset⟩ := HFr.cell hlt
      go_wp2_with fail
      go_roundw
      case rel => exact ⟨i + 1, by first | rfl | simp, by omega, hset _⟩
      case measure => simp; omega
    · have hlt' : ¬ ((i : Int) < (p.length : Int)) := by omega
      have hg8 := HFr.1
      have hb8 := pw_below_grown hb7 _ hb7.size hg8 (fun q hq => Kd.R_base t7 q hq)
      have D8 := D7.fresh.keep (F := fun x => some x = (Value.slice AM p.length cM).ownBlock) (Only.of_grown hg8 (fun x hx => hx.symm)) (fun x hx he => (b7 x he.symm).2.1 hx) hb8
      have hF8 := Kd.F_grown hF hg8 (fun x hx e => by have := HLM.out x e.symm; omega)
      have r8 := Kd.R_grown2 r7 rfl hg8 HWM.out
      have a8 := a7.later hg8.size
      have D8' := D8.toVS
      have cJ := D8'.joinsU (c := ca) (p := p) hF8 (by intro q hq; simp [Value.ownBlock] at hq) isB_nil HB.out (by rw [List.length_nil]; omega)
      rw [List.nil_append] at cJ
      clear HFr HF7 t7 b7 r7 a7 D7 D8 hF hF8 hg8
      go_wp2_with fail
      (with_reducible refine cJ.mono ?_)
      intro e w9 hj
      obtain ⟨Ab, cb, rfl, hcb, D9, hg9, ha9⟩ := D8'.joined hj
      have r9 := a8.row_joined r8 hg9
      have a9 := a8.joined hg9 ha9
      clear hj cJ D8' r8 a8 hg9 ha9
      have cF3 := D9.finsU hq (by omega) HB.out HE.out
      go_wp2_with fail
      (with_reducible refine cF3.mono ?_)
      intro e wa3 hf
      obtain ⟨m3, Aa3, ca3, rfl, hca3, hm3, hn3, hF3, Da3, hO3, hs3⟩ := D9.fed hf
      have cJ3 := Da3.joinsF (c := ca3) hF3 (out_nil_lt D9.2.2.1 hm3) HB.out (by omega)
      rw [HTT.out] at cJ3
      have ra3_0 := a9.row_fed r9 hO3
      have pa3_0 := a9.fed (m := m3) hs3
      clear hf hn3 hF3 cF3 hs3 hO3 D9 r9 a9 
      go_wp2_with fail
      (with_reducible refine cJ3.mono ?_)
      intro e wb3 hj
      obtain ⟨Ab3, cb3, rfl, hcb3, D3, hg3, ha3⟩ := Da3.joined hj
      have r3_0 := pa3_0.row_joined ra3_0 hg3
      have p3_0 := pa3_0.joined hg3 ha3
      clear hj cJ3 Da3 hg3 ha3 ra3_0 pa3_0
      have hbz := D3.2.2.2.1
      have hz := heap_alloc_new wb3 (.cells #[.int .u8 0, .pointer none, .pointer none] 68)
      have hbz2 := (Below.refl wb3.heap.size wb3).alloc (Nat.le_refl _) (.cells #[.int .u8 0, .pointer none, .pointer none] 68)
      have hz1 : (wb3.alloc (.cells #[.int .u8 0, .pointer none, .pointer none] 68)).cell? ⟨wb3.heap.size, 1, none⟩ = some (.pointer none) := blk_cell hz 1
      have s1 := Z.z_string (c := cb3) (Kd.C_below (Kd.R_reads' D3.2.2.1).2.2 hbz2)
      have s2 := Z.z_string (c := cW) (Kd.C_below (Kd.R_reads' r3_0).2.2 hbz2)
      have hb10 := below_then hbz hbz.size hbz2
      have f1 := fun (W : World) => feed_nil A p.length c W
      have f2 := fun (W : World) => finish_nil W
      have f3 := fun (W : World) => held_nil W
      have f4 := feed_zero wb3.heap.size A p.length c _ hz1
      have f5 := finish_zero wb3.heap.size _ hz1
      have f6 := held_zero wb3.heap.size _ hz1
      clear r3_0 p3_0 D3
      go_wp2_with (first
        | (go_at_call 53; with_reducible refine (f1 _).mono ?_; rintro e wq ⟨rfl, rfl⟩)
        | (go_at_call 54; with_reducible refine (f2 _).mono ?_; rintro e wq ⟨rfl, rfl⟩)
        | (go_at_call 57; with_reducible refine (f3 _).mono ?_; rintro e wq ⟨rfl, rfl⟩)
        | (go_at_call 53; with_reducible refine f4.mono ?_; rintro e wq ⟨rfl, rfl⟩)
        | (go_at_call 54; with_reducible refine f5.mono ?_; rintro e wq ⟨rfl, rfl⟩)
        | (go_at_call 57; with_reducible refine f6.mono ?_; rintro e wq ⟨rfl, rfl⟩))
      go_ret
      exact ⟨by first | rfl | (simp; done), hb10⟩
end Go.Proofs.YtdpnnglfaofjeaaDoor.Y
namespace Go.Proofs.YtdpnnglfaofjeaaDoor.Y
open Go.RowKit Go.Proofs.YtdpnnglfaofjeaaDoorW.PrintWords
set_option linter.unusedVariables false
set_option linter.unusedSimpArgs false
set_option maxRecDepth 1000000
theorem n4 : Tryd.prog.globalNamed "unicode/utf8.first" = some 4 := by kernel_rfl
theorem y4 : (Tryd.prog.globals[4]?).map (·.type) = some 136 := by kernel_rfl
theorem n5 : Tryd.prog.globalNamed "unicode/utf8.acceptRanges" = some 5 := by kernel_rfl
theorem y5 : (Tryd.prog.globals[5]?).map (·.type) = some 139 := by kernel_rfl
theorem c5 : Tryd.prog.cellsOf 5 = 1 := by kernel_rfl
theorem c136 : Tryd.prog.cellsOf 136 = 256 := by kernel_rfl
theorem c138 : Tryd.prog.cellsOf 138 = 2 := by kernel_rfl
theorem first_data : (Rows.laid_unicode_utf8_first : DataW Unit) = Lib.firstData := by kernel_rfl
theorem accept_data : (Rows.laid_unicode_utf8_acceptRanges : DataW Unit) = Lib.acceptData := by kernel_rfl
theorem first_same : ∀ p : Nat, p < 256 → (Lib.firstTab)[p]? = some (Z.firstT p) := by decide +kernel
theorem acc_same : ∀ i : Nat, i < 5 → ((Lib.accLo i : Nat) : Int) = Z.loT i ∧ ((Lib.accHi i : Nat) : Int) = Z.hiT i := by decide +kernel
theorem schOK {W : World} (hL : laidMetH Tryd.prog [("math/bits.deBruijn32tab", Rows.laid_math_bits_deBruijn32tab), ("math/bits.deBruijn64tab", Rows.laid_math_bits_deBruijn64tab), ("internal/strconv.uint64pow10", Rows.laid_internal_strconv_uint64pow10), ("unicode/utf8.acceptRanges", Rows.laid_unicode_utf8_acceptRanges), ("unicode/utf8.first", Rows.laid_unicode_utf8_first)] W) (hsh : W.ShapedOpen Tryd.prog) : Z.SchOK W := by
  have h1 : laidMet Tryd.prog [("math/bits.deBruijn32tab", Rows.laid_math_bits_deBruijn32tab), ("math/bits.deBruijn64tab", Rows.laid_math_bits_deBruijn64tab), ("internal/strconv.uint64pow10", Rows.laid_internal_strconv_uint64pow10), ("unicode/utf8.acceptRanges", Rows.laid_unicode_utf8_acceptRanges), ("unicode/utf8.first", Rows.laid_unicode_utf8_first)] W := (laidMetH_iff.1 hL).1
  have h3 := Lib.laidMet.reads h1 (n := "unicode/utf8.first") (d := Rows.laid_unicode_utf8_first) (by simp)
  have h4 := Lib.laidMet.reads h1 (n := "unicode/utf8.acceptRanges") (d := Rows.laid_unicode_utf8_acceptRanges) (by simp)
  rw [first_data] at h3
  rw [accept_data] at h4
  refine ⟨⟨fun p hp => ?_, fun i hi => ?_⟩, Go.Proofs.cell_of_shapedOpen_int (zero := #[.int .i64 0]) (t := 3) hsh (of_decide_eq_true (by kernel_rfl)) (by kernel_rfl) rfl (by kernel_rfl) (by kernel_rfl) Tryd.underlying3⟩
  · obtain ⟨g, t, cs, fuel, p', hg, hty, hvar, hd⟩ := h3
    obtain rfl := Option.some.inj (n4.symm.trans hg)
    obtain rfl := Option.some.inj (y4.symm.trans hty)
    have hcs := Lib.cells_of_tab Tryd.underlying136 Tryd.underlying5 c5 c136 hd
    have := World.var?_cell hg hvar p
    rw [this, ← Array.getElem?_toList, hcs]
    rw [List.getElem?_map, first_same p hp]
    rfl
  · obtain ⟨g, t, cs, fuel, p', hg, hty, hvar, hd⟩ := h4
    obtain rfl := Option.some.inj (n5.symm.trans hg)
    obtain rfl := Option.some.inj (y5.symm.trans hty)
    obtain ⟨fuel', d, q, hdi, he⟩ := Lib.array_elem Tryd.underlying139 hd i (by omega)
    simp only [List.getElem?_map, List.getElem?_range (show i < 16 by omega), Option.map_some, Option.some.injEq] at hdi
    subst hdi
    rw [c138] at he
    have hcs := Lib.ints_of_struct Tryd.underlying138 (fun j f hj => by
      match j, hj with
      | 0, hj => simp at hj; subst hj; exact ⟨Tryd.underlying5, rfl, c5⟩
      | 1, hj => simp at hj; subst hj; exact ⟨Tryd.underlying5, rfl, c5⟩
      | j + 2, hj => simp at hj) (by rw [c138]; rfl) he
    have e0 := congrArg (·[0]?) hcs
    have e1 := congrArg (·[1]?) hcs
    simp only [List.getElem?_take, List.getElem?_drop] at e0 e1
    obtain ⟨a0, a1⟩ := acc_same i hi
    rw [← a0, ← a1]
    constructor
    · rw [World.var?_cell hg hvar (i * 2), ← Array.getElem?_toList]
      simpa [Nat.mul_comm] using e0
    · rw [World.var?_cell hg hvar (i * 2 + 1), ← Array.getElem?_toList]
      simpa [Nat.mul_comm] using e1
theorem gTab : Tryd.prog.globalNamed "math/bits.deBruijn64tab" = some 3 := by kernel_rfl
theorem gTabType : (Tryd.prog.globals[3]?).map (·.type) = some 135 := by kernel_rfl
theorem under135 : Tryd.prog.underlying 135 = some (.array 64 5) := by kernel_rfl
theorem cells135 : Tryd.prog.cellsOf 135 = 64 := by kernel_rfl
theorem cells5 : Tryd.prog.cellsOf 5 = 1 := by kernel_rfl
def tab64 : List Int := [0, 1, 56, 2, 57, 49, 28, 3, 61, 58, 42, 50, 38, 29, 17, 4, 62, 47, 59, 36, 45, 43, 51, 22, 53, 39, 33, 30, 24, 18, 12, 5, 63, 55, 48, 27, 60, 41, 37, 16, 46, 35, 44, 21, 52, 32, 23, 11, 54, 26, 40, 15, 34, 20, 31, 10, 25, 14, 19, 9, 13, 8, 7, 6]
theorem tab_eq : (Rows.laid_math_bits_deBruijn64tab : DataW Unit) = Lib.tabData .u8 tab64 := rfl
theorem tabOK {W : World} (h : laidMetH Tryd.prog [("math/bits.deBruijn32tab", Rows.laid_math_bits_deBruijn32tab), ("math/bits.deBruijn64tab", Rows.laid_math_bits_deBruijn64tab), ("internal/strconv.uint64pow10", Rows.laid_internal_strconv_uint64pow10), ("unicode/utf8.acceptRanges", Rows.laid_unicode_utf8_acceptRanges), ("unicode/utf8.first", Rows.laid_unicode_utf8_first)] W) : U.TabOK W := by
  have h1 := (laidMetH_iff.1 h).1
  have h2 := h1.filter (fun x => x.1 == "math/bits.deBruijn64tab")
  have h3 : laidMet Tryd.prog [("math/bits.deBruijn64tab", Lib.tabData .u8 tab64)] W := h2
  exact (Lib.tabIs_of_head gTab gTabType under135 Tryd.underlying5 cells5 cells135 h3).cell gTab 15 (by decide)
theorem envOK {W : World} (hL : laidMetH Tryd.prog [("math/bits.deBruijn32tab", Rows.laid_math_bits_deBruijn32tab), ("math/bits.deBruijn64tab", Rows.laid_math_bits_deBruijn64tab), ("internal/strconv.uint64pow10", Rows.laid_internal_strconv_uint64pow10), ("unicode/utf8.acceptRanges", Rows.laid_unicode_utf8_acceptRanges), ("unicode/utf8.first", Rows.laid_unicode_utf8_first)] W) (hsh : W.ShapedOpen Tryd.prog) : EnvOK W := ⟨schOK hL hsh, tabOK hL⟩
end Go.Proofs.YtdpnnglfaofjeaaDoor.Y
namespace Go.Proofs.YtdpnnglfaofjeaaDoor.Opening
open Go.RowKit Go.Deep Go.Proofs.YtdpnnglfaofjeaaDoorW.PrintWords Go.ChangeShapes
theorem one_le {H : Type} (d : DataW H) : 1 ≤ Rows.uptoBulk d := by
  cases d with
  | lit l => cases l <;> simp [Rows.uptoBulk]
  | nil => simp [Rows.uptoBulk]
  | ptr d => simp [Rows.uptoBulk]
  | slice elems spare => simp [Rows.uptoBulk]
  | agg parts => simp [Rows.uptoBulk]
  | iface t d => simp [Rows.uptoBulk]
  | map entries => simp [Rows.uptoBulk]
  | held h => simp [Rows.uptoBulk]
def Opens {α : Type} (P : Program) (t : Nat) (d : Kd α) (good : α → Prop) (bulk : α → Nat) : Prop :=
  ∀ {H : Type} {enc : TypeId × Value → H} {w : World} {base : Nat} {spare : Nat → Bool} {held : Bool} {fuel : Nat} {cs : List Value} {x : DataW H × List MemPlace},
    DataW.trod enc P w base spare held fuel t cs = some x → ∃ v : α, d.K w v cs ∧ good v ∧ bulk v ≤ Rows.uptoBulk x.1
theorem opens_int {P : Program} {t : Nat} {k : IntKind} (ht : P.underlying t = some (.int k)) : Opens P t (Kd.int k) (fun n => (Lit.int k n).wf = true) (fun _ => 1) := by
  intro H enc w base spare held fuel cs x h
  obtain ⟨n, rfl, rfl, hw⟩ := DataW.trod_int ht h
  exact ⟨n, rfl, hw, one_le _⟩
theorem opens_bool {P : Program} {t : Nat} (ht : P.underlying t = some .bool) : Opens P t Kd.bool (fun _ => True) (fun _ => 1) := by
  intro H enc w base spare held fuel cs x h
  obtain ⟨b, rfl, rfl⟩ := DataW.trod_bool ht h
  exact ⟨b, rfl, trivial, one_le _⟩
theorem opens_string {P : Program} {t : Nat} (ht : P.underlying t = some .string) : Opens P t Kd.string (fun s => s.size ≤ maxLen) (fun s => s.size + 1) := by
  intro H enc w base spare held fuel cs x h
  obtain ⟨s, rfl, rfl, hs⟩ := DataW.trod_string ht h
  refine ⟨s, rfl, hs, ?_⟩
  have e : s.data.toList.length = s.size := data_length s
  simp only [Rows.uptoBulk, e]
  exact Nat.le_refl _
theorem bulk_map {H α : Type} (bulk : α → Nat) (D : Nat → DataW H) (l : List α) : ∀ (m : Nat), l.length = m → (∀ (i : Nat) (v : α), l[i]? = some v → bulk v ≤ Rows.uptoBulk (D i)) → (l.map bulk).sum ≤ Rows.uptoBulkAll ((List.range m).map D) := by
  induction l generalizing D with
  | nil => intro m hm h; simp
  | cons a l ih =>
    intro m hm h
    obtain ⟨m, rfl⟩ : ∃ k, m = k + 1 := ⟨m - 1, by simp at hm; omega⟩
    rw [List.range_succ_eq_map]
    simp only [List.map_cons, List.sum_cons, Rows.uptoBulkAll, List.map_map]
    have h0 := h 0 a rfl
    have h1 := ih (fun i => D (i + 1)) m (by simpa using hm) (fun i v hv => h (i + 1) v (by simpa using hv))
    have e : (D ∘ Nat.succ) = fun i => D (i + 1) := rfl
    rw [e]
    omega
theorem opens_slice {P : Program} {α : Type} {t e : Nat} {d : Kd α} {good : α → Prop} {bulk : α → Nat} (ht : P.underlying t = some (.slice e)) (hsz : P.cellsOf e = d.sz) (h : Opens P e d good bulk) :
    Opens P t (Kd.slice e d) (fun l => l.length ≤ maxLen ∧ ∀ v ∈ l, good v) (fun l => (l.map bulk).sum + 1) := by
  intro H enc w base spare held fuel cs x hx
  rcases open_slice ht hx with ⟨rfl, rfl⟩ | ⟨a, len, cap, m, n, D, Pl, rfl, hb, hlc, hcm, hm, rfl, hi⟩
  · exact ⟨[], ⟨none, 0, rfl, Nat.le_refl _, Kd.C_nil _ _⟩, ⟨Nat.zero_le _, fun v hv => by simp at hv⟩, by simp [Rows.uptoBulk]⟩
  · have hlm : len ≤ m := by rw [hm]; split <;> omega
    have step : ∀ i, i < len → ∃ (v : α) (c : List Value), c.length = d.sz ∧ d.K w v c ∧ good v ∧ bulk v ≤ Rows.uptoBulk (D i) ∧ ∀ j u, c[j]? = some u → w.cell? (a.add (i * d.sz + j)) = some u := by
      intro i hil
      obtain ⟨c, hc, htr⟩ := hi i (by omega)
      obtain ⟨v, hK, hg, hbk⟩ := h htr
      obtain ⟨_, hcl, hat⟩ := World.cells?_some hc
      refine ⟨v, c, by rw [hcl, hsz], hK, hg, hbk, fun j u hu => ?_⟩
      have hj : j < c.length := (List.getElem?_eq_some_iff.1 hu).1
      have := hat j (by omega)
      rw [← Go.Deep.add_add, ← hsz, this, hu]
    have build : ∀ k, k ≤ len → ∃ l : List α, l.length = k ∧ ∀ (i : Nat) (v : α), l[i]? = some v → ∃ c : List Value, c.length = d.sz ∧ d.K w v c ∧ good v ∧ bulk v ≤ Rows.uptoBulk (D i) ∧ ∀ j u, c[j]? = some u → w.cell? (a.add (i * d.sz + j)) = some u := by
      intro k
      induction k with
      | zero => exact fun _ => ⟨[], rfl, fun i v hv => by simp at hv⟩
      | succ k ih =>
        intro hk
        obtain ⟨l, hl, hall⟩ := ih (by omega)
        obtain ⟨v, c, hcv⟩ := step k (by omega)
        refine ⟨l ++ [v], by simp [hl], fun i u hu => ?_⟩
        rcases Nat.lt_or_ge i l.length with h1 | h1
        · rw [List.getElem?_append_left h1] at hu
          exact hall i u hu
        · rw [List.getElem?_append_right h1] at hu
          have h2 : i - l.length = 0 := by
            rcases Nat.eq_zero_or_pos (i - l.length) with h3 | h3
            · exact h3
            · rw [List.getElem?_eq_none (by simp; omega)] at hu
              cases hu
          rw [h2] at hu
          simp at hu
          subst hu
          obtain rfl : i = k := by omega
          exact ⟨c, hcv⟩
    obtain ⟨l, hl, hall⟩ := build len (Nat.le_refl _)
    subst hl
    refine ⟨l, ⟨some a, cap, rfl, hlc, rfl, by simp only [maxLen] at hcm; omega, fun _ => ⟨a, rfl, fun j p hp => ?_⟩⟩, ⟨by omega, fun v hv => ?_⟩, ?_⟩
    · obtain ⟨c, h1, h2, _, _, h5⟩ := hall j p hp
      exact ⟨c, h1, h2, h5⟩
    · obtain ⟨i, hi', rfl⟩ := List.mem_iff_getElem.1 hv
      obtain ⟨c, _, _, h3, _⟩ := hall i _ (List.getElem?_eq_getElem hi')
      exact h3
    · have := bulk_map bulk D l l.length rfl (fun i v hv => by obtain ⟨c, _, _, _, h4, _⟩ := hall i v hv; exact h4)
      simp only [Rows.uptoBulk]
      omega
theorem sum_ones {α : Type} (l : List α) : (l.map fun _ => 1).sum = l.length := by
  induction l with
  | nil => rfl
  | cons a l ih => simp only [List.map_cons, List.sum_cons, ih, List.length_cons]; omega
theorem u8_range {x : Int} (h : (Lit.int .u8 x).wf = true) : 0 ≤ x ∧ x ≤ 255 := by simpa [Lit.wf, IntKind.min, IntKind.max, IntKind.signed, IntKind.bits] using h
theorem u16_range {x : Int} (h : (Lit.int .u16 x).wf = true) : 0 ≤ x ∧ x ≤ 65535 := by simpa [Lit.wf, IntKind.min, IntKind.max, IntKind.signed, IntKind.bits] using h
end Go.Proofs.YtdpnnglfaofjeaaDoor.Opening

import Derived.Test.YtdpnnglfaofjeaaDoorVU
import Derived.RangeFuncNested
import Derived.RangeFuncBound
import Derived.RangeFuncCalls
import Derived.RangeFuncLeaves
import Derived.Shelf.Abstract
import Derived.OwnWalkIn
import Derived.TacticsInMore
import Derived.LoopNIn
import Derived.LoopIn
import Derived.Lib.OthersKept
namespace Go.Proofs.YtdpnnglfaofjeaaDoor.V
open Go.RowKit Go.Shelf Go.Proofs.YtdpnnglfaofjeaaDoorW.PrintWords Go.Proofs.YtdpnnglfaofjeaaDoorW.PrintLast Go.Proofs.YtdpnnglfaofjeaaDoorW.PrintMore
set_option linter.unusedVariables false
set_option linter.unusedSimpArgs false
set_option maxRecDepth 100000
attribute [local go_sem] Oper.semAt_some

/-! ### the iterator over the characters -/
def placeN (chs : List (List Int)) (k : Nat) : Nat := (chs.take k).flatten.length
abbrev Nth (chs : List (List Int)) := { k : Nat // k < chs.length }
def encN (chs : List (List Int)) (k : Nth chs) : Array Value := #[.int .i64 (placeN chs k.1 : Int), .int .i32 (runeOf (chs.getD k.1 []))]
def InOrder {chs : List (List Int)} (pre : List (Nth chs)) : Prop := pre.map (·.1) = List.range pre.length
theorem InOrder.snoc {chs : List (List Int)} {pre : List (Nth chs)} (h : InOrder pre) (x : Nth chs) (hx : x.1 = pre.length) : InOrder (pre ++ [x]) := by
  unfold InOrder at h ⊢
  rw [List.map_append, h, List.length_append, List.length_singleton, List.range_succ]
  simp [hx]
theorem placeN_succ (chs : List (List Int)) (k : Nat) (h : k < chs.length) : placeN chs (k + 1) = placeN chs k + (chs.getD k []).length := by
  have e : chs.take (k + 1) = chs.take k ++ [chs.getD k []] := by
    have : chs.getD k [] = chs[k] := by simp [List.getD_eq_getElem?_getD, h]
    rw [this, List.take_append_getElem]
  unfold placeN
  rw [e, List.flatten_append, List.length_append]
  simp
theorem decode_nth (chs : List (List Int)) (hf : ∀ ch ∈ chs, Form ch) (k : Nat) (h : k < chs.length) : Utf8.decode (strOfNums chs.flatten) (placeN chs k) = ((runeOf (chs.getD k [])).toNat, (chs.getD k []).length) := by
  have e : chs.flatten = (chs.take k).flatten ++ chs.getD k [] ++ (chs.drop (k + 1)).flatten := by
    have h1 : chs = chs.take k ++ (chs.getD k [] :: chs.drop (k + 1)) := by
      have : chs.getD k [] = chs[k] := by simp [List.getD_eq_getElem?_getD, h]
      rw [this, ← List.drop_eq_getElem_cons h, List.take_append_drop]
    conv => lhs; rw [h1]
    simp [List.flatten_append, List.append_assoc]
  have hm : Form (chs.getD k []) := hf _ (by simp [List.getD_eq_getElem?_getD, h])
  rw [e]
  exact decode_form _ _ _ hm
theorem rune_pos {ch : List Int} (h : Form ch) : 0 ≤ runeOf ch := by
  rcases h with ⟨x, rfl, h1, h2⟩ | ⟨x, y, rfl, h1, h2, h3, h4⟩ | ⟨x, y, z, rfl, h1, h2, h3, h4, h5, h6, h7, h8⟩ | ⟨x, y, z, u, rfl, h1, h2, h3, h4, h5, h6, h7, h8, h9, h10⟩ <;> simp only [runeOf] <;> omega
theorem placeN_le (chs : List (List Int)) (hf : ∀ ch ∈ chs, Form ch) (k : Nat) (h : k < chs.length) : placeN chs k < chs.flatten.length := by
  have e : chs.flatten.length = (chs.take k).flatten.length + (chs.drop k).flatten.length := by rw [← List.length_append, ← List.flatten_append, List.take_append_drop]
  rw [List.drop_eq_getElem_cons h, List.flatten_cons, List.length_append] at e
  have := form_pos (hf _ (List.getElem_mem h))
  unfold placeN
  omega
theorem grown_iterAt (W : World) (k : Nat) (s : ByteArray) (pos : Nat) : W.grownBy (W.iterAt k s pos) (some k) :=
  ⟨rfl, rfl, rfl, by rw [Lib.iterAt_size]; exact Nat.le_refl _, fun i _ hi => Lib.iterAt_other W k i s pos (fun e => hi (by rw [e]))⟩

set_option maxRecDepth 100000 in
set_option maxHeartbeats 4000000 in
theorem each1_in (F : Fence) (n : Nat) (h30 : F.fn 82) (hro : F.round = none) (hn : 1 ≤ n) (l Bx c : Nat) (A : Option Addr) (chs : List (List Int)) (hf : ∀ ch ∈ chs, Form ch) (J Jx : List (Nth chs) → World → Prop)
    (hY : ∀ pre x W, J pre W → pre.length < chs.length → YieldAt F (n - 1) Tryd.prog l (encN chs x) W fun e W' =>
      (e = .returned (.bool true) ∧ J (pre ++ [x]) W' ∧ KeepsWalks W W') ∨ (e = .returned (.bool false) ∧ Jx (pre ++ [x]) W'))
    (W : World) (hJ : AbidesFrom W.heap.size J) (hm : W.cell? ⟨Bx, 0, none⟩ = some (.slice A chs.flatten.length c)) (hC : Kd.C (Kd.int .u8) W A chs.flatten.length chs.flatten) (h0 : J [] W) :
    CallsIn F n Tryd.prog 82 #[.func (.yield l) #[] #[], .pointer (some ⟨Bx, 0, none⟩)] W fun e W' => (∃ v, e = .returned v) ∧
      ((∃ xs : List (Nth chs), (InOrder xs ∧ xs.length = chs.length) ∧ J xs W') ∨ (∃ pre, (InOrder pre ∧ pre.length ≤ chs.length) ∧ Jx pre W')) := by
  have hstr := Kd.C_string (P := Tryd.prog) (c := c) Tryd.underlying22 Tryd.underlying5 Tryd.underlying9 hC
  have hss : (strOfNums chs.flatten).size = chs.flatten.length := str_size _
  have hdec := decode_nth chs hf
  have hlt := placeN_le chs hf
  generalize hL : chs.flatten.length = L at hm hstr hss hlt
  generalize strOfNums chs.flatten = s at hstr hss hdec
  refine callsIn_of_wp Tryd.func82 rfl h30 ?_ hro
  simp only [Tryd.ntmps82, List.size_toArray, List.length_cons, List.length_nil, Nat.reduceAdd, Nat.reduceSub, Array.replicate_succ, Array.replicate_zero, List.push_toArray, List.append_toArray, List.nil_append, List.cons_append]
  gi_wp2
  have hpl := placeN_succ chs
  have hN : placeN chs chs.length = L := by unfold placeN; rw [List.take_length]; exact hL
  have hit0 : (W.iter s 0).heap[W.heap.size]? = some (.stringIter s 0) := World.alloc_heap_new W _
  gi_loopw [3, 4] (fun _ _ wr => ∃ pre : List (Nth chs), wr.heap[W.heap.size]? = some (.stringIter s (placeN chs pre.length)) ∧ InOrder pre ∧ pre.length ≤ chs.length ∧ J pre wr) (fun _ _ wr => L - wr.iterPos W.heap.size)
  case atStart => exact ⟨[], hit0, rfl, Nat.zero_le _, hJ _ _ _ none h0 (World.grownBy_alloc W _ none) (fun r e => by cases e)⟩
  case round =>
    obtain ⟨pre, hit, hio, hlen, hJp⟩ := hrel
    by_cases hp : pre.length < chs.length
    · have hpos := hlt _ hp
      have hnx : ∀ ty, (Instr.next (.pointer (some ⟨W.heap.size, 0, none⟩)) true ty).run Tryd.prog wr = .ok (.tuple #[.bool true, .int .i64 (placeN chs pre.length : Int), .int .i32 (runeOf (chs.getD pre.length []))]) (wr.iterAt W.heap.size s (placeN chs (pre.length + 1))) := fun ty => by
        have h1 := Lib.run_next_any_at (P := Tryd.prog) wr W.heap.size s (placeN chs pre.length) ty hit (by rw [hss]; exact hpos)
        rw [hdec _ hp] at h1
        simp only at h1
        rw [hpl _ hp, h1]
        have hm' : Form (chs.getD pre.length []) := hf _ (by simp [List.getD_eq_getElem?_getD, hp])
        have := rune_pos hm'
        rw [show (((runeOf (chs.getD pre.length [])).toNat : Nat) : Int) = runeOf (chs.getD pre.length []) from by omega]
      have hit2 := Lib.iterAt_heap wr W.heap.size s _ (placeN chs (pre.length + 1)) hit
      have hg2 := grown_iterAt wr W.heap.size s (placeN chs (pre.length + 1))
      have hJ2 := hJ pre wr _ (some W.heap.size) hJp hg2 (fun r e => by cases e; exact ⟨Nat.le_refl _, _, hit, rfl⟩)
      obtain ⟨fn, tmps, assign, body, hy, hR⟩ := hY pre ⟨pre.length, hp⟩ _ hJ2 hp
      dsimp only [encN] at hy
      have hio2 := hio.snoc ⟨pre.length, hp⟩ rfl
      have hip : wr.iterPos W.heap.size = placeN chs pre.length := by unfold World.iterPos; rw [hit]
      have hl2 : (pre ++ [(⟨pre.length, hp⟩ : Nth chs)]).length = pre.length + 1 := by simp
      have hpl1 := hpl _ hp
      have hfp := form_pos (hf (chs.getD pre.length []) (by simp [List.getD_eq_getElem?_getD, hp]))
      have hlt12 : placeN chs pre.length < placeN chs (pre.length + 1) := by omega
      clear hpl1 hJp
      generalize runeOf (chs.getD pre.length []) = R at hnx hy
      generalize hp2 : placeN chs (pre.length + 1) = p2 at hnx hit2 hJ2 hg2 hR hlt12 hy
      generalize placeN chs pre.length = p1 at hnx hit hip hpos hlt12 hy
      have HP2 := Lib.hid hp2
      clear hp2
      gi_wp2
      refine hR.mono ?_
      rintro e W3 (⟨rfl, hJ3, hk3⟩ | ⟨rfl, hJx3⟩)
      · have hit3 := hk3.same _ _ hit2 rfl
        have hip3 : W3.iterPos W.heap.size = p2 := by unfold World.iterPos; rw [hit3]
        gi_wp2
        go_roundw
        case rel => exact ⟨_, by rw [hl2, HP2.out]; exact hit3, hio2, by rw [hl2]; omega, hJ3⟩
        case measure => rw [hip, hip3]; omega
      · gi_wp2
        refine bodyPost_ret (results_none rfl _ _ _) rfl ?_
        exact ⟨⟨_, rfl⟩, .inr ⟨_, ⟨hio2, by rw [hl2]; omega⟩, hJx3⟩⟩
    · have hpe : pre.length = chs.length := by omega
      rw [hpe, hN] at hit
      have hnx : ∀ ty, (Instr.next (.pointer (some ⟨W.heap.size, 0, none⟩)) true ty).run Tryd.prog wr = _ := fun ty => Lib.run_next_end_at (P := Tryd.prog) wr W.heap.size s L ty hit (by omega)
      gi_wp2
      go_end0
      exact ⟨⟨_, rfl⟩, .inl ⟨pre, ⟨hio, hpe⟩, hJp⟩⟩
end Go.Proofs.YtdpnnglfaofjeaaDoor.V
namespace Go.Proofs.YtdpnnglfaofjeaaDoor.V
open Go.RowKit Go.Shelf Go.Proofs.YtdpnnglfaofjeaaDoorW.PrintWords Go.Proofs.YtdpnnglfaofjeaaDoorW.PrintLast Go.Proofs.YtdpnnglfaofjeaaDoorW.PrintMore
set_option linter.unusedVariables false
set_option linter.unusedSimpArgs false
set_option maxRecDepth 100000
attribute [local go_sem] Oper.semAt_some

/-! ### a number written again -/
theorem u8n (x : Int) (n : Nat) (h : n = x.toNat) (hx : 0 ≤ x ∧ x ≤ 255) : ((UInt8.ofNat n).toNat : Int) = x := by
  subst h
  simp
  omega
theorem bytesOf_encode (ch : List Int) (h : Form ch) : bytesOf (Utf8.encode (runeOf ch)) = ch := by
  rcases h with ⟨x, rfl, h1, h2⟩ | ⟨x, y, rfl, h1, h2, h3, h4⟩ | ⟨x, y, z, rfl, h1, h2, h3, h4, h5, h6, h7, h8⟩ | ⟨x, y, z, u, rfl, h1, h2, h3, h4, h5, h6, h7, h8, h9, h10⟩
  · simp only [runeOf]
    have hv : Utf8.valid x = true := by simp [Utf8.valid]; omega
    simp only [Utf8.encode, hv, if_true]
    rw [if_pos (by omega)]
    simp only [bytesOf, List.map_cons, List.map_nil]
    rw [u8n x _ rfl (by omega)]
  · simp only [runeOf]
    generalize hR : x % 32 * 64 + y % 64 = R
    have hv : Utf8.valid R = true := by simp [Utf8.valid]; omega
    simp only [Utf8.encode, hv, if_true]
    rw [if_neg (by omega), if_pos (by omega)]
    simp only [bytesOf, List.map_cons, List.map_nil]
    rw [u8n x _ (by omega) (by omega), u8n y _ (by omega) (by omega)]
  · simp only [runeOf]
    generalize hR : x % 16 * 4096 + y % 64 * 64 + z % 64 = R
    have hv : Utf8.valid R = true := by simp [Utf8.valid]; omega
    simp only [Utf8.encode, hv, if_true]
    rw [if_neg (by omega), if_neg (by omega), if_pos (by omega)]
    simp only [bytesOf, List.map_cons, List.map_nil]
    rw [u8n x _ (by omega) (by omega), u8n y _ (by omega) (by omega), u8n z _ (by omega) (by omega)]
  · simp only [runeOf]
    generalize hR : x % 8 * 262144 + y % 64 * 4096 + z % 64 * 64 + u % 64 = R
    have hv : Utf8.valid R = true := by simp [Utf8.valid]; omega
    simp only [Utf8.encode, hv, if_true]
    rw [if_neg (by omega), if_neg (by omega), if_neg (by omega)]
    simp only [bytesOf, List.map_cons, List.map_nil]
    rw [u8n x _ (by omega) (by omega), u8n y _ (by omega) (by omega), u8n z _ (by omega) (by omega), u8n u _ (by omega) (by omega)]

/-! ### Each -/
def EachIs (w : World) (l : List Int) (e : Ending) (w' : World) : Prop :=
  ∃ Bx A c, e = .returned (.func (.func 82) #[] #[.pointer (some ⟨Bx, 0, none⟩)]) ∧ w'.cell? ⟨Bx, 0, none⟩ = some (.slice A (clean l).length c) ∧ Kd.C (Kd.int .u8) w' A (clean l).length (clean l) ∧ Bx < w'.heap.size ∧ Below w.heap.size w w'
theorem each_calls (l : List Int) (A : Option Addr) (c : Nat) (w : World) (hp : Kd.C (Kd.int .u8) w A l.length l) (hc : l.length ≤ c) (hN : l.length ≤ 1099511627776) :
    Calls Tryd.prog 61 #[.slice A l.length c] w (EachIs w l) := by
  go_enter Tryd.func61, Tryd.ntmps61
  go_wp2_with fail
  refine (clean_calls l A c w hp hc hN).mono ?_
  rintro e w1 ⟨v1, rfl, ho1, hb1⟩
  obtain ⟨A1, c1, rfl, hc1, hC1⟩ := Kd.R_reads ho1
  go_wp2_with fail
  go_ret
  have hb := Boxed.new w1 22 (.slice A1 (clean l).length c1)
  exact ⟨w1.heap.size, A1, c1, rfl, hb.cell, Kd.C_below hC1 ((Below.refl _ _).alloc (Nat.le_refl _) _), by simp, hb1.alloc hb1.size _⟩
theorem each_stops (F : Fence) (n : Nat) (h30 : F.fn 82) (hro : F.round = none) (hn : 1 ≤ n) (Bx c : Nat) (A : Option Addr) (chs : List (List Int)) (hf : ∀ ch ∈ chs, Form ch) (w : World)
    (hBx : Bx < w.heap.size) (hm : w.cell? ⟨Bx, 0, none⟩ = some (.slice A chs.flatten.length c)) (hC : Kd.C (Kd.int .u8) w A chs.flatten.length chs.flatten) :
    SeqStopsK F n Tryd.prog 82 #[.pointer (some ⟨Bx, 0, none⟩)] (encN chs) KeepsWalks (fun xs => InOrder xs ∧ xs.length = chs.length) (fun pre => InOrder pre ∧ pre.length ≤ chs.length) chs.length w :=
  fun l J Jx W hW hJ _ hY h0 => each1_in F n h30 hro hn l Bx c A chs hf J Jx hY W hJ ((hW.cell (p := ⟨Bx, 0, none⟩) hBx).trans hm) (Kd.C_below hC hW) h0

section
variable {F : Fence} {n : Nat} {ops : Array Oper} {rest : List Oper} {o : Oper} {a : Act} {Q : Exit → Act → World → Prop}
/-- append of a text onto a row of the call's own, in a fence. -/
theorem appS_in {W : World} (base : Nat) (hbase : base ≤ W.heap.size) (hgd : o.guard = none) (s x : Operand) (ho : o.op = .call { callee := .builtin .append, args := #[s, x], argTypes := #[22, 9] })
    (v : Value) (xs : List Int) (y : ByteArray) (hs : a.eval s = v) (hx : a.eval x = .string y)
    (HO : Kd.R (Kd.int .u8) 5 W base (fun _ => True) v xs) (hl : xs.length + y.size ≤ 140737488355328)
    (h : ∀ v1 w1, Kd.R (Kd.int .u8) 5 w1 base (fun _ => True) v1 (xs ++ bytesOf y) → W.grownBy w1 v.ownBlock → wpListIn F n Tryd.prog ops Q rest (a.put o.dst v1) w1) :
    wpListIn F n Tryd.prog ops Q (o :: rest) a W := by
  obtain ⟨i0, hi, hz0, hz1, hz2⟩ := info_parts info5
  have HO' := Kd.own_of_R HO
  obtain ⟨v1, w1, hr, hown, hg, hat⟩ := run_append_str_at (P := Tryd.prog) W base 22 9 o.type 5 i0 Tryd.underlying22 Tryd.underlying9 hi hz0 hz1 hz2 v xs.length _ HO' y hl hbase
  refine wpListIn_plain hgd fun K hK => ?_
  unfold Oper.wpIn
  refine ⟨?_, ?_⟩
  · simp [Oper.about, ho, resolve, Target.leads, Sem.run_pure]
  · rw [Oper.semAt_plain F _ _ (by rw [ho]; intro c hc'; cases hc')]
    unfold execOp
    simp only [ho, resolve, invoke, builtin, Sem.run_bind, Sem.run_pure, Result.andThen_ok, List.map_toArray, List.map_cons, List.map_nil, hs, hx, hr]
    refine hK _ _ (h v1 w1 (Kd.R_of_own ?_ (fun _ _ => trivial)) hg)
    have hl2 : (xs ++ bytesOf y).length = xs.length + y.size := by rw [List.length_append, bytesOf_length]
    have hc : encs (Value.int .u8) (xs ++ bytesOf y) = encs (Value.int .u8) xs ++ Lib.strCells y := by
      rw [encs_append]
      congr 1
      simp [encs, bytesOf, Lib.strCells]
    rw [hl2, hc]
    exact hown
end
end Go.Proofs.YtdpnnglfaofjeaaDoor.V
namespace Go.Proofs.YtdpnnglfaofjeaaDoor.V
open Go.RowKit Go.Shelf Go.Proofs.YtdpnnglfaofjeaaDoorW.PrintWords Go.Proofs.YtdpnnglfaofjeaaDoorW.PrintLast Go.Proofs.YtdpnnglfaofjeaaDoorW.PrintMore
set_option linter.unusedVariables false
set_option linter.unusedSimpArgs false
set_option maxRecDepth 100000
attribute [local go_sem] Oper.semAt_some

theorem R_noncells {W W' : World} {base : Nat} {F : Nat → Prop} {v : Value} {xs : List Int} {row : Option Nat} (h : Kd.R (Kd.int .u8) 5 W base F v xs) (hg : W.grownBy W' row)
    (hr : ∀ r, row = some r → ∃ o : Obj, W.heap[r]? = some o ∧ o.isCells = false) : Kd.R (Kd.int .u8) 5 W' base F v xs := by
  refine Kd.R_grown2 h rfl hg ?_
  intro k hk he
  obtain ⟨o, ho, hoc⟩ := hr k hk
  rcases (Kd.own_of_R h).2 with ⟨h1, _⟩ | ⟨g, cap, cur, h1, _, hg', _⟩
  · rw [h1] at he; simp [Value.ownBlock] at he
  · rw [h1] at he
    simp [Value.ownBlock] at he
    subst he
    rw [ho] at hg'
    injection hg' with e
    subst e
    simp [Obj.isCells] at hoc
theorem Boxed.noncells {W W' : World} {B : Nat} {t : TypeId} {v : Value} {row : Option Nat} (h : Boxed W B t v) (hg : W.grownBy W' row)
    (hr : ∀ r, row = some r → ∃ o : Obj, W.heap[r]? = some o ∧ o.isCells = false) : Boxed W' B t v := by
  refine h.kept hg ?_
  intro e
  obtain ⟨o, ho, hoc⟩ := hr B e.symm
  rw [show W.heap[B]? = _ from h] at ho
  injection ho with e
  subst e
  simp [Obj.isCells] at hoc
theorem Boxed.below {W W' : World} {B : Nat} {t : TypeId} {v : Value} (h : Boxed W B t v) (hb : Below W.heap.size W W') : Boxed W' B t v := (hb.block B h.lt).trans h
theorem R_cells {W : World} {base : Nat} {F : Nat → Prop} {v : Value} {xs : List Int} (h : Kd.R (Kd.int .u8) 5 W base F v xs) : ∀ (j : Nat) (o : Obj), v.ownBlock = some j → W.heap[j]? = some o → o.isCells = true := by
  intro j o hj ho
  rcases (Kd.own_of_R h).2 with ⟨h1, _⟩ | ⟨g, cap, cur, h1, _, hg', _⟩
  · rw [h1] at hj; simp [Value.ownBlock] at hj
  · rw [h1] at hj
    simp [Value.ownBlock] at hj
    subst hj
    rw [ho] at hg'
    injection hg' with e
    subst e
    rfl
def outN (chs : List (List Int)) (pre : List (Nth chs)) : List Int := (pre.map fun k => chs.getD k.1 []).flatten
theorem outN_snoc (chs : List (List Int)) (pre : List (Nth chs)) (x : Nth chs) : outN chs (pre ++ [x]) = outN chs pre ++ chs.getD x.1 [] := by simp [outN]
theorem outN_order (chs : List (List Int)) (pre : List (Nth chs)) (h : InOrder pre) (hl : pre.length ≤ chs.length) : outN chs pre = (chs.take pre.length).flatten := by
  have e : (pre.map fun k => chs.getD k.1 []) = chs.take pre.length := by
    have e1 : (pre.map fun k => chs.getD k.1 []) = (pre.map (·.1)).map fun k => chs.getD k [] := by simp
    rw [e1, h]
    apply List.ext_getElem?
    intro i
    by_cases hi : i < pre.length
    · rw [List.getElem?_map, List.getElem?_range hi, List.getElem?_take_of_lt hi]
      have : i < chs.length := by omega
      simp [List.getD_eq_getElem?_getD, this]
    · rw [List.getElem?_eq_none (by simp; omega), List.getElem?_eq_none (by simp; omega)]
  unfold outN
  rw [e]
theorem InOrder.init {chs : List (List Int)} {pre : List (Nth chs)} {x : Nth chs} (h : InOrder (pre ++ [x])) : InOrder pre ∧ x.1 = pre.length := by
  unfold InOrder at h ⊢
  rw [List.map_append, List.length_append, List.length_singleton, List.range_succ] at h
  have := List.append_inj h (by simp)
  exact ⟨this.1, by simpa using this.2⟩
theorem clean_len' (l : List Int) : (clean l).length ≤ 3 * l.length := by
  have h := run_len l
  unfold clean rest3
  rw [List.length_append]
  split <;> simp [fffd] <;> omega
theorem flatten_ge (chs : List (List Int)) (h : ∀ ch ∈ chs, Form ch) : chs.length ≤ chs.flatten.length := by
  induction chs with
  | nil => simp
  | cons a t ih =>
    have h1 := ih (fun ch hc => h ch (List.mem_cons_of_mem _ hc))
    have h2 := form_pos (h a List.mem_cons_self)
    rw [List.flatten_cons, List.length_append, List.length_cons]
    omega
theorem form_len {ch : List Int} (h : Form ch) : ch.length ≤ 4 := by
  rcases h with ⟨x, rfl, _⟩ | ⟨x, y, rfl, _⟩ | ⟨x, y, z, rfl, _⟩ | ⟨x, y, z, u, rfl, _⟩ <;> simp
end Go.Proofs.YtdpnnglfaofjeaaDoor.V

import Derived.Test.YtdpnnglfaofjeaaS
import Derived.RangeFuncNested
import Derived.RangeFuncBound
import Derived.RangeFuncCalls
import Derived.RangeFuncLeaves
import Derived.Shelf.Abstract
import Derived.OwnWalkIn
import Derived.TacticsInMore
import Derived.LoopNIn
import Derived.LoopIn
import Derived.Lib.OthersKept
namespace Go.Proofs.Ytdpnnglfaofjeaa.U
open Go.RowKit Go.Shelf Go.Proofs.YtdpnnglfaofjeaaW.PrintWords Go.Proofs.YtdpnnglfaofjeaaW.PrintLast Go.Proofs.YtdpnnglfaofjeaaW.PrintMore
set_option linter.unusedVariables false
set_option linter.unusedSimpArgs false
attribute [local go_sem] Oper.semAt_some

/-! ### the iterator over the characters -/
def placeN (chs : List (List Int)) (k : Nat) : Nat := (chs.take k).flatten.length
abbrev Nth (chs : List (List Int)) := { k : Nat // k < chs.length }
def encN (chs : List (List Int)) (k : Nth chs) : Array Value := #[.int .i64 (placeN chs k.1 : Int), .int .i32 (runeOf (chs.getD k.1 []))]
def InOrder {chs : List (List Int)} (pre : List (Nth chs)) : Prop := pre.map (·.1) = List.range pre.length
theorem InOrder.snoc {chs : List (List Int)} {pre : List (Nth chs)} (h : InOrder pre) (x : Nth chs) (hx : x.1 = pre.length) : InOrder (pre ++ [x]) := by
  unfold InOrder at h ⊢
  rw [List.map_append, h, List.length_append, List.length_singleton, List.range_succ]
  simp [hx]
theorem placeN_succ (chs : List (List Int)) (k : Nat) (h : k < chs.length) : placeN chs (k + 1) = placeN chs k + (chs.getD k []).length := by
  have e : chs.take (k + 1) = chs.take k ++ [chs.getD k []] := by
    have : chs.getD k [] = chs[k] := by simp [List.getD_eq_getElem?_getD, h]
    rw [this, List.take_append_getElem]
  unfold placeN
  rw [e, List.flatten_append, List.length_append]
  simp
theorem decode_nth (chs : List (List Int)) (hf : ∀ ch ∈ chs, Form ch) (k : Nat) (h : k < chs.length) : Utf8.decode (strOfNums chs.flatten) (placeN chs k) = ((runeOf (chs.getD k [])).toNat, (chs.getD k []).length) := by
  have e : chs.flatten = (chs.take k).flatten ++ chs.getD k [] ++ (chs.drop (k + 1)).flatten := by
    have h1 : chs = chs.take k ++ (chs.getD k [] :: chs.drop (k + 1)) := by
      have : chs.getD k [] = chs[k] := by simp [List.getD_eq_getElem?_getD, h]
      rw [this, ← List.drop_eq_getElem_cons h, List.take_append_drop]
    conv => lhs; rw [h1]
    simp [List.flatten_append, List.append_assoc]
  have hm : Form (chs.getD k []) := hf _ (by simp [List.getD_eq_getElem?_getD, h])
  rw [e]
  exact decode_form _ _ _ hm
theorem rune_pos {ch : List Int} (h : Form ch) : 0 ≤ runeOf ch := by
  rcases h with ⟨x, rfl, h1, h2⟩ | ⟨x, y, rfl, h1, h2, h3, h4⟩ | ⟨x, y, z, rfl, h1, h2, h3, h4, h5, h6, h7, h8⟩ | ⟨x, y, z, u, rfl, h1, h2, h3, h4, h5, h6, h7, h8, h9, h10⟩ <;> simp only [runeOf] <;> omega
theorem placeN_le (chs : List (List Int)) (hf : ∀ ch ∈ chs, Form ch) (k : Nat) (h : k < chs.length) : placeN chs k < chs.flatten.length := by
  have e : chs.flatten.length = (chs.take k).flatten.length + (chs.drop k).flatten.length := by rw [← List.length_append, ← List.flatten_append, List.take_append_drop]
  rw [List.drop_eq_getElem_cons h, List.flatten_cons, List.length_append] at e
  have := form_pos (hf _ (List.getElem_mem h))
  unfold placeN
  omega
theorem grown_iterAt (W : World) (k : Nat) (s : ByteArray) (pos : Nat) : W.grownBy (W.iterAt k s pos) (some k) :=
  ⟨rfl, rfl, rfl, by rw [Lib.iterAt_size]; exact Nat.le_refl _, fun i _ hi => Lib.iterAt_other W k i s pos (fun e => hi (by rw [e]))⟩

set_option maxRecDepth 100000 in
set_option maxHeartbeats 4000000 in
theorem each1_in (F : Fence) (n : Nat) (h30 : F.fn 30) (hro : F.round = none) (hn : 1 ≤ n) (l Bx c : Nat) (A : Option Addr) (chs : List (List Int)) (hf : ∀ ch ∈ chs, Form ch) (J Jx : List (Nth chs) → World → Prop)
    (hY : ∀ pre x W, J pre W → pre.length < chs.length → YieldAt F (n - 1) Try.prog l (encN chs x) W fun e W' =>
      (e = .returned (.bool true) ∧ J (pre ++ [x]) W' ∧ KeepsWalks W W') ∨ (e = .returned (.bool false) ∧ Jx (pre ++ [x]) W'))
    (W : World) (hJ : AbidesFrom W.heap.size J) (hm : W.cell? ⟨Bx, 0, none⟩ = some (.slice A chs.flatten.length c)) (hC : Kd.C (Kd.int .u8) W A chs.flatten.length chs.flatten) (h0 : J [] W) :
    CallsIn F n Try.prog 30 #[.func (.yield l) #[] #[], .pointer (some ⟨Bx, 0, none⟩)] W fun e W' => (∃ v, e = .returned v) ∧
      ((∃ xs : List (Nth chs), (InOrder xs ∧ xs.length = chs.length) ∧ J xs W') ∨ (∃ pre, (InOrder pre ∧ pre.length ≤ chs.length) ∧ Jx pre W')) := by
  have hstr := Kd.C_string (P := Try.prog) (c := c) Try.underlying22 Try.underlying5 Try.underlying9 hC
  have hss : (strOfNums chs.flatten).size = chs.flatten.length := str_size _
  have hdec := decode_nth chs hf
  have hlt := placeN_le chs hf
  generalize hL : chs.flatten.length = L at hm hstr hss hlt
  generalize strOfNums chs.flatten = s at hstr hss hdec
  refine callsIn_of_wp Try.func30 rfl h30 ?_ hro
  simp only [Try.ntmps30, List.size_toArray, List.length_cons, List.length_nil, Nat.reduceAdd, Nat.reduceSub, Array.replicate_succ, Array.replicate_zero, List.push_toArray, List.append_toArray, List.nil_append, List.cons_append]
  gi_wp2
  have hpl := placeN_succ chs
  have hN : placeN chs chs.length = L := by unfold placeN; rw [List.take_length]; exact hL
  have hit0 : (W.iter s 0).heap[W.heap.size]? = some (.stringIter s 0) := World.alloc_heap_new W _
  gi_loopw [3, 4] (fun _ _ wr => ∃ pre : List (Nth chs), wr.heap[W.heap.size]? = some (.stringIter s (placeN chs pre.length)) ∧ InOrder pre ∧ pre.length ≤ chs.length ∧ J pre wr) (fun _ _ wr => L - wr.iterPos W.heap.size)
  case atStart => exact ⟨[], hit0, rfl, Nat.zero_le _, hJ _ _ _ none h0 (World.grownBy_alloc W _ none) (fun r e => by cases e)⟩
  case round =>
    obtain ⟨pre, hit, hio, hlen, hJp⟩ := hrel
    by_cases hp : pre.length < chs.length
    · have hpos := hlt _ hp
      have hnx : ∀ ty, (Instr.next (.pointer (some ⟨W.heap.size, 0, none⟩)) true ty).run Try.prog wr = .ok (.tuple #[.bool true, .int .i64 (placeN chs pre.length : Int), .int .i32 (runeOf (chs.getD pre.length []))]) (wr.iterAt W.heap.size s (placeN chs (pre.length + 1))) := fun ty => by
        have h1 := Lib.run_next_any_at (P := Try.prog) wr W.heap.size s (placeN chs pre.length) ty hit (by rw [hss]; exact hpos)
        rw [hdec _ hp] at h1
        simp only at h1
        rw [hpl _ hp, h1]
        have hm' : Form (chs.getD pre.length []) := hf _ (by simp [List.getD_eq_getElem?_getD, hp])
        have := rune_pos hm'
        rw [show (((runeOf (chs.getD pre.length [])).toNat : Nat) : Int) = runeOf (chs.getD pre.length []) from by omega]
      have hit2 := Lib.iterAt_heap wr W.heap.size s _ (placeN chs (pre.length + 1)) hit
      have hg2 := grown_iterAt wr W.heap.size s (placeN chs (pre.length + 1))
      have hJ2 := hJ pre wr _ (some W.heap.size) hJp hg2 (fun r e => by cases e; exact ⟨Nat.le_refl _, _, hit, rfl⟩)
      obtain ⟨fn, tmps, assign, body, hy, hR⟩ := hY pre ⟨pre.length, hp⟩ _ hJ2 hp
      dsimp only [encN] at hy
      have hio2 := hio.snoc ⟨pre.length, hp⟩ rfl
      have hip : wr.iterPos W.heap.size = placeN chs pre.length := by unfold World.iterPos; rw [hit]
      have hl2 : (pre ++ [(⟨pre.length, hp⟩ : Nth chs)]).length = pre.length + 1 := by simp
      have hpl1 := hpl _ hp
      have hfp := form_pos (hf (chs.getD pre.length []) (by simp [List.getD_eq_getElem?_getD, hp]))
      have hlt12 : placeN chs pre.length < placeN chs (pre.length + 1) := by omega
      clear hpl1 hJp
      generalize runeOf (chs.getD pre.length []) = R at hnx hy
      generalize hp2 : placeN chs (pre.length + 1) = p2 at hnx hit2 hJ2 hg2 hR hlt12 hy
      generalize placeN chs pre.length = p1 at hnx hit hip hpos hlt12 hy
      have HP2 := Lib.hid hp2
      clear hp2
      gi_wp2
      refine hR.mono ?_
      rintro e W3 (⟨rfl, hJ3, hk3⟩ | ⟨rfl, hJx3⟩)
      · have hit3 := hk3.same _ _ hit2 rfl
        have hip3 : W3.iterPos W.heap.size = p2 := by unfold World.iterPos; rw [hit3]
        gi_wp2
        go_roundw
        case rel => exact ⟨_, by rw [hl2, HP2.out]; exact hit3, hio2, by rw [hl2]; omega, hJ3⟩
        case measure => rw [hip, hip3]; omega
      · gi_wp2
        refine bodyPost_ret (results_none rfl _ _ _) rfl ?_
        exact ⟨⟨_, rfl⟩, .inr ⟨_, ⟨hio2, by rw [hl2]; omega⟩, hJx3⟩⟩
    · have hpe : pre.length = chs.length := by omega
      rw [hpe, hN] at hit
      have hnx : ∀ ty, (Instr.next (.pointer (some ⟨W.heap.size, 0, none⟩)) true ty).run Try.prog wr = _ := fun ty => Lib.run_next_end_at (P := Try.prog) wr W.heap.size s L ty hit (by omega)
      gi_wp2
      go_end0
      exact ⟨⟨_, rfl⟩, .inl ⟨pre, ⟨hio, hpe⟩, hJp⟩⟩
end Go.Proofs.Ytdpnnglfaofjeaa.U

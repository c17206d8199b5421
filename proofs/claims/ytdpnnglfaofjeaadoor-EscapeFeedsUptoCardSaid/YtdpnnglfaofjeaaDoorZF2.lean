import Derived.Test.YtdpnnglfaofjeaaDoorProg
import Derived.Laws.IdiomStrings
import Derived.Shelf.Small.Utf8
import Derived.Shelf.Small.Strs
import Derived.Shelf.Utf8.AppendRune
import Derived.Shelf.Utf8.AppendRunePlain
import Derived.Shelf.Strings.Search1
import Derived.Shelf.Bytes.SlIndexAt
import Derived.Shelf.Bytes.SlSearch0
import Derived.Shelf.Bytes.IndexByte
import Derived.Test.YtdpnnglfaofjeaaDoorZF1
namespace Go.Proofs.YtdpnnglfaofjeaaDoor
open Go.RowKit Go.Proofs.YtdpnnglfaofjeaaDoorW.PrintWords Go.Proofs.YtdpnnglfaofjeaaDoorW.PrintLast Go.Proofs.YtdpnnglfaofjeaaDoorW.PrintMore
set_option linter.unusedVariables false
set_option linter.unusedSimpArgs false
section
variable {P : Program} {ops : Array Oper} {rest : List Oper} {o : Oper} {a : Act} {Q : Exit → Act → World → Prop}
theorem V_of_block {W : World} {base g c e : Nat} {ok : Nat → Prop} {l : List Int} {C : Array Value} {fr : Nat × Nat} (hg : W.heap[g]? = some (.cells C e fr)) (hC : ∀ (i : Nat) (x : Int), l[i]? = some x → C[i]? = some (Value.int .u8 x))
    (hok : ok g) (hl : l.length ≤ 9223372036854775807) (hc : l.length ≤ c) : Kd.V (Kd.int .u8) e W base ok (.slice (some ⟨g, 0, none⟩) l.length c) l := by
  refine ⟨_, _, rfl, hc, fun W' hW => ?_⟩
  have hlt : g < W.heap.size := (Array.getElem?_eq_some_iff.1 hg).1
  have hg' := (hW g hok hlt).trans hg
  refine Kd.C_of_reads (d := 0) (h1 := fun _ => rfl) ⟨rfl, hl, fun hn => ⟨_, rfl, fun j hj => ?_⟩⟩
  rw [add_plain, cell_of_row W' g j _ _ _ hg', hC j (l[j]) (by simp [hj])]
  simp [List.getD_eq_getElem?_getD, hj]
theorem bytesRow_at (s : ByteArray) (cap i : Nat) (x : Int) (h : (bytesOf s)[i]? = some x) : (bytesRow s cap)[i]? = some (Value.int .u8 x) := by
  have hi : i < (bytesOf s).length := (List.getElem?_eq_some_iff.1 h).1
  rw [bytesOf_length] at hi
  have hi' : i < s.data.size := hi
  unfold bytesRow
  rw [Array.getElem?_append_left (by rw [Array.size_map]; exact hi'), Array.getElem?_map]
  unfold bytesOf at h
  rw [List.getElem?_map, Array.getElem?_toList] at h
  revert h
  cases s.data[i]? with
  | none => intro h; cases h
  | some b => intro h; injection h with h; subst h; rfl
theorem V_string {P : Program} {w : World} {base : Nat} {ok : Nat → Prop} {e' src dst e : TypeId} {v : Value} {xs : List Int} (hs : P.underlying src = some (.slice e)) (he : P.underlying e = some (.int .u8)) (hd : P.underlying dst = some .string)
    (h : Kd.V (Kd.int .u8) e' w base ok v xs) : (convert src dst v).run P w = .ok (.string (strOfNums xs)) w := by
  obtain ⟨A, c, rfl, _, hF⟩ := h
  exact Kd.C_string (P := P) hs he hd (Kd.F_now hF)
theorem print_conv_str {w0 W : World} (base : Nat) (hgd : o.guard = none) (x : Operand) (t u e : TypeId) (ho : o.op = .convert u t x)
    (ht : P.underlying t = some (.slice e)) (hu : P.underlying u = some .string) (he : P.underlying e = some (.int .u8)) (ok : Nat → Prop) (y : ByteArray) (hx : a.eval x = .string y) (hy : y.size ≤ 9223372036854775807)
    (hF : ∀ k, W.heap.size ≤ k → ok k) (HB : Below base w0 W) (hbase : base ≤ W.heap.size)
    (h : ∀ v1 w1, Kd.V (Kd.int .u8) e w1 base ok v1 (([] : List Int) ++ bytesOf y) → Below base w0 w1 → W.grownBy w1 (Value.slice none 0 0).ownBlock → True → wpList P ops Q rest (a.put o.dst v1) w1) :
    wpList P ops Q (o :: rest) a W := by
  have hr := run_bytes_of_string (P := P) W u t e y hu ht he
  refine wpList_plain hgd fun K hK => ?_
  unfold Oper.wp execOp
  simp only [ho, resolve, invoke, builtin, Sem.run_bind, Sem.run_pure, Result.andThen_ok, List.map_toArray, List.map_cons, List.map_nil, hx, hr]
  have hn := heap_alloc_new W.drew (.cells (bytesRow y (grownCap W y.size 0 e)) e ((bytesRow y (grownCap W y.size 0 e)).size, (bytesRow y (grownCap W y.size 0 e)).size + 1))
  have hb : Below W.heap.size W (W.drew.alloc (.cells (bytesRow y (grownCap W y.size 0 e)) e ((bytesRow y (grownCap W y.size 0 e)).size, (bytesRow y (grownCap W y.size 0 e)).size + 1))) := (below_drew (Below.refl _ _)).alloc (Nat.le_refl _) _
  have hV := V_of_block (base := base) (ok := ok) (c := grownCap W y.size 0 e) (l := bytesOf y) hn (fun i x hx => bytesRow_at y _ i x hx) (hF _ (Nat.le_refl _)) (by rw [bytesOf_length]; exact hy) (by rw [bytesOf_length]; exact grownCap_ge _ _ _ _)
  rw [bytesOf_length] at hV
  exact hK _ _ (h _ _ (by rw [List.nil_append]; exact hV) (below_then HB hbase hb) (grown_of_below hb _) trivial)
theorem print_conv_lit {w0 W : World} (base : Nat) (hgd : o.guard = none) (x : Operand) (t e : TypeId) (ho : o.op = .convert t t x)
    (ht : P.underlying t = some (.slice e)) (he : P.underlying e = some (.int .u8)) (ok : Nat → Prop) (v : Value) (xs : List Int) (hx : a.eval x = v) (hN : xs ≠ []) (HO : Kd.R (Kd.int .u8) e W base ok v xs) (HB : Below base w0 W) (hbase : base ≤ W.heap.size)
    (h : ∀ v1 w1, Kd.V (Kd.int .u8) e w1 base ok v1 xs → Below base w0 w1 → W.grownBy w1 v.ownBlock → (v1.ownBlock = v.ownBlock ∨ ∃ b, v1.ownBlock = some b ∧ W.heap.size ≤ b) → wpList P ops Q rest (a.put o.dst v1) w1) :
    wpList P ops Q (o :: rest) a W := by
  have hV0 := Kd.R_V (base' := base) HO
  have hown := Kd.own_of_R HO
  rcases hown.2 with ⟨rfl, h0⟩ | ⟨g, cap, cur, rfl, hbg, hg, hnc, hcm, hcs, htake⟩
  · exact absurd (List.eq_nil_of_length_eq_zero h0) hN
  · have hlt : g < W.heap.size := (Array.getElem?_eq_some_iff.1 hg).1
    have hsh : W.shape? g = some (e, cur.size) := by unfold World.shape?; rw [hg]
    have hW1 : ∀ k, (W.freeze ⟨g, cur.size, none⟩ 1).heap[k]? = if k = g then some (.cells cur e (cur.size, cur.size + 1)) else W.heap[k]? := fun k => by
      unfold World.freeze
      rw [if_neg (by decide)]
      simp only [Array.getElem?_modify]
      by_cases hk : k = g
      · subst hk
        rw [if_pos rfl, if_pos rfl, hg]
        rfl
      · rw [if_neg (fun e => hk e.symm), if_neg hk]
    have hsz : (W.freeze ⟨g, cur.size, none⟩ 1).heap.size = W.heap.size := by unfold World.freeze; rw [if_neg (by decide)]; simp
    have hgr : W.grownBy (W.freeze ⟨g, cur.size, none⟩ 1) (some g) := ⟨by unfold World.freeze; rw [if_neg (by decide)], by unfold World.freeze; rw [if_neg (by decide)], by unfold World.freeze; rw [if_neg (by decide)], by omega, fun k hk hne => by
      rw [hW1, if_neg (fun e => hne (by rw [e]))]⟩
    have hr : (convert t t (.slice (some ⟨g, 0, none⟩) xs.length cap)).run P W = .ok (.slice (some ⟨g, 0, none⟩) xs.length cap) (W.freeze ⟨g, cur.size, none⟩ 1) := by
      simp [convert, run_underlying ht, run_underlying he, markStringish, hsh]
    have hg1 : (W.freeze ⟨g, cur.size, none⟩ 1).heap[g]? = some (.cells cur e (cur.size, cur.size + 1)) := by rw [hW1, if_pos rfl]
    have hV := V_of_block (base := base) (ok := ok) (c := cap) (l := xs) hg1 (fun i z hz => by
      have hi : i < xs.length := (List.getElem?_eq_some_iff.1 hz).1
      have h1 := congrArg (fun l => l[i]?) htake
      simp only [Nat.mul_one, List.getElem?_take_of_lt hi, Array.getElem?_toList] at h1
      rw [h1]
      simp [nums, encs, hz]) (HO.1 g (by simp [Value.ownBlock])) (by simp only [maxLen] at hcm; omega) hnc
    refine wpList_plain hgd fun K hK => ?_
    unfold Oper.wp execOp
    simp only [ho, resolve, invoke, builtin, Sem.run_bind, Sem.run_pure, Result.andThen_ok, List.map_toArray, List.map_cons, List.map_nil, hx, hr]
    exact hK _ _ (h _ _ hV (HB.grown hgr hbase (fun k hk => by simp [Value.ownBlock] at hk; omega)) (by simpa [Value.ownBlock] using hgr) (.inl rfl))
end
end Go.Proofs.YtdpnnglfaofjeaaDoor
namespace Go.Proofs
open Go.Shelf
def Tryd.lays137_ren : Go.Shelf.Ren := ⟨fun | 137 => 117 | 217 => 131 | 266 => 110 | n => n, fun | 9 => 9 | 5 => 5 | 3 => 3 | n => n, fun | n => n⟩
theorem Tryd.lays137 : Go.Proofs.Lays.n137 Tryd.prog Tryd.lays137_ren := {
  mixed := by kernel_rfl
  f137 := Tryd.func117.trans (congrArg some (by kernel_rfl))
  f217 := Tryd.func131.trans (congrArg some (by kernel_rfl))
  f266 := Tryd.func110.trans (congrArg some (by kernel_rfl))
  t3 := Tryd.underlying3
  a3 := Tryd.isAgg3
  z3 := Tryd.sizeOf3
  v3 := Tryd.zeroValue3
  t5 := Tryd.underlying5
  a5 := Tryd.isAgg5
  z5 := Tryd.sizeOf5
  v5 := Tryd.zeroValue5
  t9 := Tryd.underlying9
  a9 := Tryd.isAgg9
  z9 := Tryd.sizeOf9
  v9 := Tryd.zeroValue9 }
open Go.RowKit in theorem Tryd.strings_IndexByte (s : ByteArray) (c : Int) (w : World) : Calls Tryd.prog 117 #[.string s, .int .u8 c] w fun e w' => e = .returned (.int .i64 (Lib.indexByte s.data.toList c.toNat.toUInt8)) ∧ w' = w := Any.strings_IndexByte Tryd.lays137 s c w
end Go.Proofs

import Derived.Test.YtdpnnglfaofjeaaDoorSD
namespace Go.Proofs.YtdpnnglfaofjeaaDoor.Z
open Go.RowKit Go.Lib Go.Proofs.YtdpnnglfaofjeaaDoorW.PrintWords Go.Proofs.YtdpnnglfaofjeaaDoorW.PrintLast Go.Proofs.YtdpnnglfaofjeaaDoorW.PrintMore
set_option linter.unusedVariables false
set_option linter.unusedSimpArgs false
set_option maxRecDepth 1000000

def AnyIs (l : List Int) (w : World) (e : Ending) (w' : World) : Prop := ∃ r, e = .returned (.int .i64 r) ∧ IsIdx l r ∧ Below w.heap.size w w'
theorem emp4 (C : ByteArray) (hC : C = C4) : C.toList.isEmpty = false := by subst hC; rw [Lib.toList_data]; rfl
set_option maxHeartbeats 8000000 in
theorem any_one (l : List Int) (A : Option Addr) (c : Nat) (w : World) (hp : Kd.C (Kd.int .u8) w A l.length l) (hB : ∀ j : Nat, 0 ≤ l.getD j 0 ∧ l.getD j 0 ≤ 255) (hl : l.length = 1) :
    Calls Tryd.prog 96 #[.slice A l.length c, .string C4] w (AnyIs l w) := by
  obtain ⟨ad, rfl, hc0⟩ := cell_at hp 0 (by omega)
  have hc0' : w.cell? ad = some (.int .u8 (l.getD 0 0)) := by simpa [Addr.add] using hc0
  have hb := hB 0
  have hno : ¬ stop (l.getD 0 0) → IsIdx l (-1) := fun h => .inl ⟨rfl, fun j hj => by obtain rfl : j = 0 := by omega
                                                                                      exact h⟩
  have hyes : stop (l.getD 0 0) → IsIdx l 0 := fun h => .inr ⟨0, rfl, by omega, h, fun j hj => by omega⟩
  generalize l.getD 0 0 = b0 at *
  have h1 : ((l.length : Int) == 1) = true := by rw [hl]; rfl
  have hz : (0 : Int) < (l.length : Int) := by omega
  have hib := ib_stop b0
  have hC0 := emp4 C4 rfl
  have hsz : C4.size = 4 := rfl
  have hrun := run110 b0 hb w
  obtain ⟨n0, n1, n2, n3, n4⟩ := next4 w 0
  generalize C4 = C at *
  have HNO := Lib.hid hno
  have HYES := Lib.hid hyes
  clear hno hyes hp hB hc0 hl
  by_cases hs : stop b0
  · have hge : 0 ≤ ib b0 := hib.2 hs
    have h128 : ¬ 128 ≤ b0 := by unfold stop at hs; omega
    have HS := Lib.hid hs
    clear hib hs n0 n1 n2 n3 n4
    go_enter Tryd.func96, Tryd.ntmps96
    go_wp2
    go_ret
    exact ⟨0, rfl, HYES.out HS.out, Below.refl _ _⟩
  · have hge : ¬ 0 ≤ ib b0 := fun h => hs (hib.1 h)
    have HS := Lib.hid hs
    clear hib hs
    by_cases h128 : 128 ≤ b0
    · clear hrun hge
      go_enter Tryd.func96, Tryd.ntmps96
      go_wp2
      go_rounds 5
      go_ret
      exact ⟨-1, rfl, HNO.out HS.out, (Below.refl _ _).alloc (Nat.le_refl _) _⟩
    · clear n0 n1 n2 n3 n4
      go_enter Tryd.func96, Tryd.ntmps96
      go_wp2
      go_ret
      exact ⟨-1, rfl, HNO.out HS.out, Below.refl _ _⟩

theorem IsIdx.none {l : List Int} (h : ∀ j : Nat, j < l.length → ¬ stop (l.getD j 0)) : IsIdx l (-1) := .inl ⟨rfl, h⟩
theorem set_at (x : Int) (hx : 0 ≤ x ∧ x ≤ 255) : (Lib.setCells C4.data.toList)[x.toNat]? = some (.bool (decide (stop x))) := by
  obtain ⟨n, rfl⟩ := Int.eq_ofNat_of_zero_le hx.1
  rw [Int.toNat_natCast]
  have h := Lib.setCells_at C4.data.toList (UInt8.ofNat n)
  have e : (UInt8.ofNat n).toNat = n := by simp [UInt8.toNat_ofNat']; omega
  rw [e] at h
  rw [h]
  congr 2
  have : ∀ n : Nat, n < 256 → C4.data.toList.contains (UInt8.ofNat n) = decide (stop (n : Int)) := by decide +kernel
  exact this n (by omega)
set_option maxHeartbeats 16000000 in
theorem any_long (l : List Int) (A : Option Addr) (c : Nat) (w : World) (hp : Kd.C (Kd.int .u8) w A l.length l) (hB : ∀ j : Nat, 0 ≤ l.getD j 0 ∧ l.getD j 0 ≤ 255) (hl : 8 < l.length) (hlN : l.length ≤ 4611686018427387904) :
    Calls Tryd.prog 96 #[.slice A l.length c, .string C4] w (AnyIs l w) := by
  have hM := makeSet_calls C4 w (by decide) (by intro j b hj; have := List.mem_of_getElem? hj; have hall : ∀ y ∈ C4.data.toList, y.toNat < 128 := by decide
                                                exact hall b this)
  have h1 : ((l.length : Int) == 1) = false := beq_eq_false_iff_ne.2 (by omega)
  have hC0 := emp4 C4 rfl
  have hsz : C4.size = 4 := rfl
  have hset := set_at
  have hssz := Lib.setCells_size C4.data.toList
  have hs1 := Lib.setCells_one C4.data.toList
  generalize Lib.setCells C4.data.toList = S at *
  generalize C4 = C at *
  have hv122 := run_zero122
  have h8z : decide ((8 : Int) < (l.length : Int)) = true := decide_eq_true (by omega)
  have hsc : (storeCells ⟨w.heap.size + 1, 0, none⟩ S.toList 0).run Tryd.prog ((w.alloc (.cells S 122)).alloc (.cells (Array.replicate 256 (.bool false)) 122)) = .ok () ((w.alloc (.cells S 122)).alloc (.cells S 122)) := by
    have := run_storeCells_new (P := Tryd.prog) (w.alloc (.cells S 122)) 122 (Array.replicate 256 (.bool false)) S (by rw [hssz]; exact info122) (by rw [hssz, Array.size_replicate]) hs1
    simpa using this
  have hcellAt : ∀ x : Int, 0 ≤ x ∧ x ≤ 255 → ((w.alloc (.cells S 122)).alloc (.cells S 122)).cell? ⟨w.heap.size + 1, x.toNat, none⟩ = some (.bool (decide (stop x))) := fun x hx => by
    rw [World.cell?_alloc_at _ _ _ _ (by simp), hset x hx]
  have BB : Below w.heap.size w ((w.alloc (.cells S 122)).alloc (.cells S 122)) := ((Below.refl _ _).alloc (Nat.le_refl _) _).alloc (by simp) _
  obtain ⟨ad, rfl, hc0⟩ := cell_at hp 0 (by omega)
  have hcells : ∀ j : Nat, j < l.length → ((w.alloc (.cells S 122)).alloc (.cells S 122)).cell? (ad.add j) = some (.int .u8 (l.getD j 0)) := fun j hj => by
    obtain ⟨_, hae, h⟩ := cell_at hp j hj
    obtain rfl := Option.some.inj hae
    exact (BB.cell (World.block_lt_of_cell? w _ h)).trans h
  have HC := Lib.hid hcellAt
  have HX := Lib.hid hcells
  clear hc0
  have HB := Lib.hid hB
  have HBB := Lib.hid BB
  clear hcellAt hp hB hset hs1 hcells BB
  go_enter Tryd.func96, Tryd.ntmps96
  go_wp2_with (first
    | (go_at_call 112; refine (big_calls _ _).mono ?_; rintro e w' ⟨rfl, hw⟩; rw [hw, h8z])
    | (go_at_call 113; refine hM.mono ?_; rintro e w' ⟨rfl, hw⟩; rw [hw]))
  clear hM hsc
  generalize ((w.alloc (.cells S 122)).alloc (.cells S 122)) = W2 at *
  go_loopg [62] l.length (fun g s wx => ∃ i : Nat, i + g = l.length ∧ s = .int .i64 i ∧ wx = W2 ∧ ∀ j : Nat, j < i → ¬ stop (l.getD j 0))
  case atStart => exact ⟨0, by omega, rfl, rfl, fun j hj => by omega⟩
  case round =>
    obtain ⟨i, hig, rfl, rfl, hno⟩ := hrel
    have HN := Lib.hid hno
    clear hno
    cases gk with
    | zero =>
      obtain rfl : i = l.length := by omega
      have hiz : ¬ ((l.length : Int) < (l.length : Int)) := by omega
      go_wp2
      go_ret
      exact ⟨-1, rfl, IsIdx.none HN.out, HBB.out⟩
    | succ g =>
      have hi : i < l.length := by omega
      have hiz : (i : Int) < (l.length : Int) := by omega
      have hx := HX.out i hi
      have hb := HB.out i
      obtain ⟨x, hxe⟩ : ∃ x, l.getD i 0 = x := ⟨_, rfl⟩
      rw [hxe] at hx hb
      have hcx := HC.out x hb
      obtain ⟨xn, rfl⟩ := Int.eq_ofNat_of_zero_le hb.1
      rw [Int.toNat_natCast] at hcx
      have hcc := contains_calls (w.heap.size + 1) xn _ _ (by omega) hcx
      have HXE := Lib.hid hxe
      clear hxe
      by_cases hst : stop (xn : Int)
      · rw [decide_eq_true hst] at hcx hcc
        have HST := Lib.hid hst
        clear hst
        go_wp2_with (go_at_call 114; refine hcc.mono ?_; rintro e w' ⟨rfl, hw⟩; rw [hw])
        go_ret
        exact ⟨_, rfl, .inr ⟨i, rfl, hi, by rw [HXE.out]; exact HST.out, HN.out⟩, HBB.out⟩
      · rw [decide_eq_false hst] at hcx hcc
        have HST := Lib.hid hst
        clear hst
        go_wp2_with (go_at_call 114; refine hcc.mono ?_; rintro e w' ⟨rfl, hw⟩; rw [hw])
        go_roundg g
        case measure => omega
        case rel => exact ⟨i + 1, by omega, by first | rfl | simp, rfl, fun j hj => by
                             rcases (show j < i ∨ j = i by omega) with h | rfl
                             · exact HN.out j h
                             · rw [HXE.out]; exact HST.out⟩

theorem drop_getD (l : List Int) (i k : Nat) : (l.drop i).getD k 0 = l.getD (i + k) 0 := by
  simp [List.getD_eq_getElem?_getD, List.getElem?_drop]
theorem info5 : (Tryd.prog.info? 5).map (fun i => (i.zero, i.size, i.bytes)) = some (some (.int .u8 0), 1, 1) := by kernel_rfl
theorem run116e (l : List Int) (r m : Int) (n : Nat) (h : Dec l r n) (hr : r ≠ 65533) (w : World) (hm : w.cell? ⟨1, 0, none⟩ = some (.int .i64 m)) (hn : (n : Int) ≤ m) : (callFunc 116 #[.string C4, .string (Utf8.encode r)]).run Tryd.prog w = .ok (.value (.int .i64 (-1))) w := run116 h hr w hm hn
theorem emp_ne (C : ByteArray) (r : Int) (n : Nat) (l : List Int) (hC : C = C4) (h : Dec l r n) (hr : r ≠ 65533) : (C.toList == (Utf8.encode r).toList) = false := by
  subst hC
  obtain ⟨hs, x, t, hx, hne⟩ := enc_of h hr
  rw [Lib.toList_data, Lib.toList_data, hx]
  rw [beq_eq_false_iff_ne]
  intro e
  have : (58 : UInt8) = x := (List.cons.inj (show (58 : UInt8) :: [47, 63, 35] = x :: t from e)).1
  exact hne.1 this.symm
theorem after_decode (C : ByteArray) (hC : C = C4) (q : List Int) (r m : Int) (n : Nat) (w : World) (hd : Dec q r n) (hm : w.cell? ⟨1, 0, none⟩ = some (.int .i64 m)) :
    (r = 65533 ∧ ((Instr.next (.pointer (some ⟨w.heap.size, 0, none⟩)) true 0).run Tryd.prog (w.iter C 0) = .ok (.tuple #[.bool true, .int .i64 0, .int .i32 58]) (w.iter C 1) ∧ (Instr.next (.pointer (some ⟨w.heap.size, 0, none⟩)) true 0).run Tryd.prog (w.iter C 1) = .ok (.tuple #[.bool true, .int .i64 1, .int .i32 47]) (w.iter C 2) ∧ (Instr.next (.pointer (some ⟨w.heap.size, 0, none⟩)) true 0).run Tryd.prog (w.iter C 2) = .ok (.tuple #[.bool true, .int .i64 2, .int .i32 63]) (w.iter C 3) ∧ (Instr.next (.pointer (some ⟨w.heap.size, 0, none⟩)) true 0).run Tryd.prog (w.iter C 3) = .ok (.tuple #[.bool true, .int .i64 3, .int .i32 35]) (w.iter C 4) ∧ (Instr.next (.pointer (some ⟨w.heap.size, 0, none⟩)) true 0).run Tryd.prog (w.iter C 4) = .ok (.tuple #[.bool false]) (w.iter C 4))) ∨ ((r != 65533) = true ∧ ((4 : Int) == (n : Int)) = true ∧ (C.toList == (Utf8.encode r).toList) = false)
    ∨ ((r != 65533) = true ∧ ((4 : Int) == (n : Int)) = false ∧ (n : Int) ≤ m ∧ (callFunc 116 #[.string C, .string (Utf8.encode r)]).run Tryd.prog w = .ok (.value (.int .i64 (-1))) w)
    ∨ ((r != 65533) = true ∧ ((4 : Int) == (n : Int)) = false ∧ ¬ (n : Int) ≤ m ∧ ((r == 58) = false ∧ (r == 47) = false ∧ (r == 63) = false ∧ (r == 35) = false) ∧ ((Instr.next (.pointer (some ⟨w.heap.size, 0, none⟩)) true 0).run Tryd.prog (w.iter C 0) = .ok (.tuple #[.bool true, .int .i64 0, .int .i32 58]) (w.iter C 1) ∧ (Instr.next (.pointer (some ⟨w.heap.size, 0, none⟩)) true 0).run Tryd.prog (w.iter C 1) = .ok (.tuple #[.bool true, .int .i64 1, .int .i32 47]) (w.iter C 2) ∧ (Instr.next (.pointer (some ⟨w.heap.size, 0, none⟩)) true 0).run Tryd.prog (w.iter C 2) = .ok (.tuple #[.bool true, .int .i64 2, .int .i32 63]) (w.iter C 3) ∧ (Instr.next (.pointer (some ⟨w.heap.size, 0, none⟩)) true 0).run Tryd.prog (w.iter C 3) = .ok (.tuple #[.bool true, .int .i64 3, .int .i32 35]) (w.iter C 4) ∧ (Instr.next (.pointer (some ⟨w.heap.size, 0, none⟩)) true 0).run Tryd.prog (w.iter C 4) = .ok (.tuple #[.bool false]) (w.iter C 4))) := by
  subst hC
  by_cases hr : r = 65533
  · exact .inl ⟨hr, next4 w 0⟩
  · have hr' : (r != 65533) = true := by simpa using hr
    by_cases h4 : n = 4
    · exact .inr (.inl ⟨hr', by subst h4; rfl, emp_ne C4 r n q rfl hd hr⟩)
    · have h4' : ((4 : Int) == (n : Int)) = false := by rw [beq_eq_false_iff_ne]; omega
      by_cases hmn : (n : Int) ≤ m
      · exact .inr (.inr (.inl ⟨hr', h4', hmn, run116e q r m n hd hr w hm hmn⟩))
      · have hr128 : 128 ≤ r := by have h := hd.2.2.2; omega
        refine .inr (.inr (.inr ⟨hr', h4', hmn, ⟨?_, ?_, ?_, ?_⟩, next4 w 0⟩)) <;> (rw [beq_eq_false_iff_ne]; omega)
set_option maxHeartbeats 16000000 in
theorem any_short (l : List Int) (A : Option Addr) (c : Nat) (w : World) (hp : Kd.C (Kd.int .u8) w A l.length l) (hB : ∀ j : Nat, 0 ≤ l.getD j 0 ∧ l.getD j 0 ≤ 255) (hl : l.length ≤ 8) (hl1 : l.length ≠ 1) (hcap : l.length ≤ c) (hT : DecOK w) (m : Int) (hm : w.cell? ⟨1, 0, none⟩ = some (.int .i64 m)) :
    Calls Tryd.prog 96 #[.slice A l.length c, .string C4] w (AnyIs l w) := by
  have h1 : ((l.length : Int) == 1) = false := beq_eq_false_iff_ne.2 (by omega)
  have hC0 := emp4 C4 rfl
  have hsz : C4.size = 4 := rfl
  have hC : C4 = C4 := rfl
  have hrun := run110
  have had := after_decode C4
  replace had := had hC
  generalize C4 = C at hC0 hsz hC hrun had ⊢
  have HAD := Lib.hid had
  have h8z : decide ((8 : Int) < (l.length : Int)) = false := decide_eq_false (by omega)
  have HR := Lib.hid hrun
  have HP := Lib.hid hp
  have HB := Lib.hid hB
  have HT := Lib.hid hT
  have HM := Lib.hid hm
  have HCAP := Lib.hid hcap
  have HL := Lib.hid hl
  clear hrun had hp hB hT hm hcap hl hC hl1
  go_enter Tryd.func96, Tryd.ntmps96
  go_wp2_with (go_at_call 112; refine (big_calls _ _).mono ?_; rintro e w' ⟨rfl, hw⟩; rw [hw, h8z])
  go_loopg [11, 12] l.length (fun g s11 s12 wx => ∃ i : Nat, i + g = l.length ∧ s12 = .int .i64 i ∧ Below w.heap.size w wx ∧ ∀ j : Nat, j < i → ¬ stop (l.getD j 0))
  case atStart => exact ⟨0, by omega, rfl, Below.refl _ _, fun j hj => by omega⟩
  case round =>
    obtain ⟨i, hig, rfl, hbx, hno⟩ := hrel
    have HN := Lib.hid hno
    have HBX := Lib.hid hbx
    clear hno hbx
    cases gk with
    | zero =>
      obtain rfl : i = l.length := by omega
      have hiz : ¬ ((l.length : Int) < (l.length : Int)) := by omega
      go_wp2
      go_ret
      exact ⟨-1, rfl, IsIdx.none HN.out, HBX.out⟩
    | succ g =>
      have hi : i < l.length := by omega
      have hiz : (i : Int) < (l.length : Int) := by omega
      have hL8 : (l.length : Int) ≤ 8 := by have := HL.out; omega
      have HPX := Lib.hid (Kd.C_below HP.out HBX.out)
      obtain ⟨ad, rfl, hx⟩ := cell_at HPX.out i hi
      have hb := HB.out i
      obtain ⟨x, hxe⟩ : ∃ x, l.getD i 0 = x := ⟨_, rfl⟩
      rw [hxe] at hx hb
      have hib := ib_stop x
      have HXE := Lib.hid hxe
      clear hxe
      by_cases h128 : x < 128
      · have hrun := HR.out x hb wr
        by_cases hst : stop x
        · have hge : 0 ≤ ib x := hib.2 hst
          have HST := Lib.hid hst
          clear hst hib
          go_wp2
          go_ret
          exact ⟨_, rfl, .inr ⟨i, rfl, hi, by rw [HXE.out]; exact HST.out, HN.out⟩, HBX.out⟩
        · have hge : ¬ 0 ≤ ib x := fun h => hst (hib.1 h)
          have HST := Lib.hid hst
          clear hst hib
          go_wp2
          go_roundg g
          case measure => omega
          case rel => exact ⟨i + 1, by omega, by first | rfl | simp, HBX.out, fun j hj => by
                               rcases (show j < i ∨ j = i by omega) with h | rfl
                               · exact HN.out j h
                               · rw [HXE.out]; exact HST.out⟩
      · obtain ⟨i0, hi0, _, hsz0, _⟩ := info_parts info5
        obtain ⟨A5, hcut, hA5, hc5⟩ := print_drop_of (P := Tryd.prog) (Value.int .u8) 0 22 5 .i64 Tryd.underlying22 hi0 hsz0 (some ad) c l (i : Int) (by omega) (by omega) HCAP.out
        clear hi0 hsz0
        have hqg : ∀ k, (l.drop (i : Int).toNat).getD k 0 = l.getD (i + k) 0 := fun k => drop_getD l i k
        have hql : (l.drop (i : Int).toNat).length = l.length - i := by rw [List.length_drop, Int.toNat_natCast]
        generalize l.drop (i : Int).toNat = q at *
        have cD := decode_calls q A5 (c - (i : Int).toNat) wr (Kd.C_of_reads (h1 := fun _ => rfl) (hA5 _ (Kd.reads_of_C HPX.out))) (fun j => by rw [hqg]; exact HB.out _) (by omega) (by rw [hqg, Nat.add_zero, HXE.out]; omega) (HT.out.below HBX.out)
        clear hA5 hc5 hib
        have HQG := Lib.hid hqg
        have HQL := Lib.hid hql
        clear hqg hql
        go_wp2_with (go_at_call 115; refine cD.mono ?_; rintro e w' ⟨r, n, rfl, hd, hb⟩; clear cD
                     have hbw := below_then HBX.out HBX.out.size hb
                     have hnl : i + n ≤ l.length := by have := hd.2.1; have := HQL.out; omega
                     have hn1 : 1 ≤ n := hd.1
                     have hw64 : wrap64 ((i : Int) + (n : Int)) = (i : Int) + (n : Int) := by have := HL.out; unfold wrap64; omega
                     have HSTEP := Lib.hid (show ∀ j : Nat, j < i + n → ¬ stop (l.getD j 0) from fun j hj => by
                       by_cases hji : j < i
                       · exact HN.out j hji
                       · have h1 := hd.2.2.1 (j - i) (by omega)
                         rw [HQG.out, show i + (j - i) = j by omega] at h1
                         unfold stop; omega)
                     have HBW := Lib.hid hbw
                     have HBI := Lib.hid (hbw.alloc hbw.size (Obj.stringIter C 4))
                     have hm' : w'.cell? ⟨1, 0, none⟩ = some (.int .i64 m) := (hbw.cell (World.block_lt_of_cell? w _ HM.out)).trans HM.out
                     clear hbw hb
                     have hcase := HAD.out q r m n w' hd hm'
                     clear hd
                     rcases hcase with ⟨rfl, n0, n1, n2, n3, n4⟩ | ⟨hr', h4', hne⟩ | ⟨hr', h4', hmn, hrun2⟩ | ⟨hr', h4', hmn, ⟨e1, e2, e3, e4⟩, n0, n1, n2, n3, n4⟩)
        all_goals (try go_rounds 5)
        all_goals go_roundg (l.length - (i + n))
        all_goals first
          | omega
          | exact ⟨i + n, by omega, by first | rfl | simp, HBW.out, HSTEP.out⟩
          | exact ⟨i + n, by omega, by first | rfl | simp, HBI.out, HSTEP.out⟩

/-- bytes.IndexAny at the four characters. -/
theorem any_calls (l : List Int) (A : Option Addr) (c : Nat) (w : World) (hp : Kd.C (Kd.int .u8) w A l.length l) (hB : ∀ j : Nat, 0 ≤ l.getD j 0 ∧ l.getD j 0 ≤ 255) (hlN : l.length ≤ 4611686018427387904) (hcap : l.length ≤ c) (hT : DecOK w) (m : Int) (hm : w.cell? ⟨1, 0, none⟩ = some (.int .i64 m)) :
    Calls Tryd.prog 96 #[.slice A l.length c, .string C4] w (AnyIs l w) := by
  by_cases h1 : l.length = 1
  · exact any_one l A c w hp hB h1
  · by_cases h8 : 8 < l.length
    · exact any_long l A c w hp hB h8 hlN
    · exact any_short l A c w hp hB (by omega) h1 hcap hT m hm
end Go.Proofs.YtdpnnglfaofjeaaDoor.Z

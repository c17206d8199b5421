import Derived.Test.YtdpnnglfaofjeaaV
import Derived.Deep.RegionWith
namespace Go.Proofs.Ytdpnnglfaofjeaa.U
open Go.RowKit Go.Proofs.YtdpnnglfaofjeaaW.PrintWords Go.Proofs.YtdpnnglfaofjeaaW.PrintLast Go.Proofs.YtdpnnglfaofjeaaW.PrintMore
set_option linter.unusedVariables false
set_option linter.unusedSimpArgs false

theorem OB.keep {w w1 w2 : World} {v : Value} {l : List Int} {g : Nat} (h : OB w w1 v l) (hg : g < w.heap.size) (hk : w1.grownBy w2 (some g)) : OB w w2 v l := by
  refine Kd.R_grown2 h rfl hk ?_
  rintro k ⟨⟩ he
  have := own_base (Kd.own_of_R h) g he.symm
  omega
def SureIs (w : World) (A : Option Addr) (l : List Int) (e : Ending) (w' : World) : Prop :=
  ∃ v A2 c2, e = .returned (.tuple #[v, .slice A2 (run l).2.length c2]) ∧ OB w w' v (run l).1 ∧ (run l).2.length ≤ c2 ∧
    (∀ W', Kd.C (Kd.int .u8) W' A l.length l → Kd.C (Kd.int .u8) W' A2 (run l).2.length (run l).2) ∧ Below w.heap.size w w'
set_option maxHeartbeats 4000000 in
theorem sure_calls (l : List Int) (A : Option Addr) (c : Nat) (w : World) (hp : Kd.C (Kd.int .u8) w A l.length l) (hc : l.length ≤ c) (hN : l.length ≤ 1099511627776) :
    Calls Try.prog 16 #[.slice A l.length c] w (SureIs w A l) := by
  obtain ⟨i0, hi0, _, hsz0, _⟩ := info_parts info5
  obtain ⟨k1, hk1⟩ := (PUtf.pieces_ev l hN).rounds
  have hsz := run_len l
  have hr := run_rest l
  have hs := clean_sure l
  obtain ⟨m, hm, hml, hn0⟩ : ∃ m : Nat, l.length - (run l).2.length = m ∧ m ≤ l.length ∧ (l.length : Int) - ((run l).2.length : Int) = (m : Int) := ⟨_, rfl, by omega, by omega⟩
  rw [hm] at hr hs
  obtain ⟨htake, hT1, htc⟩ := print_take_of (P := Try.prog) (Value.int .u8) 0 22 5 .i64 Try.underlying22 hi0 hsz0 A c l (m : Int) (by omega) (by omega) hc
  obtain ⟨A2, hdrop, hT2, hdc⟩ := print_drop_of (P := Try.prog) (Value.int .u8) 0 22 5 .i64 Try.underlying22 hi0 hsz0 A c l (m : Int) (by omega) (by omega) hc
  rw [Int.toNat_natCast] at htake hT1 htc hdrop hT2 hdc
  have htl : (l.take m).length ≤ 1099511627776 := by rw [List.length_take]; omega
  rw [← hr] at hdrop hT2 hdc
  generalize l.take m = q at htake hT1 htc hs htl
  obtain ⟨k2, hk2⟩ := (PUtf.ref_clean_ev q htl).rounds
  rw [hs] at hk2
  clear hr hs hm
  unfold SureIs
  obtain ⟨o, r, e1⟩ : ∃ o r, run l = (o, r) := ⟨_, _, rfl⟩
  rw [e1] at hk1 hk2 hsz hn0 hdrop hT2 hdc ⊢
  simp only at hk1 hk2 hsz hn0 hdrop hT2 hdc ⊢
  clear e1
  go_enter Try.func16, Try.ntmps16
  go_wp2_with fail
  refine (PUtf.bobbinref01_Pieces.calls k1 A c l _ _ _ w hp hc hk1).mono ?_
  rintro e w1 ⟨v1, v2, rfl, ho1, ho2, hb1⟩
  clear ho1 ho2
  have hb1' : Below w.heap.size w w1.drew := below_drew hb1
  have hC1 : ∀ W : World, Below w.heap.size w W → Kd.C (Kd.int .u8) W A q.length q := fun W hW => Kd.C_of_reads (h1 := fun _ => rfl) (hT1 _ (Kd.reads_of_C (Kd.C_below hp hW)))
  have hwr : IntKind.i64.wrap ((l.length : Int) - (r.length : Int)) = (m : Int) := by rw [hn0]; exact IntWalk.i64_in _ (by omega)
  have hwr2 : IntKind.i64.wrap (m : Int) = (m : Int) := IntWalk.i64_in _ (by omega)
  go_wp2_with fail
  go_region_with (go_at_call 20; refine (PUtf.bobbinref01_Clean.calls k2 A c q _ _ ?_ htc hk2).mono ?_; exact hC1 _ hb1'; rintro e w2 ⟨v3, rfl, ho3, hb3⟩)
  go_wp2_with fail
  go_ret2
  exact ⟨v3, A2, c - m, rfl, Kd.R_lower ho3 hb1'.size, hdc, fun W' hW => Kd.C_of_reads (h1 := fun _ => rfl) (hT2 _ (Kd.reads_of_C hW)), below_then hb1' hb1'.size hb3⟩
end Go.Proofs.Ytdpnnglfaofjeaa.U

import Derived.Test.YtdpnnglfaofjeaaDoorRows
import Derived.Test.YtdpnnglfaofjeaaDoorWMore
import Derived.Deep.Slices
import Derived.ChangeArms
import Derived.ProofKit
import Derived.JoinedCond
namespace Go.Proofs.YtdpnnglfaofjeaaDoor.Opening
open Go.RowKit Go.Deep Go.Proofs.YtdpnnglfaofjeaaDoorW.PrintWords Go.ChangeShapes

theorem one_le {H : Type} (d : DataW H) : 1 ≤ Rows.uptoBulk d := by
  cases d with
  | lit l => cases l <;> simp [Rows.uptoBulk]
  | nil => simp [Rows.uptoBulk]
  | ptr d => simp [Rows.uptoBulk]
  | slice elems spare => simp [Rows.uptoBulk]
  | agg parts => simp [Rows.uptoBulk]
  | iface t d => simp [Rows.uptoBulk]
  | map entries => simp [Rows.uptoBulk]
  | held h => simp [Rows.uptoBulk]

/-- What comes in of type t is of the kind d: it can be read so, it is 'good', and its bulk is no less than told. -/
def Opens {α : Type} (P : Program) (t : Nat) (d : Kd α) (good : α → Prop) (bulk : α → Nat) : Prop :=
  ∀ {H : Type} {enc : TypeId × Value → H} {w : World} {base : Nat} {spare : Nat → Bool} {held : Bool} {fuel : Nat} {cs : List Value} {x : DataW H × List MemPlace},
    DataW.trod enc P w base spare held fuel t cs = some x → ∃ v : α, d.K w v cs ∧ good v ∧ bulk v ≤ Rows.uptoBulk x.1
theorem opens_int {P : Program} {t : Nat} {k : IntKind} (ht : P.underlying t = some (.int k)) : Opens P t (Kd.int k) (fun n => (Lit.int k n).wf = true) (fun _ => 1) := by
  intro H enc w base spare held fuel cs x h
  obtain ⟨n, rfl, rfl, hw⟩ := DataW.trod_int ht h
  exact ⟨n, rfl, hw, one_le _⟩
theorem opens_bool {P : Program} {t : Nat} (ht : P.underlying t = some .bool) : Opens P t Kd.bool (fun _ => True) (fun _ => 1) := by
  intro H enc w base spare held fuel cs x h
  obtain ⟨b, rfl, rfl⟩ := DataW.trod_bool ht h
  exact ⟨b, rfl, trivial, one_le _⟩
theorem opens_string {P : Program} {t : Nat} (ht : P.underlying t = some .string) : Opens P t Kd.string (fun s => s.size ≤ maxLen) (fun s => s.size + 1) := by
  intro H enc w base spare held fuel cs x h
  obtain ⟨s, rfl, rfl, hs⟩ := DataW.trod_string ht h
  refine ⟨s, rfl, hs, ?_⟩
  have e : s.data.toList.length = s.size := data_length s
  simp only [Rows.uptoBulk, e]
  exact Nat.le_refl _
theorem bulk_map {H α : Type} (bulk : α → Nat) (D : Nat → DataW H) (l : List α) : ∀ (m : Nat), l.length = m → (∀ (i : Nat) (v : α), l[i]? = some v → bulk v ≤ Rows.uptoBulk (D i)) → (l.map bulk).sum ≤ Rows.uptoBulkAll ((List.range m).map D) := by
  induction l generalizing D with
  | nil => intro m hm h; simp
  | cons a l ih =>
    intro m hm h
    obtain ⟨m, rfl⟩ : ∃ k, m = k + 1 := ⟨m - 1, by simp at hm; omega⟩
    rw [List.range_succ_eq_map]
    simp only [List.map_cons, List.sum_cons, Rows.uptoBulkAll, List.map_map]
    have h0 := h 0 a rfl
    have h1 := ih (fun i => D (i + 1)) m (by simpa using hm) (fun i v hv => h (i + 1) v (by simpa using hv))
    have e : (D ∘ Nat.succ) = fun i => D (i + 1) := rfl
    rw [e]
    omega
theorem opens_slice {P : Program} {α : Type} {t e : Nat} {d : Kd α} {good : α → Prop} {bulk : α → Nat} (ht : P.underlying t = some (.slice e)) (hsz : P.cellsOf e = d.sz) (h : Opens P e d good bulk) :
    Opens P t (Kd.slice e d) (fun l => l.length ≤ maxLen ∧ ∀ v ∈ l, good v) (fun l => (l.map bulk).sum + 1) := by
  intro H enc w base spare held fuel cs x hx
  rcases open_slice ht hx with ⟨rfl, rfl⟩ | ⟨a, len, cap, m, n, D, Pl, rfl, hb, hlc, hcm, hm, rfl, hi⟩
  · exact ⟨[], ⟨none, 0, rfl, Nat.le_refl _, Kd.C_nil _ _⟩, ⟨Nat.zero_le _, fun v hv => by simp at hv⟩, by simp [Rows.uptoBulk]⟩
  · have hlm : len ≤ m := by rw [hm]; split <;> omega
    have step : ∀ i, i < len → ∃ (v : α) (c : List Value), c.length = d.sz ∧ d.K w v c ∧ good v ∧ bulk v ≤ Rows.uptoBulk (D i) ∧ ∀ j u, c[j]? = some u → w.cell? (a.add (i * d.sz + j)) = some u := by
      intro i hil
      obtain ⟨c, hc, htr⟩ := hi i (by omega)
      obtain ⟨v, hK, hg, hbk⟩ := h htr
      obtain ⟨_, hcl, hat⟩ := World.cells?_some hc
      refine ⟨v, c, by rw [hcl, hsz], hK, hg, hbk, fun j u hu => ?_⟩
      have hj : j < c.length := (List.getElem?_eq_some_iff.1 hu).1
      have := hat j (by omega)
      rw [← Go.Deep.add_add, ← hsz, this, hu]
    have build : ∀ k, k ≤ len → ∃ l : List α, l.length = k ∧ ∀ (i : Nat) (v : α), l[i]? = some v → ∃ c : List Value, c.length = d.sz ∧ d.K w v c ∧ good v ∧ bulk v ≤ Rows.uptoBulk (D i) ∧ ∀ j u, c[j]? = some u → w.cell? (a.add (i * d.sz + j)) = some u := by
      intro k
      induction k with
      | zero => exact fun _ => ⟨[], rfl, fun i v hv => by simp at hv⟩
      | succ k ih =>
        intro hk
        obtain ⟨l, hl, hall⟩ := ih (by omega)
        obtain ⟨v, c, hcv⟩ := step k (by omega)
        refine ⟨l ++ [v], by simp [hl], fun i u hu => ?_⟩
        rcases Nat.lt_or_ge i l.length with h1 | h1
        · rw [List.getElem?_append_left h1] at hu
          exact hall i u hu
        · rw [List.getElem?_append_right h1] at hu
          have h2 : i - l.length = 0 := by
            rcases Nat.eq_zero_or_pos (i - l.length) with h3 | h3
            · exact h3
            · rw [List.getElem?_eq_none (by simp; omega)] at hu
              cases hu
          rw [h2] at hu
          simp at hu
          subst hu
          obtain rfl : i = k := by omega
          exact ⟨c, hcv⟩
    obtain ⟨l, hl, hall⟩ := build len (Nat.le_refl _)
    subst hl
    refine ⟨l, ⟨some a, cap, rfl, hlc, rfl, by simp only [maxLen] at hcm; omega, fun _ => ⟨a, rfl, fun j p hp => ?_⟩⟩, ⟨by omega, fun v hv => ?_⟩, ?_⟩
    · obtain ⟨c, h1, h2, _, _, h5⟩ := hall j p hp
      exact ⟨c, h1, h2, h5⟩
    · obtain ⟨i, hi', rfl⟩ := List.mem_iff_getElem.1 hv
      obtain ⟨c, _, _, h3, _⟩ := hall i _ (List.getElem?_eq_getElem hi')
      exact h3
    · have := bulk_map bulk D l l.length rfl (fun i v hv => by obtain ⟨c, _, _, _, h4, _⟩ := hall i v hv; exact h4)
      simp only [Rows.uptoBulk]
      omega
theorem sum_ones {α : Type} (l : List α) : (l.map fun _ => 1).sum = l.length := by
  induction l with
  | nil => rfl
  | cons a l ih => simp only [List.map_cons, List.sum_cons, ih, List.length_cons]; omega
theorem u8_range {x : Int} (h : (Lit.int .u8 x).wf = true) : 0 ≤ x ∧ x ≤ 255 := by simpa [Lit.wf, IntKind.min, IntKind.max, IntKind.signed, IntKind.bits] using h
theorem u16_range {x : Int} (h : (Lit.int .u16 x).wf = true) : 0 ≤ x ∧ x ≤ 65535 := by simpa [Lit.wf, IntKind.min, IntKind.max, IntKind.signed, IntKind.bits] using h
end Go.Proofs.YtdpnnglfaofjeaaDoor.Opening

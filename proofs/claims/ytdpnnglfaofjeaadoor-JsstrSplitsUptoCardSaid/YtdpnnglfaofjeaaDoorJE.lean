import Derived.Test.YtdpnnglfaofjeaaDoorPJsx1
import Derived.Test.YtdpnnglfaofjeaaDoorVU
namespace Go.Proofs.YtdpnnglfaofjeaaDoor.PJs
open Go.RowKit Go.Proofs.YtdpnnglfaofjeaaDoorW.PrintWords Go.Proofs.YtdpnnglfaofjeaaDoorW.PrintLast Go.Proofs.YtdpnnglfaofjeaaDoorW.PrintMore
open U (dig hexN hexN_small hexN_big)
open PJh (unitJ str_size str_app bytesOf_str dig_range)
open V (textJ chars runeOf)
open PUtf (runes_ev)
set_option linter.unusedVariables false
set_option linter.unusedSimpArgs false
set_option maxRecDepth 100000

theorem wrap64_small {x : Int} (h : -9223372036854775808 ≤ x) (h2 : x ≤ 9223372036854775807) : wrap64 x = x := by unfold wrap64; omega
theorem unitJ_isB (r : Int) : ∀ x ∈ unitJ r, 0 ≤ x ∧ x ≤ 255 := by
  have he : ∀ x ∈ Lib.encodeRuneZ r, 0 ≤ x ∧ x ≤ 255 := by
    intro x hx
    unfold Lib.encodeRuneZ at hx
    split at hx
    · simp at hx; omega
    split at hx
    · simp at hx; omega
    split at hx
    · simp at hx; omega
    split at hx
    · simp at hx; omega
    · simp at hx; omega
  intro x hx
  unfold unitJ at hx
  split at hx
  · simp at hx; omega
  split at hx
  · simp at hx; omega
  split at hx
  · simp at hx; omega
  split at hx
  · simp at hx; omega
  split at hx
  · simp at hx; omega
  split at hx
  · simp at hx; omega
  split at hx
  · simp at hx; omega
  split at hx
  · rename_i h
    unfold PJh.Hexed at h
    have h1 := dig_range (r.toNat / 16) (by omega)
    have h2 := dig_range (r.toNat % 16) (by omega)
    simp only [List.mem_cons, List.not_mem_nil, or_false] at hx
    rcases hx with rfl | rfl | rfl | rfl <;> omega
  · exact he x hx
theorem all_isB (l : List Int) (h : ∀ x ∈ l, 0 ≤ x ∧ x ≤ 255) : (l.all fun x => decide (0 ≤ x) && decide (x ≤ 255)) = true := List.all_eq_true.2 fun x hx => by
  have := h x hx; simp; omega
theorem text_f (l : List Int) (h : ∀ x ∈ l, 0 ≤ x ∧ x ≤ 255) (hl : l.length ≤ 1099511627776) : jsstr_Text.f l = some (textJ l) := by
  unfold jsstr_Text.f
  rw [if_pos ⟨hl, all_isB l h⟩]
theorem ref_text_loop : ∀ (q pre acc : List Int), (∀ x ∈ q, 0 ≤ x ∧ x ≤ 2147483647) → (pre ++ q).length ≤ 4398046511104 → acc.length ≤ 6 * pre.length →
    Ev (fun k => bobbinref06_Text.l0 k (pre ++ q) acc (pre.length : Int)) (strOfNums (acc ++ q.flatMap unitJ))
  | [], pre, acc, hq, hl, ha => by
    refine ⟨1, fun k hk => ?_⟩
    obtain ⟨k, rfl⟩ : ∃ m, k = m + 1 := ⟨k - 1, by omega⟩
    simp [bobbinref06_Text.l0]
  | r :: q, pre, acc, hq, hl, ha => by
    have hr := hq r List.mem_cons_self
    have hu := V.unitJ_len r
    have hb := bytesOf_str _ (unitJ_isB r)
    have hlen : (pre ++ r :: q).length = pre.length + (q.length + 1) := by simp
    have ih := ref_text_loop q (pre ++ [r]) (acc ++ unitJ r) (fun x hx => hq x (List.mem_cons_of_mem _ hx)) (by simpa using hl) (by simp; omega)
    have e1 : (pre ++ [r]) ++ q = pre ++ r :: q := by simp
    have e2 : ((pre ++ [r]).length : Int) = (pre.length : Int) + 1 := by simp
    have e3 : acc ++ (r :: q).flatMap unitJ = acc ++ unitJ r ++ q.flatMap unitJ := by rw [List.flatMap_cons, List.append_assoc]
    rw [e1, e2] at ih
    rw [e3]
    have hrd : rd (pre ++ r :: q) (pre.length : Int) = r := by simp [rd, List.getD_eq_getElem?_getD]
    have hf : bobbinref06_Unit.f r = some (strOfNums (unitJ r)) := by
      unfold bobbinref06_Unit.f
      rw [if_pos ⟨by omega, by omega⟩]
    refine Ev.step (fun k => ?_) ih
    simp only [bobbinref06_Text.l0]
    rw [if_pos (by rw [hlen]; omega), if_pos (by omega), hrd, hf, Option.bind_some, if_pos (by rw [str_size]; omega), hb, wrap64_small (by omega) (by omega)]
theorem rune_range (ch : List Int) (h : V.Form ch) : 0 ≤ runeOf ch ∧ runeOf ch ≤ 2147483647 := by have := V.rune_le h; omega
theorem ref_text_ev (l : List Int) (h : ∀ x ∈ l, 0 ≤ x ∧ x ≤ 255) (hl : l.length ≤ 1048576) : Ev (fun k => bobbinref06_Text.f k l) (strOfNums (textJ l)) := by
  have hch : ∀ ch ∈ chars l, V.Form ch := fun ch hc => V.form_of ch (V.isChar_chars l ch hc) ((V.isB_clean l h).2 ch hc)
  refine Ev.bind (runes_ev l (by omega) h) ?_
  have h1 := V.clean_len' l
  rw [V.clean_chars] at h1
  have h2 := V.flatten_ge (chars l) hch
  have := ref_text_loop ((chars l).map runeOf) [] [] (by intro x hx; obtain ⟨ch, hc, rfl⟩ := List.mem_map.1 hx; exact rune_range ch (hch ch hc)) (by simp; omega) (by simp)
  rw [List.nil_append, List.nil_append, List.flatMap_map] at this
  exact this
theorem awake_true : bobbinlaw06_awake.f = some true := by
  have hc : chars [39] = [[39]] := by
    rw [V.chars_good [39] (by decide) (by rfl) (by rfl)]
    have e1 : (V.firstL [39]).1.toNat = 1 := by rfl
    rw [e1]
    simp [V.chars_nil]
  have ht : textJ [39] = [92, 120, 50, 55] := by
    unfold textJ
    rw [hc]
    rfl
  unfold bobbinlaw06_awake.f
  rw [text_f [39] (by intro x hx; simp at hx; omega) (by simp), Option.bind_some, ht, show ((strOfNums [92, 120, 50, 55]).toList == ([92, 120, 50, 55] : List UInt8)) = true from by decide +kernel]
theorem texts_pure (l : List Int) (h : ∀ x ∈ l, 0 ≤ x ∧ x ≤ 255) (hl : l.length ≤ 1048576) : ∃ k, bobbinlaw06_JsstrTexts.f k l = some true := by
  refine Ev.rounds (Ev.congr (fun k => by unfold bobbinlaw06_JsstrTexts.f; rw [awake_true, text_f l h (by omega)]; simp only [Option.bind_some, if_true]; rfl) (Ev.bind (ref_text_ev l h hl) ?_))
  rw [BEq.rfl]
  exact Ev.now _
theorem units_pure (r : Int) (h0 : -2147483648 ≤ r) (h1 : r ≤ 2147483647) : ∃ k, bobbinlaw06_JsstrUnits.f k r = some true := by
  have hf : bobbinref06_Unit.f (wrap64 r) = some (strOfNums (unitJ r)) := by
    rw [wrap64_small (by omega) (by omega)]
    unfold bobbinref06_Unit.f
    rw [if_pos ⟨by omega, by omega⟩]
  refine Ev.rounds (Ev.congr (fun k => by unfold bobbinlaw06_JsstrUnits.f; rw [awake_true, hf]; simp only [Option.bind_some, if_true]; rfl) (Ev.bind (PJh.unit_ev r h0 h1) ?_))
  rw [BEq.rfl]
  exact Ev.now _
end Go.Proofs.YtdpnnglfaofjeaaDoor.PJs

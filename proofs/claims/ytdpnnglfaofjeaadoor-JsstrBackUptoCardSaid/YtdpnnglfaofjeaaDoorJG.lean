import Derived.Test.YtdpnnglfaofjeaaDoorJF
import Derived.Test.YtdpnnglfaofjeaaDoorJE
namespace Go.Proofs.YtdpnnglfaofjeaaDoor.PJb
open Go.RowKit Go.Proofs.YtdpnnglfaofjeaaDoorW.PrintWords Go.Proofs.YtdpnnglfaofjeaaDoorW.PrintLast Go.Proofs.YtdpnnglfaofjeaaDoorW.PrintMore
open U (dig hexN hexN_small hexN_big)
open PJh (unitJ str_size str_app bytesOf_str dig_range ev_some ev_neg ev_pos utf8_ev)
open V (textJ chars runeOf)
open PUtf (runes_ev ref_clean_ev)
set_option linter.unusedVariables false
set_option linter.unusedSimpArgs false
set_option maxRecDepth 100000

def BadJ (x : Int) : Prop := x = 34 ∨ x = 39 ∨ x = 60 ∨ x = 62 ∨ x = 38 ∨ x = 61 ∨ x = 96 ∨ x = 10 ∨ x = 13 ∨ x = 0
def Ok : Int → List Int → Prop
  | _, [] => True
  | p, x :: t => ¬ BadJ x ∧ (x = 47 → p = 92) ∧ Ok x t
theorem ok_append : ∀ (u t : List Int) (p : Int), Ok p u → (∀ q, Ok q t) → Ok p (u ++ t)
  | [], t, p, h1, h2 => h2 p
  | x :: u, t, p, h1, h2 => ⟨h1.1, h1.2.1, ok_append u t x h1.2.2 h2⟩
theorem ok_plain : ∀ (u : List Int) (p : Int), (∀ x ∈ u, ¬ BadJ x ∧ x ≠ 47) → Ok p u
  | [], p, h => trivial
  | x :: u, p, h => ⟨(h x List.mem_cons_self).1, fun e => absurd e (h x List.mem_cons_self).2, ok_plain u x (fun y hy => h y (List.mem_cons_of_mem _ hy))⟩
theorem dig_ok (d : Nat) (h : d < 16) : ¬ BadJ (dig d) ∧ dig d ≠ 47 := by unfold BadJ dig; split <;> omega
theorem unit_ok (r : Int) (h : 0 ≤ r) (p : Int) : Ok p (unitJ r) := by
  unfold unitJ
  by_cases e1 : r = 92
  · rw [if_pos e1]; exact ok_plain _ _ (by intro x hx; simp at hx; unfold BadJ; omega)
  rw [if_neg e1]
  by_cases e2 : r = 47
  · rw [if_pos e2]; exact ⟨by unfold BadJ; omega, fun h => by omega, by unfold BadJ; omega, fun _ => rfl, trivial⟩
  rw [if_neg e2]
  by_cases e3 : r = 10
  · rw [if_pos e3]; exact ok_plain _ _ (by intro x hx; simp at hx; unfold BadJ; omega)
  rw [if_neg e3]
  by_cases e4 : r = 13
  · rw [if_pos e4]; exact ok_plain _ _ (by intro x hx; simp at hx; unfold BadJ; omega)
  rw [if_neg e4]
  by_cases e5 : r = 9
  · rw [if_pos e5]; exact ok_plain _ _ (by intro x hx; simp at hx; unfold BadJ; omega)
  rw [if_neg e5]
  by_cases e6 : r = 8232
  · rw [if_pos e6]; exact ok_plain _ _ (by intro x hx; simp at hx; unfold BadJ; omega)
  rw [if_neg e6]
  by_cases e7 : r = 8233
  · rw [if_pos e7]; exact ok_plain _ _ (by intro x hx; simp at hx; unfold BadJ; omega)
  rw [if_neg e7]
  by_cases hh : PJh.Hexed r
  · rw [if_pos hh]
    unfold PJh.Hexed at hh
    have h1 := dig_ok (r.toNat / 16) (by omega)
    have h2 := dig_ok (r.toNat % 16) (by omega)
    refine ok_plain _ _ ?_
    intro x hx
    simp only [List.mem_cons, List.not_mem_nil, or_false] at hx
    rcases hx with rfl | rfl | rfl | rfl
    · unfold BadJ; omega
    · unfold BadJ; omega
    · exact h1
    · exact h2
  · rw [if_neg hh]
    unfold PJh.Hexed at hh
    refine ok_plain _ _ ?_
    intro x hx
    unfold Lib.encodeRuneZ at hx
    unfold BadJ
    split at hx
    · simp at hx; omega
    split at hx
    · simp at hx; omega
    split at hx
    · simp at hx; omega
    split at hx
    · simp at hx; omega
    · simp at hx; omega
theorem txt_ok : ∀ (chs : List (List Int)), (∀ ch ∈ chs, V.Form ch) → ∀ p, Ok p (txt chs)
  | [], h, p => trivial
  | ch :: chs, h, p => by
    have e1 : txt (ch :: chs) = unitJ (runeOf ch) ++ txt chs := by unfold txt; rw [List.flatMap_cons]
    rw [e1]
    exact ok_append _ _ _ (unit_ok _ (V.rune_le (h ch List.mem_cons_self)).1 p) (txt_ok chs (fun c hc => h c (List.mem_cons_of_mem _ hc)))
theorem chk_loop {R : Bool} (x0 : List Int) : ∀ (t pre : List Int) (p : Int), Ok p t → (pre.length + t.length ≤ 1099511627776) → (pre = [] → p ≠ 92) → (∀ j, pre.length = j + 1 → pre.getD j 0 = p) →
    Ev (fun k => bobbinlaw06_JsstrBack.l0 k x0 (pre ++ t) ((pre.length + t.length : Nat) : Int)) R → Ev (fun k => bobbinlaw06_JsstrBack.l0 k x0 (pre ++ t) (pre.length : Int)) R
  | [], pre, p, ho, hl, h0, hj, h => by simpa using h
  | x :: t, pre, p, ho, hl, h0, hj, h => by
    rw [List.length_cons] at hl
    obtain ⟨hb, h47, ho'⟩ := ho
    unfold BadJ at hb
    have hr := rd_off pre (x :: t) 0
    rw [Nat.add_zero] at hr
    have r0 : rd (pre ++ x :: t) (pre.length : Int) = x := hr
    have e1 : (pre ++ [x]) ++ t = pre ++ x :: t := by simp
    have ih := chk_loop (R := R) x0 t (pre ++ [x]) x ho' (by simp; omega) (by simp) (by intro j hj'; simp at hj'; subst hj'; simp) (by
      rw [e1, show (((pre ++ [x]).length + t.length : Nat) : Int) = ((pre.length + (x :: t).length : Nat) : Int) from by simp; omega]; exact h)
    rw [e1, show ((pre ++ [x]).length : Int) = (pre.length : Int) + 1 from by simp] at ih
    have hq : (pre.length : Int) < ((pre ++ x :: t).length : Int) := by simp; omega
    refine Ev.step (f := fun k => bobbinlaw06_JsstrBack.j1 k x0 (pre ++ x :: t) (pre.length : Int) x false) (fun k => ?_) (Ev.step (fun k => ?_) ih)
    · simp only [bobbinlaw06_JsstrBack.l0]
      rw [if_pos hq, if_pos (by omega), r0]
      iterate 9 rw [if_neg (by omega)]
      rw [show (x == 0) = false from beq_eq_false_iff_ne.2 (by omega)]
    · simp only [bobbinlaw06_JsstrBack.j1]
      rw [if_neg (by simp)]
      have ew : wrap64 ((pre.length : Int) + 1) = (pre.length : Int) + 1 := w64 (by omega) (by omega)
      by_cases c : x = 47
      · have hp := h47 c
        rw [if_pos c]
        have hne : pre ≠ [] := fun e => h0 e hp
        obtain ⟨j, hjl⟩ : ∃ j, pre.length = j + 1 := ⟨pre.length - 1, by have := List.length_pos_iff.2 hne; omega⟩
        have hg := hj j hjl
        have e2 : wrap64 ((pre.length : Int) - 1) = (j : Int) := by rw [w64 (by omega) (by omega)]; omega
        have e3 : rd (pre ++ x :: t) (j : Int) = 92 := by
          unfold rd
          rw [Int.toNat_natCast, List.getD_eq_getElem?_getD, List.getElem?_append_left (by omega), ← List.getD_eq_getElem?_getD, hg, hp]
        rw [if_neg (by omega), e2, if_pos (by omega), if_pos (by omega), e3, if_pos rfl, ew]
      · rw [if_neg c, ew]
theorem txt_len (chs : List (List Int)) : (txt chs).length ≤ 6 * chs.length := by
  induction chs with
  | nil => simp [txt]
  | cons c cs ih =>
    have := V.unitJ_len (runeOf c)
    unfold txt at ih ⊢
    rw [List.flatMap_cons, List.length_append, List.length_cons]
    omega
theorem text_f (l : List Int) (h : ∀ x ∈ l, 0 ≤ x ∧ x ≤ 255) (hl : l.length ≤ 1099511627776) : jsstr_Text.f l = some (textJ l) := by
  unfold jsstr_Text.f
  rw [if_pos ⟨hl, PJs.all_isB l h⟩]
theorem awake_true : bobbinlaw06_awake.f = some true := by
  have := PJs.awake_true
  exact this
theorem back_pure (l : List Int) (h : ∀ x ∈ l, 0 ≤ x ∧ x ≤ 255) (hl : l.length ≤ 1048576) : ∃ k, bobbinlaw06_JsstrBack.f k l = some true := by
  have hch : ∀ ch ∈ chars l, V.Form ch := fun ch hc => V.form_of ch (V.isChar_chars l ch hc) ((V.isB_clean l h).2 ch hc)
  have h1 := V.clean_len' l
  have hcc := V.clean_chars l
  rw [hcc] at h1
  have h2 := V.flatten_ge (chars l) hch
  have h3 := txt_len (chars l)
  have ht : textJ l = txt (chars l) := rfl
  refine Ev.rounds (Ev.congr (f := fun k => bobbinlaw06_JsstrBack.l0 k l (textJ l) 0) (fun k => by unfold bobbinlaw06_JsstrBack.f; rw [awake_true, text_f l h (by omega)]; simp only [Option.bind_some, if_true]) ?_)
  rw [ht]
  have hrd := read_loop (chars l) [] [] hch (by rw [List.length_nil]; omega) (by rw [List.length_nil]; omega)
  rw [List.nil_append, List.nil_append] at hrd
  have hend : Ev (fun k => bobbinlaw06_JsstrBack.l0 k l ([] ++ txt (chars l)) ((([] : List Int).length + (txt (chars l)).length : Nat) : Int)) true := by
    rw [List.nil_append]
    refine Ev.step (f := fun k => (bobbinlaw06_read.f k (txt (chars l))).bind fun bt150 => _) (fun k => by simp only [bobbinlaw06_JsstrBack.l0]; rw [if_neg (by rw [List.length_nil]; omega)]) (Ev.bind hrd ?_)
    refine ev_pos rfl (Ev.bind (ref_clean_ev l (by omega)) ?_)
    rw [hcc, BEq.rfl]
    exact Ev.now _
  have := chk_loop l (txt (chars l)) [] 0 (txt_ok _ hch 0) (by rw [List.length_nil]; omega) (by omega) (by intro j hj; cases hj) hend
  exact this
end Go.Proofs.YtdpnnglfaofjeaaDoor.PJb

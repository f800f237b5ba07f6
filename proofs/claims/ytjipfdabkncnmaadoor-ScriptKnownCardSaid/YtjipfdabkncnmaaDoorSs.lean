/- The document's Same at rows of acts: it says whether they are the same, for any two rows that are read. -/
import Derived.Test.YtjipfdabkncnmaaDoorSl
/- The document's Same at acts: the same rows, or not. -/
namespace Go.Proofs.YtjipfdabkncnmaaDoor.S
open Go.RowKit Go.Proofs.YtjipfdabkncnmaaDoorW.PrintWords Go.Proofs.YtjipfdabkncnmaaDoorW.PrintLast Go.Proofs.YtjipfdabkncnmaaDoorW.PrintMore
open PScriptTotal (S24 S26 k26 k24 z26 rd_T26)
set_option linter.unusedVariables false
set_option linter.unusedSimpArgs false

theorem wrap64_small {x : Int} (h0 : 0 ≤ x) (h : x < 9223372036854775807) : wrap64 (x + 1) = x + 1 := by
  unfold wrap64; omega
theorem rd_get (l : List Int) (i : Nat) (h : i < l.length) : rd l (i : Int) = l[i] := by
  simp [rd, List.getD, List.getElem?_eq_getElem h]
theorem numbers_l (x y : List Int) (he : x.length = y.length) (hl : x.length ≤ 9223372036854775807) : ∀ k i : Nat, x.length ≤ i + k → i ≤ x.length →
    PScriptTotal.wapentakeref26_numbers.l0 (k + 1) x y (i : Int) = some (decide (x.drop i = y.drop i)) := by
  intro k
  induction k with
  | zero =>
    intro i h1 h2
    have : i = x.length := by omega
    subst this
    simp [PScriptTotal.wapentakeref26_numbers.l0, List.drop_of_length_le, he]
  | succ k ih =>
    intro i h1 h2
    rcases Nat.lt_or_ge i x.length with h | h
    · unfold PScriptTotal.wapentakeref26_numbers.l0
      rw [if_pos (by omega), if_pos (by omega), if_pos (by omega), rd_get x i h, rd_get y i (by omega), wrap64_small (by omega) (by omega)]
      have := ih (i + 1) (by omega) (by omega)
      rw [show (((i + 1 : Nat)) : Int) = (i : Int) + 1 by omega] at this
      have key : (x.drop i = y.drop i) ↔ (x[i] = y[i]'(by omega) ∧ x.drop (i + 1) = y.drop (i + 1)) := by
        rw [List.drop_eq_getElem_cons h, List.drop_eq_getElem_cons (show i < y.length by omega), List.cons.injEq]
      by_cases hh : x[i] = y[i]'(by omega)
      · rw [if_pos hh, this]; simp only [key, hh, true_and]
      · rw [if_neg hh, decide_eq_false (fun e => hh (key.1 e).1)]
    · have : i = x.length := by omega
      subst this
      unfold PScriptTotal.wapentakeref26_numbers.l0
      rw [if_neg (by omega)]
      simp [List.drop_of_length_le, he]
theorem numbers_f (x y : List Int) (k : Nat) (hk : x.length < k) (hl : x.length ≤ 9223372036854775807) : PScriptTotal.wapentakeref26_numbers.f k x y = some (decide (x = y)) := by
  unfold PScriptTotal.wapentakeref26_numbers.f
  by_cases h : x.length = y.length
  · rw [if_pos (by omega)]
    obtain ⟨j, rfl⟩ : ∃ j, k = j + 1 := ⟨k - 1, by omega⟩
    have := numbers_l x y h hl j 0 (by omega) (by omega)
    simpa using this
  · rw [if_neg (by omega)]
    rw [decide_eq_false (fun e => h (by rw [e]))]
noncomputable instance decS26 : DecidableEq S26 := fun a b => Classical.propDecidable (a = b)
noncomputable instance decSAct : DecidableEq SAct := fun a b => Classical.propDecidable (a = b)
theorem S26_eq (a b : S26) (h0 : a.f0 = b.f0) (h1 : a.f1 = b.f1) (h2 : a.f2 = b.f2) (h3 : a.f3.toList = b.f3.toList) (h4 : a.f4.f0 = b.f4.f0) (h5 : a.f4.f1 = b.f4.f1) : a = b := by
  obtain ⟨a0, a1, a2, a3, a4, a5⟩ := a
  obtain ⟨b0, b1, b2, b3, b4, b5⟩ := b
  simp only at h0 h1 h2 h3 h4 h5
  subst h0 h1 h2 h4 h5
  have : a3 = b3 := by
    rw [tl, tl] at h3
    cases a3; cases b3
    simpa using h3
  subst this
  rfl
theorem rd26_get (l : List S26) (i : Nat) (h : i < l.length) : rd_T26 l (i : Int) = l[i] := by
  simp [rd_T26, List.getD, List.getElem?_eq_getElem h]
theorem same_l (x y : List S26) (K : Nat) (he : x.length = y.length) (hl : x.length ≤ 9223372036854775807)
    (hx : ∀ a ∈ x, a.f4.f0.length < K ∧ a.f4.f1.length < K) (hK : ∀ a ∈ x, a.f4.f0.length ≤ 9223372036854775807 ∧ a.f4.f1.length ≤ 9223372036854775807) : ∀ k i : Nat, x.length ≤ i + k → i ≤ x.length →
    PScriptTotal.wapentakeref26_Same.l0 (k + 1 + K) x y (i : Int) = some (decide (x.drop i = y.drop i)) := by
  intro k
  induction k with
  | zero =>
    intro i h1 h2
    have : i = x.length := by omega
    subst this
    rw [show 0 + 1 + K = K + 1 by omega]
    simp [PScriptTotal.wapentakeref26_Same.l0, List.drop_of_length_le, he]
  | succ k ih =>
    intro i h1 h2
    rw [show k + 1 + 1 + K = (k + 1 + K) + 1 by omega]
    rcases Nat.lt_or_ge i x.length with h | h
    · unfold PScriptTotal.wapentakeref26_Same.l0
      rw [if_pos (by omega), if_pos (by omega), if_pos (by omega), rd26_get x i h, rd26_get y i (by omega), wrap64_small (by omega) (by omega)]
      have := ih (i + 1) (by omega) (by omega)
      rw [show (((i + 1 : Nat)) : Int) = (i : Int) + 1 by omega] at this
      have key : (x.drop i = y.drop i) ↔ (x[i] = y[i]'(by omega) ∧ x.drop (i + 1) = y.drop (i + 1)) := by
        rw [List.drop_eq_getElem_cons h, List.drop_eq_getElem_cons (show i < y.length by omega), List.cons.injEq]
      have hm := hx x[i] (List.getElem_mem h)
      have hn := hK x[i] (List.getElem_mem h)
      rw [numbers_f _ _ _ (by omega) (by omega), numbers_f _ _ _ (by omega) (by omega)]
      by_cases hh : x[i] = y[i]'(by omega)
      · simp only [hh, if_true, Option.bind_some, decide_true, this, key, true_and]
      · rw [decide_eq_false (fun e => hh (key.1 e).1)]
        by_cases g0 : x[i].f0 = (y[i]'(by omega)).f0
        · rw [if_pos g0]
          by_cases g1 : x[i].f1 = (y[i]'(by omega)).f1
          · rw [if_pos g1]
            by_cases g2 : x[i].f2 = (y[i]'(by omega)).f2
            · rw [if_pos g2]
              by_cases g3 : x[i].f3.toList = (y[i]'(by omega)).f3.toList
              · rw [if_pos g3]
                by_cases g4 : x[i].f4.f0 = (y[i]'(by omega)).f4.f0
                · by_cases g5 : x[i].f4.f1 = (y[i]'(by omega)).f4.f1
                  · exact absurd (S26_eq _ _ g0 g1 g2 g3 g4 g5) hh
                  · simp [g4, g5]
                · simp [g4]
              · rw [if_neg g3]
            · rw [if_neg g2]
          · rw [if_neg g1]
        · rw [if_neg g0]
    · have : i = x.length := by omega
      subst this
      unfold PScriptTotal.wapentakeref26_Same.l0
      rw [if_neg (by omega)]
      simp [List.drop_of_length_le, he]
theorem mem_le_sum (l : List Nat) (a : Nat) (h : a ∈ l) : a ≤ l.sum := by
  induction l with
  | nil => simp at h
  | cons b r ih =>
    simp only [List.mem_cons] at h
    simp only [List.sum_cons]
    rcases h with rfl | h
    · omega
    · have := ih h; omega
theorem ofS_toS (x : S26) : ∃ a : SAct, x = toS a := ⟨⟨x.f0, x.f1, x.f2, x.f3.data.toList, x.f4.f0, x.f4.f1⟩, by simp [toS]⟩
theorem toS_inj {a b : SAct} (h : toS a = toS b) : a = b := by
  obtain ⟨a0, a1, a2, a3, a4, a5⟩ := a
  obtain ⟨b0, b1, b2, b3, b4, b5⟩ := b
  simp only [toS, PScriptTotal.S26.mk.injEq, PScriptTotal.S24.mk.injEq] at h
  obtain ⟨rfl, rfl, rfl, h3, rfl, rfl⟩ := h
  have : a3 = b3 := by
    have := congrArg (fun x : ByteArray => x.data.toList) h3
    simpa using this
  subst this
  rfl
theorem map_toS_inj {xs ys : List SAct} (h : xs.map toS = ys.map toS) : xs = ys := by
  induction xs generalizing ys with
  | nil => cases ys with
    | nil => rfl
    | cons b s => simp at h
  | cons a r ih =>
    cases ys with
    | nil => simp at h
    | cons b s =>
      simp only [List.map_cons, List.cons.injEq] at h
      rw [toS_inj h.1, ih h.2]
/-- Same at rows of acts that are read. -/
theorem same_any (w : World) (A0 A1 : Option Addr) (c0 c1 : Nat) (xs ys : List SAct) (n0 n1 : Nat) (e0 : n0 = xs.length) (e1 : n1 = ys.length) (hx : Kd.C k26 w A0 n0 (xs.map toS)) (h0 : n0 ≤ c0) (hy : Kd.C k26 w A1 n1 (ys.map toS)) (h1 : n1 ≤ c1) :
    Calls Tryd.prog 11 #[.slice A0 n0 c0, .slice A1 n1 c1] w fun e w' => e = .returned (.bool (decide (xs = ys))) ∧ Below w.heap.size w w' := by
  have hl := hx.2.1
  have hM : ∀ a ∈ xs.map toS, a.f4.f0.length ≤ 9223372036854775807 ∧ a.f4.f1.length ≤ 9223372036854775807 := by
    intro a ha
    obtain ⟨i, hi, rfl⟩ := List.getElem_of_mem ha
    obtain ⟨ad, A4, c4, A5, c5, e, _, _, _, _, _, _, l4, g4, l5, g5⟩ := PScriptTotal.at_T26 hx (i : Int) (by omega) (by have := hx.1; omega)
    rw [rd26_get _ i hi] at g4 g5
    exact ⟨g4.2.1, g5.2.1⟩
  obtain ⟨K, hK⟩ : ∃ K, ∀ a ∈ xs.map toS, a.f4.f0.length < K ∧ a.f4.f1.length < K :=
    ⟨9223372036854775808, fun a ha => by have := hM a ha; omega⟩
  have hf : PScriptTotal.wapentakeref26_Same.f (xs.length + 1 + K) (xs.map toS) (ys.map toS) = some (decide (xs = ys)) := by
    unfold PScriptTotal.wapentakeref26_Same.f
    by_cases h : xs.length = ys.length
    · rw [if_pos (by simp only [List.length_map]; omega)]
      have := same_l (xs.map toS) (ys.map toS) K (by simpa using h) (by simp; omega) hK hM xs.length 0 (by simp) (by simp)
      rw [show ((0 : Nat) : Int) = 0 from rfl] at this
      rw [this]
      simp only [List.drop_zero]
      congr 1
      by_cases hh : xs = ys
      · subst hh; simp
      · rw [decide_eq_false hh, decide_eq_false (fun e => hh (map_toS_inj e))]
    · rw [if_neg (by simp only [List.length_map]; omega), decide_eq_false (fun e => h (by rw [e]))]
  subst e0 e1
  have e0 : xs.length = (xs.map toS).length := by simp
  have e1 : ys.length = (ys.map toS).length := by simp
  have := PScriptTotal.wapentakeref26_Same.calls (xs.length + 1 + K) A0 c0 (xs.map toS) A1 c1 (ys.map toS) _ w (by rw [← e0]; exact hx) (by rw [← e0]; exact h0) (by rw [← e1]; exact hy) (by rw [← e1]; exact h1) hf
  rw [← e0, ← e1] at this
  exact this
end Go.Proofs.YtjipfdabkncnmaaDoor.S

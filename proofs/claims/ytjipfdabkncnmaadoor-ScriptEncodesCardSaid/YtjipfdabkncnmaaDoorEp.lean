/- The document's Plain is the plain model's, for any act. -/
import Derived.Test.YtjipfdabkncnmaaDoorQb
import Derived.Test.YtjipfdabkncnmaaDoorSs
namespace Go.Proofs.YtjipfdabkncnmaaDoor.S
open Go.RowKit Go.Proofs.YtjipfdabkncnmaaDoorW.PrintWords Go.Proofs.YtjipfdabkncnmaaDoorW.PrintLast Go.Proofs.YtjipfdabkncnmaaDoorW.PrintMore
open PScriptTotal (S24 S26 k26 k24 z26 rd_T26 wapentakeref26_Plain.f wapentakeref26_Plain.j0 wapentakeref26_Plain.j1 wapentakeref26_Plain.j3 wapentakeref26_Plain.j4 wapentakeref26_Plain.j5 wapentakeref26_Plain.l0 wapentakeref26_byteOf.f)
set_option linter.unusedVariables false
set_option linter.unusedSimpArgs false

theorem byteOf_f (n : Int) : wapentakeref26_byteOf.f n = some (byteOf n) := by
  unfold wapentakeref26_byteOf.f byteOf
  by_cases h : n ≥ 0
  · rw [if_pos h]
    by_cases h2 : n < 256
    · rw [decide_eq_true h2, decide_eq_true ⟨h, h2⟩]
    · rw [decide_eq_false h2, decide_eq_false (fun e => h2 e.2)]
  · rw [if_neg h, decide_eq_false (fun e => h e.1)]
/-- what Plain answers at last. -/
def fin (x3 x4 x6 : Bool) (kind node n : Int) (t : List UInt8) : Bool :=
  if kind = 1 then x3 && decide (n = 0) && decide (t.length < 65536) && x6
  else if kind = 2 ∨ kind = 3 ∨ kind = 4 then decide (node = 0) && byteOf n && t.isEmpty && x6
  else if kind = 5 then x3 && byteOf n && t.isEmpty && x6
  else if kind = 6 then x3 && byteOf n && t.isEmpty && x4
  else if kind = 7 then x3 && decide (n = 0) && t.isEmpty && x4
  else if kind = 8 then x3 && decide (n = 0) && t.isEmpty && x6
  else if kind = 9 then decide (node < 32) && byteOf n && t.isEmpty && x6
  else false
theorem plain_fin (a : SAct) : plain a = fin (nodeOk a) (crashOk a) (bare a) a.kind a.node a.n a.text := rfl
theorem bsz (t : List UInt8) : (⟨t.toArray⟩ : ByteArray).size = t.length := by simp [ByteArray.size]
theorem pl_j5 (k : Nat) (x3 x4 x6 : Bool) (kind node n : Int) (t : List UInt8) (kp tn : List Int) (h1 : ¬ kind = 1) (b : Bool) (hb : b = decide (kind = 2 ∨ kind = 3 ∨ kind = 4)) :
    wapentakeref26_Plain.j5 (k + 1) x3 x4 x6 kind b kind node n ⟨t.toArray⟩ kp tn = some (fin x3 x4 x6 kind node n t) := by
  subst hb
  have ht : (⟨t.toArray⟩ : ByteArray).toList = t := by rw [tl]
  rw [wapentakeref26_Plain.j5]
  unfold fin
  rw [if_neg h1, ht]
  simp only [byteOf_f, Option.bind_some]
  by_cases h2 : kind = 2 ∨ kind = 3 ∨ kind = 4
  · rw [if_pos (decide_eq_true h2), if_pos h2]
    by_cases hn : node = 0 <;> cases byteOf n <;> cases t <;> simp [hn]
  · rw [if_neg (by simpa using h2), if_neg h2]
    by_cases h5 : kind = 5
    · simp only [h5, if_true]; cases x3 <;> cases byteOf n <;> cases t <;> simp
    · simp only [h5, if_false]
      by_cases h6 : kind = 6
      · simp only [h6, if_true]; cases x3 <;> cases byteOf n <;> cases t <;> simp
      · simp only [h6, if_false]
        by_cases h7 : kind = 7
        · simp only [h7, if_true]; by_cases hn : n = 0 <;> cases x3 <;> cases t <;> simp [hn]
        · simp only [h7, if_false]
          by_cases h8 : kind = 8
          · simp only [h8, if_true]; by_cases hn : n = 0 <;> cases x3 <;> cases t <;> simp [hn]
          · simp only [h8, if_false]
            by_cases h9 : kind = 9
            · simp only [h9, if_true]; by_cases hn : node < 32 <;> cases byteOf n <;> cases t <;> simp [hn]
            · simp only [h9, if_false]
theorem pl_j4 (k : Nat) (x3 x4 x6 : Bool) (kind node n : Int) (t : List UInt8) (kp tn : List Int) :
    wapentakeref26_Plain.j4 (k + 2) x3 x4 x6 kind node n ⟨t.toArray⟩ kp tn = some (fin x3 x4 x6 kind node n t) := by
  rw [wapentakeref26_Plain.j4]
  by_cases h1 : kind = 1
  · rw [if_pos h1, bsz]
    unfold fin
    rw [if_pos h1]
    by_cases hn : n = 0 <;> by_cases hl : t.length < 65536 <;> cases x3 <;> simp [hn, hl] <;> omega
  · rw [if_neg h1]
    by_cases h2 : kind = 2
    · rw [if_pos h2]; exact pl_j5 k x3 x4 x6 kind node n t kp tn h1 _ (by simp [h2])
    · rw [if_neg h2]
      by_cases h3 : kind = 3
      · rw [if_pos h3]; exact pl_j5 k x3 x4 x6 kind node n t kp tn h1 _ (by simp [h3])
      · rw [if_neg h3]; exact pl_j5 k x3 x4 x6 kind node n t kp tn h1 _ (by by_cases h4 : kind = 4 <;> simp [h2, h3, h4])
theorem pl_rest (k : Nat) (x3 : Bool) (x5 : Int) (x4 : Bool) (kind node n : Int) (t : List UInt8) (kp tn : List Int) :
    wapentakeref26_Plain.j3 (k + 3) x3 x4 x5 false kind node n ⟨t.toArray⟩ kp tn = some (fin x3 x4 (kp.isEmpty && tn.isEmpty) kind node n t) := by
  rw [wapentakeref26_Plain.j3]
  rw [if_neg (by decide)]
  by_cases h : (kp.length : Int) = 0
  · rw [if_pos h, pl_j4]
    have e : kp = [] := List.eq_nil_of_length_eq_zero (by omega)
    subst e
    congr 2
    cases tn <;> simp; omega
  · rw [if_neg h, pl_j4]
    cases kp with
    | nil => simp at h
    | cons a r => rfl
theorem pl_loop (x3 : Bool) (kind node n : Int) (t : List UInt8) (kp tn : List Int) (hl : kp.length ≤ 9223372036854775807) (c : Nat) : ∀ m i : Nat, i + m = kp.length → ∀ x4 : Bool, (x4 = true → kp.length = tn.length) →
    wapentakeref26_Plain.l0 (2 * m + 4 + c) x3 x4 (i : Int) kind node n ⟨t.toArray⟩ kp tn = some (fin x3 (x4 && ((kp.drop i).all byteOf && (tn.drop i).all byteOf)) (kp.isEmpty && tn.isEmpty) kind node n t) := by
  intro m
  induction m with
  | zero =>
    intro i hi x4 hx
    rw [show 2 * 0 + 4 + c = (c + 3) + 1 by omega]
    rw [wapentakeref26_Plain.l0]
    rw [if_neg (by omega), pl_rest]
    congr 2
    cases x4 with
    | false => rfl
    | true =>
      have := hx rfl
      rw [List.drop_eq_nil_of_le (by omega), List.drop_eq_nil_of_le (by omega)]; rfl
  | succ m ih =>
    intro i hi x4 hx
    rw [show 2 * (m + 1) + 4 + c = (2 * m + 4 + c) + 1 + 1 by omega]
    rw [wapentakeref26_Plain.l0]
    rw [if_pos (by omega)]
    cases x4 with
    | false =>
      rw [show 2 * m + 4 + c + 1 = (2 * m + 2 + c) + 3 by omega, pl_rest]; rfl
    | true =>
      have he := hx rfl
      rw [wapentakeref26_Plain.j3]
      rw [if_pos rfl, if_pos (by omega), if_pos (by omega), rd_get kp i (by omega), byteOf_f, Option.bind_some, wrap64_small (by omega) (by omega)]
      have hk : kp.drop i = kp[i]'(by omega) :: kp.drop (i + 1) := List.drop_eq_getElem_cons (by omega)
      have ht : tn.drop i = tn[i]'(by omega) :: tn.drop (i + 1) := List.drop_eq_getElem_cons (by omega)
      rw [show ((i : Int) + 1) = ((i + 1 : Nat) : Int) by omega]
      cases hb : byteOf (kp[i]'(by omega)) with
      | false =>
        rw [if_neg (by decide), ih (i + 1) (by omega) false (by intro h; cases h)]
        rw [hk, List.all_cons, hb]; rfl
      | true =>
        rw [if_pos rfl, if_pos (by omega), rd_get tn i (by omega), byteOf_f, Option.bind_some, ih (i + 1) (by omega) _ (fun _ => he)]
        rw [hk, ht]; simp only [List.all_cons, hb, Bool.true_and]
        cases byteOf (tn[i]'(by omega)) <;> simp
/-- the document's Plain is the model's. -/
theorem plain_f (a : SAct) (c : Nat) (hl : a.keep.length ≤ 9223372036854775807) : wapentakeref26_Plain.f (2 * a.keep.length + 6 + c) a.kind a.node a.n ⟨a.text.toArray⟩ a.keep a.torn = some (plain a) := by
  rw [plain_fin, show 2 * a.keep.length + 6 + c = (2 * a.keep.length + 4 + c) + 1 + 1 by omega]
  have hj : ∀ x3 x4 : Bool, (x4 = true → a.keep.length = a.torn.length) → wapentakeref26_Plain.j1 (2 * a.keep.length + 4 + c + 1) x3 x4 a.kind a.node a.n ⟨a.text.toArray⟩ a.keep a.torn = some (fin x3 (x4 && (a.keep.all byteOf && a.torn.all byteOf)) (bare a) a.kind a.node a.n a.text) := by
    intro x3 x4 hx
    rw [wapentakeref26_Plain.j1]
    exact pl_loop x3 a.kind a.node a.n a.text a.keep a.torn hl c a.keep.length 0 (by omega) x4 hx
  have hj0 : ∀ x3 : Bool, wapentakeref26_Plain.j0 (2 * a.keep.length + 4 + c + 1 + 1) x3 a.kind a.node a.n ⟨a.text.toArray⟩ a.keep a.torn = some (fin x3 (crashOk a) (bare a) a.kind a.node a.n a.text) := by
    intro x3
    rw [wapentakeref26_Plain.j0]
    unfold crashOk
    by_cases h8 : a.keep.length < 8
    · rw [if_pos (by omega), hj _ _ (fun h => by simp at h; omega)]
      congr 2
      rw [decide_eq_true h8]
      by_cases he : a.keep.length = a.torn.length
      · simp [he]
      · have : ((a.keep.length : Int) == (a.torn.length : Int)) = false := by simp; omega
        simp [he, this]
    · rw [if_neg (by omega), hj _ _ (fun h => by cases h)]
      congr 2
      simp [h8]
  unfold wapentakeref26_Plain.f nodeOk
  by_cases h1 : a.node ≥ 1
  · rw [if_pos h1, hj0]
    congr 2
    by_cases h5 : a.node ≤ 5 <;> simp [h5] <;> omega
  · rw [if_neg h1, hj0]
    congr 2
    simp; omega
end Go.Proofs.YtjipfdabkncnmaaDoor.S

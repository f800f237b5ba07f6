/- Great answers, walked; where it says no, the acts are few and small: for any row of acts that is read. -/
import Derived.Test.YtjipfdabkncnmaaDoorQa
import Derived.Test.YtjipfdabkncnmaaDoorSs
namespace Go.Proofs.YtjipfdabkncnmaaDoor.S
open Go.RowKit Go.Proofs.YtjipfdabkncnmaaDoorW.PrintWords Go.Proofs.YtjipfdabkncnmaaDoorW.PrintLast Go.Proofs.YtjipfdabkncnmaaDoorW.PrintMore
open PScriptTotal (S24 S26 k26 k24 z26 rd_T26 wapentakelaw26_Great.f wapentakelaw26_Great.l0)
set_option linter.unusedVariables false
set_option linter.unusedSimpArgs false

theorem bsz (t : List UInt8) : (⟨t.toArray⟩ : ByteArray).size = t.length := by simp [ByteArray.size]
theorem wrap64_id {x : Int} (h : -9223372036854775808 ≤ x) (h2 : x ≤ 9223372036854775807) : wrap64 x = x := by
  unfold wrap64; omega
theorem pairs_le (kp tn : List Int) : (pairs kp tn).length ≤ 2 * kp.length := by
  induction kp generalizing tn with
  | nil => simp [pairs]
  | cons a r ih => cases tn with
    | nil => simp [pairs]
    | cons b s => have := ih s; simp [pairs]; omega
/-- what an act holds where the acts are not great. -/
def ok (a : SAct) : Prop := (0 ≤ a.node ∧ a.node < 256 ∧ 0 ≤ a.kind ∧ a.kind < 256) ∧ a.text.length ≤ 12000 ∧ a.keep.length ≤ 12000
theorem rd26_S (xs : List SAct) (i : Nat) (h : i < xs.length) : rd_T26 (xs.map toS) (i : Int) = toS xs[i] := by
  rw [rd26_get _ i (by simpa using h)]; simp
theorem encAll_le (xs : List SAct) (h : ∀ a ∈ xs, ok a) : (encAll xs).length ≤ xs.length * 40000 := by
  induction xs with
  | nil => simp [encAll]
  | cons a r ih =>
    have h1 := ih (fun b hb => h b (by simp [hb]))
    have h2 := h a (by simp)
    have h3 : (bytesOf a).length ≤ 40000 := by
      have := pairs_le a.keep a.torn
      have e1 := h2.2.1
      have e2 := h2.2.2
      unfold bytesOf crashBytes
      simp only [List.length_cons]
      (repeat' split) <;> simp <;> omega
    simp only [encAll, List.flatMap_cons, List.length_append, List.length_cons] at *
    omega
theorem great_loop (xs : List SAct) (hl : xs.length ≤ 450) (c : Nat) : ∀ m i : Nat, i + m = xs.length → ∀ x3 : Int, 0 ≤ x3 → x3 ≤ 36000 * i →
    ∃ b, wapentakelaw26_Great.l0 (m + 1 + c) (xs.map toS) x3 (i : Int) = some b ∧ (b = false → ∀ a ∈ xs.drop i, a.text.length ≤ 12000 ∧ a.keep.length ≤ 12000) := by
  intro m
  induction m with
  | zero =>
    intro i hi x3 h0 h3
    rw [show 0 + 1 + c = c + 1 by omega, wapentakelaw26_Great.l0]
    rw [if_neg (by simp; omega)]
    exact ⟨_, rfl, fun _ a ha => by rw [List.drop_eq_nil_of_le (by omega)] at ha; cases ha⟩
  | succ m ih =>
    intro i hi x3 h0 h3
    have hil : i < xs.length := by omega
    rw [show m + 1 + 1 + c = (m + 1 + c) + 1 by omega, wapentakelaw26_Great.l0]
    rw [if_pos (by simp; omega), if_pos (by omega), rd26_S xs i hil]
    have hs : (toS xs[i]).f3.size = xs[i].text.length := bsz _
    have hk : (toS xs[i]).f4.f0.length = xs[i].keep.length := rfl
    generalize toS xs[i] = q at *
    by_cases h1 : (q.f3.size : Int) > 12000
    · rw [if_pos h1]; exact ⟨_, rfl, fun h => by cases h⟩
    · rw [if_neg h1]
      by_cases h2 : (q.f4.f0.length : Int) > 12000
      · rw [if_pos h2]; exact ⟨_, rfl, fun h => by cases h⟩
      · rw [if_neg h2]
        by_cases h4 : (q.f4.f1.length : Int) > 12000
        · rw [if_pos h4]; exact ⟨_, rfl, fun h => by cases h⟩
        · rw [if_neg h4, wrap64_id (x := x3 + _) (by omega) (by omega), wrap64_id (x := x3 + _ + _) (by omega) (by omega), wrap64_id (x := x3 + _ + _ + _) (by omega) (by omega), wrap64_small (by omega) (by omega), show ((i : Int) + 1) = ((i + 1 : Nat) : Int) by omega]
          obtain ⟨b, e, hb⟩ := ih (i + 1) (by omega) (x3 + q.f3.size + q.f4.f0.length + q.f4.f1.length) (by omega) (by omega)
          refine ⟨b, e, fun h a ha => ?_⟩
          rw [List.drop_eq_getElem_cons hil, List.mem_cons] at ha
          rcases ha with rfl | ha
          · omega
          · exact hb h a ha
/-- Great answers; where it says no, the acts are few and small. -/
theorem great_f (xs : List SAct) : ∃ b, wapentakelaw26_Great.f 452 (xs.map toS) = some b ∧ (b = false → xs.length ≤ 450 ∧ ∀ a ∈ xs, a.text.length ≤ 12000 ∧ a.keep.length ≤ 12000) := by
  unfold wapentakelaw26_Great.f
  by_cases h : xs.length ≤ 450
  · rw [if_neg (by simp; omega)]
    obtain ⟨b, e, hb⟩ := great_loop xs h (451 - xs.length) xs.length 0 (by omega) 0 (by omega) (by omega)
    rw [show xs.length + 1 + (451 - xs.length) = 452 by omega] at e
    exact ⟨b, e, fun hh => ⟨h, hb hh⟩⟩
  · rw [if_pos (by simp; omega)]
    exact ⟨_, rfl, fun h => by cases h⟩
theorem great_any (w : World) (A : Option Addr) (n c : Nat) (xs : List SAct) (hn : n = xs.length) (hC : Kd.C k26 w A n (xs.map toS)) (hc : n ≤ c) :
    Calls Tryd.prog 15 #[.slice A n c] w fun e w' => ∃ b, e = .returned (.bool b) ∧ (b = false → xs.length ≤ 450 ∧ ∀ a ∈ xs, a.text.length ≤ 12000 ∧ a.keep.length ≤ 12000) ∧ Below w.heap.size w w' := by
  subst hn
  obtain ⟨b, hf, hb⟩ := great_f xs
  have hl : (xs.map toS).length = xs.length := by simp
  have := PScriptTotal.wapentakelaw26_Great.calls 452 A c (xs.map toS) b w (by rw [hl]; exact hC) (by rw [hl]; exact hc) hf
  rw [hl] at this
  refine this.mono ?_
  rintro e w' ⟨rfl, hw⟩
  exact ⟨b, rfl, hb, hw⟩
end Go.Proofs.YtjipfdabkncnmaaDoor.S

/- The document's Bytes, Encode and Great are the plain model's, for acts that are not great. -/
import Derived.Test.YtjipfdabkncnmaaDoorQe
import Derived.Test.YtjipfdabkncnmaaDoorEp
namespace Go.Proofs.YtjipfdabkncnmaaDoor.S
open Go.RowKit Go.Proofs.YtjipfdabkncnmaaDoorW.PrintWords Go.Proofs.YtjipfdabkncnmaaDoorW.PrintLast Go.Proofs.YtjipfdabkncnmaaDoorW.PrintMore
open PScriptTotal (S24 S26 k26 k24 z26 rd_T26 wapentakeref26_Plain.f wapentakeref26_Bytes.f wapentakeref26_Encode.f wapentakeref26_Encode.l0 wapentakelaw26_Great.f wapentakelaw26_Great.l0)
set_option linter.unusedVariables false
set_option linter.unusedSimpArgs false

/-- bytes as a text. -/
def tx (l : List UInt8) : ByteArray := ⟨l.toArray⟩
theorem tx_app (l m : List UInt8) : tx l ++ tx m = tx (l ++ m) := by
  apply ByteArray.ext
  simp [tx]
theorem tx_size (l : List UInt8) : (tx l).size = l.length := by simp [tx, ByteArray.size]
theorem wrap64_id {x : Int} (h : -9223372036854775808 ≤ x) (h2 : x ≤ 9223372036854775807) : wrap64 x = x := by
  unfold wrap64; omega
theorem bytes_f (a : SAct) (c : Nat) (hk : 0 ≤ a.kind ∧ a.kind < 256) (hn : 0 ≤ a.node ∧ a.node < 256) (ht : a.text.length ≤ 100000) (hl : a.keep.length ≤ 20000) :
    wapentakeref26_Bytes.f (2 * a.keep.length + 2 + c) a.kind a.node a.n (tx a.text) a.keep a.torn = some (tx (bytesOf a)) := by
  unfold wapentakeref26_Bytes.f
  rw [if_pos ⟨hk, hn, by simpa [tx] using ht, hl⟩]
  rfl

/-- what an act holds where the acts are not great. -/
def ok (a : SAct) : Prop := (0 ≤ a.node ∧ a.node < 256 ∧ 0 ≤ a.kind ∧ a.kind < 256) ∧ a.text.length ≤ 12000 ∧ a.keep.length ≤ 12000
theorem rd26_S (xs : List SAct) (i : Nat) (h : i < xs.length) : rd_T26 (xs.map toS) (i : Int) = toS xs[i] := by
  rw [rd26_get _ i (by simpa using h)]; simp
theorem encAll_le (xs : List SAct) (h : ∀ a ∈ xs, ok a) : (encAll xs).length ≤ xs.length * 40000 := by
  induction xs with
  | nil => simp [encAll]
  | cons a r ih =>
    have h1 := ih (fun b hb => h b (by simp [hb]))
    have h2 := h a (by simp)
    have h3 : (bytesOf a).length ≤ 40000 := by
      have := pairs_le a.keep a.torn
      have e1 := h2.2.1
      have e2 := h2.2.2
      unfold bytesOf crashBytes
      simp only [List.length_cons]
      (repeat' split) <;> simp <;> omega
    simp only [encAll, List.flatMap_cons, List.length_append, List.length_cons] at *
    omega
theorem enc_loop (xs : List SAct) (hx : ∀ a ∈ xs, ok a) (hl : xs.length ≤ 1000) (c : Nat) : ∀ m i : Nat, i + m = xs.length → (∀ a ∈ xs.take i, plain a = true) →
    wapentakeref26_Encode.l0 (m + 1 + 24006 + c) (xs.map toS) (tx (encAll (xs.take i))) (i : Int) = some (if xs.all plain then (tx (encAll xs), 0) else (tx [], 1)) := by
  intro m
  induction m with
  | zero =>
    intro i hi hp
    rw [show 0 + 1 + 24006 + c = (24006 + c) + 1 by omega, wapentakeref26_Encode.l0]
    rw [if_neg (by simp; omega), List.take_of_length_le (by omega)] at *
    rw [if_pos (by rw [List.all_eq_true]; exact hp)]
  | succ m ih =>
    intro i hi hp
    have hil : i < xs.length := by omega
    rw [show m + 1 + 1 + 24006 + c = (m + 1 + 24006 + c) + 1 by omega, wapentakeref26_Encode.l0]
    rw [if_pos (by simp; omega), if_pos (by omega), rd26_S xs i hil]
    have ha := hx xs[i] (List.getElem_mem hil)
    obtain ⟨⟨a1, a2, a3, a4⟩, a5, a6⟩ := ha
    have hpf := plain_f xs[i] (m + 1 + 24006 + c - (2 * xs[i].keep.length + 6)) (by omega)
    rw [show 2 * xs[i].keep.length + 6 + (m + 1 + 24006 + c - (2 * xs[i].keep.length + 6)) = m + 1 + 24006 + c by omega] at hpf
    have hbf := bytes_f xs[i] (m + 1 + 24006 + c - (2 * xs[i].keep.length + 2)) ⟨a3, a4⟩ ⟨a1, a2⟩ (by omega) (by omega)
    rw [show 2 * xs[i].keep.length + 2 + (m + 1 + 24006 + c - (2 * xs[i].keep.length + 2)) = m + 1 + 24006 + c by omega] at hbf
    simp only [toS]
    rw [hpf, Option.bind_some]
    have ht : xs.take (i + 1) = xs.take i ++ [xs[i]] := List.take_succ_eq_append_getElem hil
    cases hpl : plain xs[i] with
    | true =>
      rw [if_pos rfl]
      have hsz : (encAll (xs.take i)).length ≤ 40000000 := by
        have := encAll_le (xs.take i) (fun a h => hx a (List.mem_of_mem_take h))
        simp only [List.length_take] at this
        have : min i xs.length ≤ 1000 := by omega
        omega
      have hsb : (bytesOf xs[i]).length ≤ 40000 := by
        have := encAll_le [xs[i]] (by simp; exact hx _ (List.getElem_mem hil))
        simpa [encAll] using this
      show (wapentakeref26_Bytes.f _ xs[i].kind xs[i].node xs[i].n (tx xs[i].text) xs[i].keep xs[i].torn).bind _ = _
      rw [hbf, Option.bind_some, tx_size, tx_size, if_pos (by omega), tx_app, wrap64_small (by omega) (by omega), show ((i : Int) + 1) = ((i + 1 : Nat) : Int) by omega]
      have e : encAll (xs.take i) ++ bytesOf xs[i] = encAll (xs.take (i + 1)) := by rw [ht]; simp only [encAll, List.flatMap_append, List.flatMap_cons, List.flatMap_nil, List.append_nil]
      rw [e]
      refine ih (i + 1) (by omega) (fun a h => ?_)
      rw [ht, List.mem_append, List.mem_singleton] at h
      rcases h with h | rfl
      · exact hp a h
      · exact hpl
    | false =>
      rw [if_neg (by decide)]
      have : xs.all plain = false := by
        rw [Bool.eq_false_iff]
        intro hh
        rw [List.all_eq_true] at hh
        rw [hh _ (List.getElem_mem hil)] at hpl; cases hpl
      rw [this]; rfl
theorem encode_f (xs : List SAct) (hx : ∀ a ∈ xs, ok a) (hl : xs.length ≤ 1000) (c : Nat) : wapentakeref26_Encode.f (xs.length + 1 + 24006 + c) (xs.map toS) = some (tx (encode xs).1, (encode xs).2) := by
  unfold wapentakeref26_Encode.f encode
  by_cases h : 400 < xs.length
  · rw [if_pos (by simp; omega), if_pos h]; rfl
  · rw [if_neg (by simp; omega), if_neg h]
    have := enc_loop xs hx hl c xs.length 0 (by omega) (by simp)
    refine Eq.trans this ?_
    cases xs.all plain <;> rfl
theorem great_loop (xs : List SAct) (hl : xs.length ≤ 450) (c : Nat) : ∀ m i : Nat, i + m = xs.length → ∀ x3 : Int, 0 ≤ x3 → x3 ≤ 36000 * i →
    ∃ b, wapentakelaw26_Great.l0 (m + 1 + c) (xs.map toS) x3 (i : Int) = some b ∧ (b = false → ∀ a ∈ xs.drop i, a.text.length ≤ 12000 ∧ a.keep.length ≤ 12000) := by
  intro m
  induction m with
  | zero =>
    intro i hi x3 h0 h3
    rw [show 0 + 1 + c = c + 1 by omega, wapentakelaw26_Great.l0]
    rw [if_neg (by simp; omega)]
    exact ⟨_, rfl, fun _ a ha => by rw [List.drop_eq_nil_of_le (by omega)] at ha; cases ha⟩
  | succ m ih =>
    intro i hi x3 h0 h3
    have hil : i < xs.length := by omega
    rw [show m + 1 + 1 + c = (m + 1 + c) + 1 by omega, wapentakelaw26_Great.l0]
    rw [if_pos (by simp; omega), if_pos (by omega), rd26_S xs i hil]
    have hs : (toS xs[i]).f3.size = xs[i].text.length := bsz _
    have hk : (toS xs[i]).f4.f0.length = xs[i].keep.length := rfl
    generalize toS xs[i] = q at *
    by_cases h1 : (q.f3.size : Int) > 12000
    · rw [if_pos h1]; exact ⟨_, rfl, fun h => by cases h⟩
    · rw [if_neg h1]
      by_cases h2 : (q.f4.f0.length : Int) > 12000
      · rw [if_pos h2]; exact ⟨_, rfl, fun h => by cases h⟩
      · rw [if_neg h2]
        by_cases h4 : (q.f4.f1.length : Int) > 12000
        · rw [if_pos h4]; exact ⟨_, rfl, fun h => by cases h⟩
        · rw [if_neg h4, wrap64_id (x := x3 + _) (by omega) (by omega), wrap64_id (x := x3 + _ + _) (by omega) (by omega), wrap64_id (x := x3 + _ + _ + _) (by omega) (by omega), wrap64_small (by omega) (by omega), show ((i : Int) + 1) = ((i + 1 : Nat) : Int) by omega]
          obtain ⟨b, e, hb⟩ := ih (i + 1) (by omega) (x3 + q.f3.size + q.f4.f0.length + q.f4.f1.length) (by omega) (by omega)
          refine ⟨b, e, fun h a ha => ?_⟩
          rw [List.drop_eq_getElem_cons hil, List.mem_cons] at ha
          rcases ha with rfl | ha
          · omega
          · exact hb h a ha
/-- Great answers; where it says no, the acts are few and small. -/
theorem great_f (xs : List SAct) : ∃ b, wapentakelaw26_Great.f 452 (xs.map toS) = some b ∧ (b = false → xs.length ≤ 450 ∧ ∀ a ∈ xs, a.text.length ≤ 12000 ∧ a.keep.length ≤ 12000) := by
  unfold wapentakelaw26_Great.f
  by_cases h : xs.length ≤ 450
  · rw [if_neg (by simp; omega)]
    obtain ⟨b, e, hb⟩ := great_loop xs h (451 - xs.length) xs.length 0 (by omega) 0 (by omega) (by omega)
    rw [show xs.length + 1 + (451 - xs.length) = 452 by omega] at e
    exact ⟨b, e, fun hh => ⟨h, hb hh⟩⟩
  · rw [if_pos (by simp; omega)]
    exact ⟨_, rfl, fun h => by cases h⟩
end Go.Proofs.YtjipfdabkncnmaaDoor.S

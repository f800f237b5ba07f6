/- The document's Bytes, Encode and Great are the plain model's, for acts that are not great. -/
import Derived.Test.YtjipfdabkncnmaaDoorQe
import Derived.Test.YtjipfdabkncnmaaDoorEp
namespace Go.Proofs.YtjipfdabkncnmaaDoor.S
open Go.RowKit Go.Proofs.YtjipfdabkncnmaaDoorW.PrintWords Go.Proofs.YtjipfdabkncnmaaDoorW.PrintLast Go.Proofs.YtjipfdabkncnmaaDoorW.PrintMore
open PScriptTotal (S24 S26 k26 k24 z26 rd_T26 wapentakeref26_Plain.f wapentakeref26_Bytes.f wapentakeref26_Bytes.j1 wapentakeref26_Bytes.l0 wapentakeref26_one.f wapentakeref26_Encode.f wapentakeref26_Encode.l0 wapentakelaw26_Great.f wapentakelaw26_Great.l0)
set_option linter.unusedVariables false
set_option linter.unusedSimpArgs false

/-- bytes as a text. -/
def tx (l : List UInt8) : ByteArray := ⟨l.toArray⟩
theorem tx_app (l m : List UInt8) : tx l ++ tx m = tx (l ++ m) := by
  apply ByteArray.ext
  simp [tx]
theorem tx_size (l : List UInt8) : (tx l).size = l.length := by simp [tx, ByteArray.size]
theorem one_f (n : Int) : wapentakeref26_one.f n = some (tx [u8 n]) := by
  unfold wapentakeref26_one.f
  congr 1
theorem wrap64_id {x : Int} (h : -9223372036854775808 ≤ x) (h2 : x ≤ 9223372036854775807) : wrap64 x = x := by
  unfold wrap64; omega
theorem pairs_take (kp tn : List Int) (i : Nat) (h : i < kp.length) (h2 : i < tn.length) : pairs (kp.take (i + 1)) (tn.take (i + 1)) = pairs (kp.take i) (tn.take i) ++ [u8 kp[i], u8 tn[i]] := by
  induction kp generalizing tn i with
  | nil => simp at h
  | cons a r ih =>
    cases tn with
    | nil => simp at h2
    | cons b s =>
      cases i with
      | zero => simp [pairs]
      | succ i => simpa [pairs] using ih s i (by simpa using h) (by simpa using h2)
/-- what Bytes says at last. -/
def finB (s c : List UInt8) (kind node n : Int) (t : List UInt8) : List UInt8 :=
  s ++ (if kind = 1 then u8 (node - 1) :: u8 (t.length / 256 : Nat) :: u8 t.length :: t
  else if kind = 5 then [u8 (node - 1), u8 n]
  else if kind = 6 then u8 (node - 1) :: u8 n :: c
  else if kind = 7 then u8 (node - 1) :: c
  else if kind = 8 then [u8 (node - 1)]
  else if kind = 9 then [u8 node, u8 n]
  else [u8 n])
theorem by_rest (k : Nat) (s c : List UInt8) (hs : s.length ≤ 1) (hc : c.length ≤ 100000) (x5 : Int) (kind node n : Int) (hn : 0 ≤ node ∧ node < 256) (t : List UInt8) (ht : t.length ≤ 100000) (kp tn : List Int) :
    wapentakeref26_Bytes.j1 (k + 1) (tx s) (tx c) x5 false kind node n (tx t) kp tn = some (tx (finB s c kind node n t)) := by
  rw [wapentakeref26_Bytes.j1]
  rw [if_neg (by decide)]
  have w1 : wrap64 (wrap64 node - 1) = node - 1 := by rw [wrap64_id (x := node) (by omega) (by omega), wrap64_id (by omega) (by omega)]
  have w2 : wrap64 node = node := wrap64_id (by omega) (by omega)
  have w3 : wrap64 ((t.length : Int) / 256) = ((t.length / 256 : Nat) : Int) := by rw [wrap64_id (by omega) (by omega)]; omega
  unfold finB
  by_cases h1 : kind = 1
  · simp only [h1, if_true, w1, w3, tx_size, one_f, Option.bind_some, tx_app, List.length_append, List.length_cons, List.length_nil]
    rw [if_pos (by omega), if_pos (by omega), if_pos (by omega), if_pos (by omega)]
    simp
  · simp only [h1, if_false]
    by_cases h5 : kind = 5
    · simp only [h5, if_true, w1, tx_size, one_f, Option.bind_some, tx_app, List.length_append, List.length_cons, List.length_nil]
      rw [if_pos (by omega), if_pos (by omega)]
      simp
    · simp only [h5, if_false]
      by_cases h6 : kind = 6
      · simp only [h6, if_true, w1, tx_size, one_f, Option.bind_some, tx_app, List.length_append, List.length_cons, List.length_nil]
        rw [if_pos (by omega), if_pos (by omega), if_pos (by omega)]
        simp
      · simp only [h6, if_false]
        by_cases h7 : kind = 7
        · simp only [h7, if_true, w1, tx_size, one_f, Option.bind_some, tx_app, List.length_append, List.length_cons, List.length_nil]
          rw [if_pos (by omega), if_pos (by omega)]
          simp
        · simp only [h7, if_false]
          by_cases h8 : kind = 8
          · simp only [h8, if_true, w1, tx_size, one_f, Option.bind_some, tx_app, List.length_append, List.length_cons, List.length_nil]
            rw [if_pos (by omega)]
          · simp only [h8, if_false]
            by_cases h9 : kind = 9
            · simp only [h9, if_true, w2, tx_size, one_f, Option.bind_some, tx_app, List.length_append, List.length_cons, List.length_nil]
              rw [if_pos (by omega), if_pos (by omega)]
              simp
            · simp only [h9, if_false, tx_size, one_f, Option.bind_some, tx_app, List.length_append, List.length_cons, List.length_nil]
              rw [if_pos (by omega)]
theorem pairs_stop (kp tn : List Int) (i : Nat) (h : kp.length ≤ i ∨ tn.length ≤ i) : pairs (kp.take i) (tn.take i) = pairs kp tn := by
  induction kp generalizing tn i with
  | nil => simp [pairs]
  | cons a r ih =>
    cases tn with
    | nil => cases i <;> simp [pairs]
    | cons b s =>
      cases i with
      | zero => simp at h
      | succ i => simpa [pairs] using ih s i (by simpa using h)
theorem pairs_le (kp tn : List Int) : (pairs kp tn).length ≤ 2 * kp.length := by
  induction kp generalizing tn with
  | nil => simp [pairs]
  | cons a r ih => cases tn with
    | nil => simp [pairs]
    | cons b s => have := ih s; simp [pairs]; omega
theorem by_loop (s : List UInt8) (hs : s.length ≤ 1) (kind node n : Int) (hn : 0 ≤ node ∧ node < 256) (t : List UInt8) (ht : t.length ≤ 100000) (kp tn : List Int) (hk : kp.length ≤ 20000) (z : UInt8) (c : Nat) : ∀ m i : Nat, i + m = kp.length →
    wapentakeref26_Bytes.l0 (2 * m + 2 + c) (tx s) (tx (z :: pairs (kp.take i) (tn.take i))) (i : Int) kind node n (tx t) kp tn = some (tx (finB s (z :: pairs kp tn) kind node n t)) := by
  intro m
  have hle := pairs_le kp tn
  have hrest : ∀ (i k : Nat) (b : Bool), (kp.length ≤ i ∨ tn.length ≤ i) → wapentakeref26_Bytes.j1 (k + 1) (tx s) (tx (z :: pairs (kp.take i) (tn.take i))) (i : Int) false kind node n (tx t) kp tn = some (tx (finB s (z :: pairs kp tn) kind node n t)) := by
    intro i k b h
    rw [pairs_stop kp tn i h]
    exact by_rest k s _ hs (by simp; omega) _ kind node n hn t ht kp tn
  induction m with
  | zero =>
    intro i hi
    rw [show 2 * 0 + 2 + c = (c + 1) + 1 by omega]
    rw [wapentakeref26_Bytes.l0]
    rw [if_neg (by omega)]
    exact hrest i c false (Or.inl (by omega))
  | succ m ih =>
    intro i hi
    rw [show 2 * (m + 1) + 2 + c = (2 * m + 2 + c) + 1 + 1 by omega]
    rw [wapentakeref26_Bytes.l0]
    rw [if_pos (by omega)]
    by_cases h2 : i < tn.length
    · rw [decide_eq_true (show (i : Int) < (tn.length : Int) by omega), wapentakeref26_Bytes.j1]
      rw [if_pos rfl, if_pos (by omega), if_pos (by omega), rd_get kp i (by omega), rd_get tn i h2]
      have hpl : (pairs (kp.take i) (tn.take i)).length ≤ 40000 := by have := pairs_le (kp.take i) (tn.take i); simp at this; omega
      simp only [one_f, Option.bind_some, tx_app, tx_size, List.length_append, List.length_cons, List.length_nil]
      rw [if_pos (by omega), if_pos (by omega), if_pos (by omega), wrap64_small (by omega) (by omega), show ((i : Int) + 1) = ((i + 1 : Nat) : Int) by omega]
      have := ih (i + 1) (by omega)
      rw [pairs_take kp tn i (by omega) h2] at this
      simpa using this
    · rw [decide_eq_false (show ¬ (i : Int) < (tn.length : Int) by omega)]
      exact hrest i _ false (Or.inr (by omega))
theorem finB_bytes (a : SAct) : finB [u8 (a.kind - 1)] (crashBytes a) a.kind a.node a.n a.text = bytesOf a := rfl
theorem bytes_f (a : SAct) (c : Nat) (hk : 0 ≤ a.kind ∧ a.kind < 256) (hn : 0 ≤ a.node ∧ a.node < 256) (ht : a.text.length ≤ 100000) (hl : a.keep.length ≤ 20000) :
    wapentakeref26_Bytes.f (2 * a.keep.length + 2 + c) a.kind a.node a.n (tx a.text) a.keep a.torn = some (tx (bytesOf a)) := by
  unfold wapentakeref26_Bytes.f
  rw [wrap64_id (x := a.kind) (by omega) (by omega), wrap64_id (x := a.kind - 1) (by omega) (by omega)]
  simp only [one_f, Option.bind_some]
  rw [← finB_bytes]
  exact by_loop [u8 (a.kind - 1)] (by simp) a.kind a.node a.n hn a.text ht a.keep a.torn hl (u8 a.keep.length) c a.keep.length 0 (by omega)

/-- what an act holds where the acts are not great. -/
def ok (a : SAct) : Prop := (0 ≤ a.node ∧ a.node < 256 ∧ 0 ≤ a.kind ∧ a.kind < 256) ∧ a.text.length ≤ 12000 ∧ a.keep.length ≤ 12000
theorem rd26_S (xs : List SAct) (i : Nat) (h : i < xs.length) : rd_T26 (xs.map toS) (i : Int) = toS xs[i] := by
  rw [rd26_get _ i (by simpa using h)]; simp
theorem encAll_le (xs : List SAct) (h : ∀ a ∈ xs, ok a) : (encAll xs).length ≤ xs.length * 40000 := by
  induction xs with
  | nil => simp [encAll]
  | cons a r ih =>
    have h1 := ih (fun b hb => h b (by simp [hb]))
    have h2 := h a (by simp)
    have h3 : (bytesOf a).length ≤ 40000 := by
      have := pairs_le a.keep a.torn
      have e1 := h2.2.1
      have e2 := h2.2.2
      unfold bytesOf crashBytes
      simp only [List.length_cons]
      (repeat' split) <;> simp <;> omega
    simp only [encAll, List.flatMap_cons, List.length_append, List.length_cons] at *
    omega
theorem enc_loop (xs : List SAct) (hx : ∀ a ∈ xs, ok a) (hl : xs.length ≤ 1000) (c : Nat) : ∀ m i : Nat, i + m = xs.length → (∀ a ∈ xs.take i, plain a = true) →
    wapentakeref26_Encode.l0 (m + 1 + 24006 + c) (xs.map toS) (tx (encAll (xs.take i))) (i : Int) = some (if xs.all plain then (tx (encAll xs), 0) else (tx [], 1)) := by
  intro m
  induction m with
  | zero =>
    intro i hi hp
    rw [show 0 + 1 + 24006 + c = (24006 + c) + 1 by omega, wapentakeref26_Encode.l0]
    rw [if_neg (by simp; omega), List.take_of_length_le (by omega)] at *
    rw [if_pos (by rw [List.all_eq_true]; exact hp)]
  | succ m ih =>
    intro i hi hp
    have hil : i < xs.length := by omega
    rw [show m + 1 + 1 + 24006 + c = (m + 1 + 24006 + c) + 1 by omega, wapentakeref26_Encode.l0]
    rw [if_pos (by simp; omega), if_pos (by omega), rd26_S xs i hil]
    have ha := hx xs[i] (List.getElem_mem hil)
    obtain ⟨⟨a1, a2, a3, a4⟩, a5, a6⟩ := ha
    have hpf := plain_f xs[i] (m + 1 + 24006 + c - (2 * xs[i].keep.length + 6)) (by omega)
    rw [show 2 * xs[i].keep.length + 6 + (m + 1 + 24006 + c - (2 * xs[i].keep.length + 6)) = m + 1 + 24006 + c by omega] at hpf
    have hbf := bytes_f xs[i] (m + 1 + 24006 + c - (2 * xs[i].keep.length + 2)) ⟨a3, a4⟩ ⟨a1, a2⟩ (by omega) (by omega)
    rw [show 2 * xs[i].keep.length + 2 + (m + 1 + 24006 + c - (2 * xs[i].keep.length + 2)) = m + 1 + 24006 + c by omega] at hbf
    simp only [toS]
    rw [hpf, Option.bind_some]
    have ht : xs.take (i + 1) = xs.take i ++ [xs[i]] := List.take_succ_eq_append_getElem hil
    cases hpl : plain xs[i] with
    | true =>
      rw [if_pos rfl]
      have hsz : (encAll (xs.take i)).length ≤ 40000000 := by
        have := encAll_le (xs.take i) (fun a h => hx a (List.mem_of_mem_take h))
        simp only [List.length_take] at this
        have : min i xs.length ≤ 1000 := by omega
        omega
      have hsb : (bytesOf xs[i]).length ≤ 40000 := by
        have := encAll_le [xs[i]] (by simp; exact hx _ (List.getElem_mem hil))
        simpa [encAll] using this
      show (wapentakeref26_Bytes.f _ xs[i].kind xs[i].node xs[i].n (tx xs[i].text) xs[i].keep xs[i].torn).bind _ = _
      rw [hbf, Option.bind_some, tx_size, tx_size, if_pos (by omega), tx_app, wrap64_small (by omega) (by omega), show ((i : Int) + 1) = ((i + 1 : Nat) : Int) by omega]
      have e : encAll (xs.take i) ++ bytesOf xs[i] = encAll (xs.take (i + 1)) := by rw [ht]; simp only [encAll, List.flatMap_append, List.flatMap_cons, List.flatMap_nil, List.append_nil]
      rw [e]
      refine ih (i + 1) (by omega) (fun a h => ?_)
      rw [ht, List.mem_append, List.mem_singleton] at h
      rcases h with h | rfl
      · exact hp a h
      · exact hpl
    | false =>
      rw [if_neg (by decide)]
      have : xs.all plain = false := by
        rw [Bool.eq_false_iff]
        intro hh
        rw [List.all_eq_true] at hh
        rw [hh _ (List.getElem_mem hil)] at hpl; cases hpl
      rw [this]; rfl
theorem encode_f (xs : List SAct) (hx : ∀ a ∈ xs, ok a) (hl : xs.length ≤ 1000) (c : Nat) : wapentakeref26_Encode.f (xs.length + 1 + 24006 + c) (xs.map toS) = some (tx (encode xs).1, (encode xs).2) := by
  unfold wapentakeref26_Encode.f encode
  by_cases h : 400 < xs.length
  · rw [if_pos (by simp; omega), if_pos h]; rfl
  · rw [if_neg (by simp; omega), if_neg h]
    have := enc_loop xs hx hl c xs.length 0 (by omega) (by simp)
    refine Eq.trans this ?_
    cases xs.all plain <;> rfl
theorem great_loop (xs : List SAct) (hl : xs.length ≤ 450) (c : Nat) : ∀ m i : Nat, i + m = xs.length → ∀ x3 : Int, 0 ≤ x3 → x3 ≤ 36000 * i →
    ∃ b, wapentakelaw26_Great.l0 (m + 1 + c) (xs.map toS) x3 (i : Int) = some b ∧ (b = false → ∀ a ∈ xs.drop i, a.text.length ≤ 12000 ∧ a.keep.length ≤ 12000) := by
  intro m
  induction m with
  | zero =>
    intro i hi x3 h0 h3
    rw [show 0 + 1 + c = c + 1 by omega, wapentakelaw26_Great.l0]
    rw [if_neg (by simp; omega)]
    exact ⟨_, rfl, fun _ a ha => by rw [List.drop_eq_nil_of_le (by omega)] at ha; cases ha⟩
  | succ m ih =>
    intro i hi x3 h0 h3
    have hil : i < xs.length := by omega
    rw [show m + 1 + 1 + c = (m + 1 + c) + 1 by omega, wapentakelaw26_Great.l0]
    rw [if_pos (by simp; omega), if_pos (by omega), rd26_S xs i hil]
    have hs : (toS xs[i]).f3.size = xs[i].text.length := bsz _
    have hk : (toS xs[i]).f4.f0.length = xs[i].keep.length := rfl
    generalize toS xs[i] = q at *
    by_cases h1 : (q.f3.size : Int) > 12000
    · rw [if_pos h1]; exact ⟨_, rfl, fun h => by cases h⟩
    · rw [if_neg h1]
      by_cases h2 : (q.f4.f0.length : Int) > 12000
      · rw [if_pos h2]; exact ⟨_, rfl, fun h => by cases h⟩
      · rw [if_neg h2]
        by_cases h4 : (q.f4.f1.length : Int) > 12000
        · rw [if_pos h4]; exact ⟨_, rfl, fun h => by cases h⟩
        · rw [if_neg h4, wrap64_id (x := x3 + _) (by omega) (by omega), wrap64_id (x := x3 + _ + _) (by omega) (by omega), wrap64_id (x := x3 + _ + _ + _) (by omega) (by omega), wrap64_small (by omega) (by omega), show ((i : Int) + 1) = ((i + 1 : Nat) : Int) by omega]
          obtain ⟨b, e, hb⟩ := ih (i + 1) (by omega) (x3 + q.f3.size + q.f4.f0.length + q.f4.f1.length) (by omega) (by omega)
          refine ⟨b, e, fun h a ha => ?_⟩
          rw [List.drop_eq_getElem_cons hil, List.mem_cons] at ha
          rcases ha with rfl | ha
          · omega
          · exact hb h a ha
/-- Great answers; where it says no, the acts are few and small. -/
theorem great_f (xs : List SAct) : ∃ b, wapentakelaw26_Great.f 452 (xs.map toS) = some b ∧ (b = false → xs.length ≤ 450 ∧ ∀ a ∈ xs, a.text.length ≤ 12000 ∧ a.keep.length ≤ 12000) := by
  unfold wapentakelaw26_Great.f
  by_cases h : xs.length ≤ 450
  · rw [if_neg (by simp; omega)]
    obtain ⟨b, e, hb⟩ := great_loop xs h (451 - xs.length) xs.length 0 (by omega) 0 (by omega) (by omega)
    rw [show xs.length + 1 + (451 - xs.length) = 452 by omega] at e
    exact ⟨b, e, fun hh => ⟨h, hb hh⟩⟩
  · rw [if_pos (by simp; omega)]
    exact ⟨_, rfl, fun h => by cases h⟩
end Go.Proofs.YtjipfdabkncnmaaDoor.S

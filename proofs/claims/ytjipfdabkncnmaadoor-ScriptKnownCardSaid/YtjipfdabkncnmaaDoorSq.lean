/- script.put, walked: it puts the plain model's bytes behind the others, for any plain act. -/
import Derived.Test.YtjipfdabkncnmaaDoorSp
namespace Go.Proofs.YtjipfdabkncnmaaDoor.S
open Go.RowKit Go.Proofs.YtjipfdabkncnmaaDoorW.PrintWords Go.Proofs.YtjipfdabkncnmaaDoorW.PrintLast Go.Proofs.YtjipfdabkncnmaaDoorW.PrintMore
open PScriptTotal (S24 S26 k26 k24 z26)
set_option linter.unusedVariables false
set_option linter.unusedSimpArgs false

theorem put_any (w0 w : World) (b : Nat) (l : List UInt8) (a : SAct) (A0 A1 : Option Addr) (c0 c1 : Nat) (hb : Lib.IsBuffer 50 5 w0.heap.size b (bv l) w) (hl : Below w0.heap.size w0 w) (hlen : l.length ≤ 90000000)
    (hx : Kd.C (Kd.int .i64) w0 A0 a.keep.length a.keep) (hy : Kd.C (Kd.int .i64) w0 A1 a.torn.length a.torn) (h0 : 0 ≤ a.node) (h : plain a = true) :
    Calls Tryd.prog 19 #[.pointer (some ⟨b, 0, none⟩), .agg #[.int .u8 a.kind, .int .u8 a.node, .int .i64 a.n, .string ⟨a.text.toArray⟩, .slice A0 a.keep.length c0, .slice A1 a.torn.length c1]] w (PutPost w0 b (l ++ bytesOf a)) := by
  obtain ⟨kind, node, n, text, keep, torn⟩ := a
  simp only at hx hy h0 ⊢
  unfold plain at h
  split at h
  · rename_i hk
    simp only at hk; subst hk
    simp only [Bool.and_eq_true, nodeOk, bare, decide_eq_true_eq, List.isEmpty_iff] at h
    obtain ⟨⟨⟨hn, rfl⟩, ht⟩, rfl, rfl⟩ := h
    have hh := put_1 w0 w b l node 0 text (.slice A0 0 c0) (.slice A1 0 c1) hb hl hlen hn.1 hn.2 ht
    have e : bytesOf ⟨1, node, 0, text, [], []⟩ = [u8 0, u8 (node - 1), u8 (text.length / 256 : Nat), u8 (text.length % 256 : Nat)] ++ text := by
      have : u8 (text.length : Int) = u8 ((text.length % 256 : Nat) : Int) := by
        simp only [u8]; congr 2; omega
      simp only [bytesOf, if_true, this]
      rfl
    rw [e, ← List.append_assoc]; exact hh
  · split at h
    · rename_i hk
      simp only [Bool.and_eq_true, bare, decide_eq_true_eq, List.isEmpty_iff, byteOf] at h
      obtain ⟨⟨⟨rfl, hn⟩, rfl⟩, rfl, rfl⟩ := h
      rcases hk with hk | hk | hk <;> (simp only at hk; subst hk)
      · exact put_2 w0 w b l 0 n _ _ _ hb hl hlen hn.1 hn.2
      · exact put_3 w0 w b l 0 n _ _ _ hb hl hlen hn.1 hn.2
      · exact put_4 w0 w b l 0 n _ _ _ hb hl hlen hn.1 hn.2
    · split at h
      · rename_i hk
        simp only at hk; subst hk
        simp only [Bool.and_eq_true, nodeOk, bare, decide_eq_true_eq, List.isEmpty_iff, byteOf] at h
        obtain ⟨⟨⟨hn, hb'⟩, rfl⟩, rfl, rfl⟩ := h
        exact put_5 w0 w b l node n _ _ _ hb hl hlen hn.1 hn.2 hb'.1 hb'.2
      · split at h
        · rename_i hk
          simp only at hk; subst hk
          simp only [Bool.and_eq_true, nodeOk, crashOk, decide_eq_true_eq, List.isEmpty_iff] at h
          obtain ⟨⟨⟨hn, hb'⟩, rfl⟩, ⟨⟨hl8, he⟩, h1⟩, h2⟩ := h
          simp only [byteOf, decide_eq_true_eq] at hb'
          have hh := put_6 w0 w b l node n ⟨([] : List UInt8).toArray⟩ A0 A1 c0 c1 keep torn hb hl hlen hn.1 hn.2 hb'.1 hb'.2 hx hy hl8 he h1 h2
          have e : l ++ bytesOf ⟨6, node, n, [], keep, torn⟩ = l ++ [u8 5, u8 (node - 1), u8 n] ++ [u8 keep.length] ++ pairs keep torn := by simp [bytesOf, crashBytes]
          rw [e]; exact hh
        · split at h
          · rename_i hk
            simp only at hk; subst hk
            simp only [Bool.and_eq_true, nodeOk, crashOk, decide_eq_true_eq, List.isEmpty_iff] at h
            obtain ⟨⟨⟨hn, rfl⟩, rfl⟩, ⟨⟨hl8, he⟩, h1⟩, h2⟩ := h
            have hh := put_7 w0 w b l node 0 ⟨([] : List UInt8).toArray⟩ A0 A1 c0 c1 keep torn hb hl hlen hn.1 hn.2 hx hy hl8 he h1 h2
            have e : l ++ bytesOf ⟨7, node, 0, [], keep, torn⟩ = l ++ [u8 6, u8 (node - 1)] ++ [u8 keep.length] ++ pairs keep torn := by simp [bytesOf, crashBytes]
            rw [e]; exact hh
          · split at h
            · rename_i hk
              simp only at hk; subst hk
              simp only [Bool.and_eq_true, nodeOk, bare, decide_eq_true_eq, List.isEmpty_iff] at h
              obtain ⟨⟨⟨hn, rfl⟩, rfl⟩, rfl, rfl⟩ := h
              exact put_8 w0 w b l node 0 _ _ _ hb hl hlen hn.1 hn.2
            · split at h
              · rename_i hk
                simp only at hk; subst hk
                simp only [Bool.and_eq_true, bare, decide_eq_true_eq, List.isEmpty_iff, byteOf] at h
                obtain ⟨⟨⟨hn, hb'⟩, rfl⟩, rfl, rfl⟩ := h
                exact put_9 w0 w b l node n _ _ _ hb hl hlen h0 hn hb'.1 hb'.2
              · cases h

theorem pairs_length : ∀ k t : List Int, (pairs k t).length ≤ 2 * k.length := by
  intro k
  induction k with
  | nil => intro t; simp [pairs]
  | cons a r ih => intro t; cases t with
    | nil => simp [pairs]
    | cons b s => have := ih s; simp [pairs]; omega
theorem bytesOf_length (a : SAct) (h : plain a = true) : (bytesOf a).length ≤ 65540 := by
  have hp := pairs_length a.keep a.torn
  unfold plain at h
  unfold bytesOf crashBytes
  simp only [List.length_cons]
  split
  · simp_all; omega
  · split at h
    · simp_all
    · repeat' split
      all_goals simp_all [crashOk]
      all_goals omega
theorem encAll_length (l : List SAct) (h : ∀ a ∈ l, plain a = true) : (encAll l).length ≤ l.length * 65540 := by
  induction l with
  | nil => simp [encAll]
  | cons a r ih =>
    have h1 := bytesOf_length a (h a (by simp))
    have h2 := ih (fun b hb => h b (by simp [hb]))
    simp only [encAll, List.flatMap_cons, List.length_append, List.length_cons] at *
    omega
end Go.Proofs.YtjipfdabkncnmaaDoor.S

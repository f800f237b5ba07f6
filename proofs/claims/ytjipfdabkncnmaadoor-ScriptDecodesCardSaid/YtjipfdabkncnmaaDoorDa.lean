/- The document's at and crash are the plain model's readings, for any text of at most 12000 bytes. -/
import Derived.Test.YtjipfdabkncnmaaDoorQg
import Derived.Test.YtjipfdabkncnmaaDoorSs
namespace Go.Proofs.YtjipfdabkncnmaaDoor.S
open Go.RowKit Go.Proofs.YtjipfdabkncnmaaDoorW.PrintWords Go.Proofs.YtjipfdabkncnmaaDoorW.PrintLast Go.Proofs.YtjipfdabkncnmaaDoorW.PrintMore
open PScriptTotal (S24 S26 k26 k24 z26 rd_T26 wapentakeref26_at.f wapentakeref26_crash.f wapentakeref26_crash.l0)
set_option linter.unusedVariables false
set_option linter.unusedSimpArgs false

theorem wrap64_ok {x : Int} (h : -9223372036854775808 ≤ x) (h2 : x ≤ 9223372036854775807) : wrap64 x = x := by
  unfold wrap64; omega
theorem hd_drop (l : List UInt8) (i : Nat) : hd (l.drop i) = if h : i < l.length then (l[i].toNat : Int) else 0 := by
  split
  · rename_i h; rw [List.drop_eq_getElem_cons h]; rfl
  · rename_i h; rw [List.drop_eq_nil_of_le (by omega)]; rfl
theorem at_f (s : ByteArray) (i : Int) (hi : 0 ≤ i) : wapentakeref26_at.f s i = some (hd (s.data.toList.drop i.toNat)) := by
  unfold wapentakeref26_at.f
  have hl : s.data.toList.length = s.size := rfl
  rw [hd_drop]
  by_cases h : i < (s.size : Int)
  · have h' : i.toNat < s.data.toList.length := by omega
    rw [if_pos h, if_pos hi, dif_pos h']
    have hb : bt s i = ((s.data.toList[i.toNat]'h').toNat : Int) := by
      unfold bt
      rw [dif_pos (by omega)]
      rfl
    have := (s.data.toList[i.toNat]'h').toNat_lt
    rw [hb, wrap64_ok (by omega) (by omega)]
  · have h' : ¬ i.toNat < s.data.toList.length := by omega
    rw [if_neg h, dif_neg h']
def AtPost (w : World) (x : Int) (e : Ending) (w' : World) : Prop := e = .returned (.int .i64 x) ∧ Drawn0 w w'
theorem at_any (s : ByteArray) (i : Int) (hi : 0 ≤ i) (w : World) : Calls Tryd.prog 28 #[.string s, .int .i64 i] w (AtPost w (hd (s.data.toList.drop i.toNat))) :=
  PScriptTotal.wapentakeref26_at.calls s i _ w (at_f s i hi)
theorem drop_tail (l : List UInt8) (i : Nat) : (l.drop i).tail = l.drop (i + 1) := by simp
theorem hd_bd' (l : List UInt8) : 0 ≤ hd l ∧ hd l < 256 := ⟨hd_nonneg l, hd_lt l⟩
theorem crash_l (s : ByteArray) (n : Nat) (hn : n < 8) (c : Nat) : ∀ m j : Nat, j + m = n → ∀ (i : Int) (ks ts : List Int), 0 ≤ i → i + 2 * m ≤ 100000 → ks.length + m ≤ 100 → ts.length + m ≤ 100 →
    wapentakeref26_crash.l0 (m + 1 + c) s i (n : Int) (j : Int) ks ts = some ((readCrash m (s.data.toList.drop i.toNat) ks ts).1, (readCrash m (s.data.toList.drop i.toNat) ks ts).2.1, i + 2 * m) := by
  intro m
  induction m with
  | zero =>
    intro j hj i ks ts h0 h1 h2 h3
    rw [show 0 + 1 + c = c + 1 by omega, wapentakeref26_crash.l0, if_neg (by omega)]
    simp [readCrash]
  | succ m ih =>
    intro j hj i ks ts h0 h1 h2 h3
    rw [show m + 1 + 1 + c = (m + 1 + c) + 1 by omega, wapentakeref26_crash.l0, if_pos (by omega)]
    have w1 : wrap64 (i + 1) = i + 1 := wrap64_ok (by omega) (by omega)
    have w2 : wrap64 (i + 2) = i + 2 := wrap64_ok (by omega) (by omega)
    have w3 : wrap64 ((j : Int) + 1) = ((j + 1 : Nat) : Int) := by rw [wrap64_ok (by omega) (by omega)]; omega
    rw [at_f s i h0, Option.bind_some, if_pos (by omega), w1, at_f s (i + 1) (by omega), Option.bind_some, if_pos (by omega), w2, w3]
    have := ih (j + 1) (by omega) (i + 2) (ks ++ [hd (s.data.toList.drop i.toNat)]) (ts ++ [hd (s.data.toList.drop (i + 1).toNat)]) (by omega) (by omega) (by simp; omega) (by simp; omega)
    rw [this]
    have e1 : s.data.toList.drop (i + 1).toNat = (s.data.toList.drop i.toNat).tail := by rw [drop_tail]; congr 1; omega
    have e2 : s.data.toList.drop (i + 2).toNat = (s.data.toList.drop i.toNat).tail.tail := by rw [drop_tail, drop_tail]; congr 1; omega
    rw [e1, e2]
    simp only [readCrash]
    congr 3
    omega
theorem readCrash_drop (n : Nat) : ∀ l k t, (readCrash n l k t).2.2 = l.drop (2 * n) := by
  induction n with
  | zero => intro l k t; simp [readCrash]
  | succ n ih => intro l k t; simp only [readCrash, ih]; simp; congr 1
/-- what crash says. -/
theorem crash_f (s : ByteArray) (i : Int) (h0 : 0 ≤ i) (h1 : i ≤ 50000) : wapentakeref26_crash.f 9 s i = some ((readCrash (hd (s.data.toList.drop i.toNat) % 8).toNat (s.data.toList.drop i.toNat).tail [] []).1, (readCrash (hd (s.data.toList.drop i.toNat) % 8).toNat (s.data.toList.drop i.toNat).tail [] []).2.1, i + 1 + 2 * (hd (s.data.toList.drop i.toNat) % 8)) := by
  unfold wapentakeref26_crash.f
  have hb := hd_bd' (s.data.toList.drop i.toNat)
  rw [at_f s i h0, Option.bind_some, wrap64_ok (by omega) (by omega)]
  have e0 : Int.tmod (hd (s.data.toList.drop i.toNat)) 8 = (((hd (s.data.toList.drop i.toNat) % 8).toNat : Nat) : Int) := by
    rw [Int.tmod_eq_emod_of_nonneg hb.1]; omega
  have := crash_l s (hd (s.data.toList.drop i.toNat) % 8).toNat (by omega) (8 - (hd (s.data.toList.drop i.toNat) % 8).toNat) (hd (s.data.toList.drop i.toNat) % 8).toNat 0 (by omega) (i + 1) [] [] (by omega) (by omega) (by simp; omega) (by simp; omega)
  rw [show (hd (s.data.toList.drop i.toNat) % 8).toNat + 1 + (8 - (hd (s.data.toList.drop i.toNat) % 8).toNat) = 9 by omega] at this
  rw [e0]
  refine Eq.trans this ?_
  have e1 : s.data.toList.drop (i + 1).toNat = (s.data.toList.drop i.toNat).tail := by rw [drop_tail]; congr 1; omega
  rw [e1]
  congr 3
  omega
def CrPost (w : World) (ks ts : List Int) (j : Int) (e : Ending) (w' : World) : Prop :=
  ∃ u0 u1, e = .returned (.tuple #[.agg #[u0, u1], .int .i64 j]) ∧ Kd.R (Kd.int .i64) 3 w' w.heap.size (fun _ => True) u0 ks ∧ Kd.R (Kd.int .i64) 3 w' w.heap.size (fun _ => True) u1 ts ∧ Below w.heap.size w w'
theorem crash_ref (s : ByteArray) (i : Int) (h0 : 0 ≤ i) (h1 : i ≤ 50000) (w : World) : Calls Tryd.prog 29 #[.string s, .int .i64 i] w (CrPost w (readCrash (hd (s.data.toList.drop i.toNat) % 8).toNat (s.data.toList.drop i.toNat).tail [] []).1 (readCrash (hd (s.data.toList.drop i.toNat) % 8).toNat (s.data.toList.drop i.toNat).tail [] []).2.1 (i + 1 + 2 * (hd (s.data.toList.drop i.toNat) % 8))) := by
  refine (PScriptTotal.wapentakeref26_crash.calls 9 s i _ _ _ w (crash_f s i h0 h1)).mono ?_
  rintro e w' ⟨u0, u1, rfl, hr0, hr1, hb⟩
  exact ⟨u0, u1, rfl, Kd.R_mono hr0 (fun _ _ => trivial), Kd.R_mono hr1 (fun _ _ => trivial), hb⟩
end Go.Proofs.YtjipfdabkncnmaaDoor.S

/- ScriptTotal, walked: it comes to true, whatever the text. -/
import Derived.Test.YtjipfdabkncnmaaDoorSt
/- ScriptTotal's walk: whatever the text, it comes to true. -/
namespace Go.Proofs.YtjipfdabkncnmaaDoor.S
open Go.RowKit Go.Proofs.YtjipfdabkncnmaaDoorW.PrintWords Go.Proofs.YtjipfdabkncnmaaDoorW.PrintLast Go.Proofs.YtjipfdabkncnmaaDoorW.PrintMore
open PScriptTotal (S24 S26 k26 k24 z26)
set_option linter.unusedVariables false
set_option linter.unusedSimpArgs false

theorem str_size (s : ByteArray) : s.data.toList.length = s.size := rfl
/-- a text's bytes as a row of its own. -/
theorem str_C (W : World) (s : ByteArray) (hs : s.size ≤ 9223372036854775807) : Kd.C (Kd.int .u8) (Lib.bytesWorld W 5 s) (some ⟨W.heap.size, 0, none⟩) s.size (bi s.data.toList) := by
  refine row_C (l := s.data.toList) (Lib.bytesWorld_at_new W 5 s) (by rw [str_size]; exact hs) (fun j hj => ?_)
  rw [str_size] at hj
  simp [Lib.bytesCells, Array.getElem?_append, List.getD, hj]
theorem str_below (W : World) (s : ByteArray) : Below W.heap.size W (Lib.bytesWorld W 5 s) :=
  ⟨rfl, rfl, rfl, by rw [Lib.bytesWorld_size]; omega, fun k hk => Lib.bytesWorld_at_old W 5 s k hk⟩
theorem str_cap (W : World) (s : ByteArray) : s.size ≤ grownCap W s.size 0 5 := by
  exact grownCap_ge _ _ _ _

def TotRel (w : World) (n : Nat) (gk : Nat) (v : Value) (wr : World) : Prop := ∃ i : Nat, v = .int .i64 (i : Int) ∧ gk + i = n ∧ Below w.heap.size w wr
set_option maxHeartbeats 4000000 in
set_option maxRecDepth 100000 in
theorem total_walk (W : World) (s : ByteArray) (hs : s.size ≤ maxLen) : Calls Tryd.prog 6 #[.string s] W (AwPost W) := by
  have kb := fun (w : World) (s : ByteArray) => Lib.run_convert_string_bytes (P := Tryd.prog) w 9 29 5 s Tryd.underlying9 Tryd.underlying29 Tryd.underlying5
  have hs1 : s.size ≤ 9223372036854775807 := by simpa [maxLen] using hs
  go_enter Tryd.func6, Tryd.ntmps6
  by_cases h : s.size ≤ 12000
  rotate_left
  have h' : 12000 < s.size := by omega
  all_goals go_wp2_with fail
  have e12 : (s.extract 0 12000).size = min 12000 s.size := by simp
  rw [← e12]
  have hq : (s.extract 0 12000).size ≤ 12000 := by rw [e12]; omega
  generalize s.extract 0 12000 = q at *
  clear e12 h h'
  rotate_left
  obtain ⟨q, hq⟩ : ∃ q, q = s := ⟨s, rfl⟩
  subst hq
  have hq : q.size ≤ 12000 := h
  clear h
  all_goals
    refine (decode_C _ _ _ _ q.data.toList rfl (str_C W q (by omega)) (str_cap W q)).mono ?_
    rintro e w1 ⟨A1, c1, rfl, hc1, hC1, hb1⟩
    have HC1 := Lib.hid hC1
    have HB1 := Lib.hid ((str_below W q).trans (hb1.mono (str_below W q).size))
    clear hC1 hb1
    have hlen : (decodeN 400 q.data.toList).length ≤ 400 := decodeN_length_le _ _
    have hlen2 : (decodeN 400 q.data.toList).length ≤ q.size := by have := decodeN_length_bytes 400 q.data.toList; rwa [str_size] at this
    have hnil := decodeN_nil_iff 399 q.data.toList
    have hall := Lib.hid (decodeN_plain 400 q.data.toList)
    have henc := Lib.hid (encode_decode q.data.toList)
    have hagain := Lib.hid (decode_again q.data.toList)
    generalize decodeN 400 q.data.toList = xs at *
    have hz : xs.length = 0 ↔ q.size = 0 := by rw [hnil, ← str_size]; exact List.length_eq_zero_iff.symm
    clear hnil
    have hT : ((xs.length : Int) == 0) = q.toList.isEmpty := by
      rw [tl, Bool.eq_iff_iff]
      simp only [beq_iff_eq, List.isEmpty_iff]
      rw [← List.length_eq_zero_iff, str_size, ← hz]
      omega
    clear hz
    have hq1 : (q.size < xs.length) = False := by simp only [eq_iff_iff, iff_false]; omega
    have hq2 : (400 < (xs.length : Int)) = False := by simp only [eq_iff_iff, iff_false]; omega
    go_wp2
    go_loopg [4] xs.length (fun gk v wr => TotRel w1 xs.length gk v wr)
    case atStart => exact ⟨0, rfl, rfl, Below.refl _ _⟩
    case round =>
      obtain ⟨i, rfl, hgi, hbe⟩ := hrel
      have HG := Lib.hid hgi
      have HBE := Lib.hid hbe
      clear hgi hbe
      by_cases hi : i < xs.length
      · obtain ⟨ad, A4, c4, A5, c5, a, rfl, hg, f0, f1, f2, f3, f4, f5, g4, g5⟩ := act_at (Kd.C_below HC1.out HBE.out) i hi
        have H4 := Lib.hid g4
        have H5 := Lib.hid g5
        have hpl : plain a = true ∧ 0 ≤ a.node := hall.out a (List.mem_of_getElem? hg)
        have HPL := Lib.hid hpl
        clear hg g4 g5 hpl
        go_wp2_with fail
        refine (plain_any _ a A4 A5 c4 c5 HPL.out.2 H4.out H5.out).mono ?_
        rintro e w2 ⟨rfl, hb2⟩
        rw [HPL.out.1]
        have HB2 := Lib.hid (HBE.out.trans (hb2.mono HBE.out.size))
        clear hb2 f0 f1 f2 f3 f4 f5
        go_wp2
        go_roundg (xs.length - (i + 1))
        case measure => have := HG.out; omega
        case rel => exact ⟨i + 1, by simp, by omega, HB2.out⟩
      · have hie : i = xs.length := by have := HG.out; omega
        subst hie
        clear hi
        go_wp2_with fail
        refine (encode_C wr A1 _ c1 xs rfl (Kd.C_below HC1.out HBE.out) hc1 (fun a ha => (hall.out a ha).2)).mono ?_
        rw [henc.out]
        rintro e w3 ⟨A3, c3, rfl, hc3, hC3, hb3⟩
        have HC3 := Lib.hid hC3
        have HBW := Lib.hid (HBE.out.trans (hb3.mono HBE.out.size))
        clear hb3 hC3
        go_wp2_with fail
        refine (decode_C w3 A3 _ c3 (encAll xs) rfl HC3.out hc3).mono ?_
        rw [hagain.out]
        rintro e w4 ⟨A4, c4, rfl, hc4, hC4, hb4⟩
        have HC4 := Lib.hid hC4
        have HBV := Lib.hid (HBW.out.trans (hb4.mono HBW.out.size))
        clear hb4 hC4
        go_wp2_with fail
        refine (same_any w4 A4 A1 c4 c1 xs xs _ _ rfl rfl HC4.out hc4 (Kd.C_below HC1.out HBV.out) hc1).mono ?_
        rintro e w5 ⟨rfl, hb5⟩
        rw [decide_eq_true (rfl : xs = xs)]
        have HBU := Lib.hid (HBV.out.trans (hb5.mono HBV.out.size))
        clear hb5
        go_wp2_with fail
        refine (awake_any w5).mono ?_
        rintro e w6 ⟨rfl, hb6⟩
        have HBT := Lib.hid (HB1.out.trans ((HBU.out.trans (hb6.mono HBU.out.size)).mono HB1.out.size))
        clear hb6
        go_wp2
        go_ret
        exact ⟨rfl, HBT.out⟩
end Go.Proofs.YtjipfdabkncnmaaDoor.S

/- The document's Decode, walked: the acts are the plain model's, for any text of at most 12000 bytes. -/
import Derived.Test.YtjipfdabkncnmaaDoorDa
import Derived.Lib.Hide
namespace Go.Proofs.YtjipfdabkncnmaaDoor.S
open Go.RowKit Go.Proofs.YtjipfdabkncnmaaDoorW.PrintWords Go.Proofs.YtjipfdabkncnmaaDoorW.PrintLast Go.Proofs.YtjipfdabkncnmaaDoorW.PrintMore
open PScriptTotal (S24 S26 k26 k24 z26)
set_option linter.unusedVariables false
set_option linter.unusedSimpArgs false

/-- the state within a round: the row so far, the act's box. -/
structure DS (w W : World) (v : Value) (xs : List S26) (gb : Nat) (a b c d e f : Value) : Prop where
  bl : Below w.heap.size w W
  ro : k26.R 26 W w.heap.size (fun k => k < gb) v xs
  bx : W.heap[gb]? = some (.cells #[a, b, c, d, e, f] 26 (0, 0))
  lo : w.heap.size ≤ gb
theorem DS.start {w W : World} {v : Value} {xs : List S26} (hb : Below w.heap.size w W) (hr : k26.R 26 W w.heap.size (fun _ => True) v xs) (a b c d e f : Value) : DS w (W.alloc (.cells #[a, b, c, d, e, f] 26)) v xs W.heap.size a b c d e f :=
  ⟨hb.alloc hb.size _, Kd.R_alloc (Kd.R_mono (Kd.R_bound hr) (fun k hk => hk.2.2.1)) _, heap_alloc_new W _, hb.size⟩
section
variable {w W W' : World} {v : Value} {xs : List S26} {gb : Nat} {a b c d e f : Value}
theorem DS.lt (h : DS w W v xs gb a b c d e f) : gb < W.heap.size := by
  have := h.bx
  rcases Nat.lt_or_ge gb W.heap.size with h' | h'
  · exact h'
  · simp [Array.getElem?_eq_none h'] at this
theorem DS.step (h : DS w W v xs gb a b c d e f) (hb : Below W.heap.size W W') : DS w W' v xs gb a b c d e f :=
  ⟨h.bl.trans (hb.mono h.bl.size), Kd.R_below h.ro hb, (hb.block _ h.lt).trans h.bx, h.lo⟩
theorem DS.drawn (h : DS w W v xs gb a b c d e f) (hd : Drawn0 W W') : DS w W' v xs gb a b c d e f := by
  obtain ⟨n, rfl⟩ := hd
  exact h.step (pw_below_drewN (Below.refl _ _) n)
theorem DS.set (h : DS w W v xs gb a b c d e f) (j : Nat) (u : Value) : Below w.heap.size w (W.setCell ⟨gb, j, none⟩ u) ∧ k26.R 26 (W.setCell ⟨gb, j, none⟩ u) w.heap.size (fun k => k < gb) v xs :=
  ⟨h.bl.setCell h.lo u, Kd.R_far h.ro (fun k hk => by simp only at hk ⊢; omega) u⟩
theorem DS.set1 (h : DS w W v xs gb a b c d e f) (u : Value) : DS w (W.setCell ⟨gb, 1, none⟩ u) v xs gb a u c d e f := ⟨(h.set 1 u).1, (h.set 1 u).2, by have hh := h.bx; simp [World.setCell, Array.getElem?_modify, hh], h.lo⟩
theorem DS.set2 (h : DS w W v xs gb a b c d e f) (u : Value) : DS w (W.setCell ⟨gb, 2, none⟩ u) v xs gb a b u d e f := ⟨(h.set 2 u).1, (h.set 2 u).2, by have hh := h.bx; simp [World.setCell, Array.getElem?_modify, hh], h.lo⟩
theorem DS.set3 (h : DS w W v xs gb a b c d e f) (u : Value) : DS w (W.setCell ⟨gb, 3, none⟩ u) v xs gb a b c u e f := ⟨(h.set 3 u).1, (h.set 3 u).2, by have hh := h.bx; simp [World.setCell, Array.getElem?_modify, hh], h.lo⟩
theorem DS.set4 (h : DS w W v xs gb a b c d e f) (u : Value) : DS w (W.setCell ⟨gb, 4, none⟩ u) v xs gb a b c d u f := ⟨(h.set 4 u).1, (h.set 4 u).2, by have hh := h.bx; simp [World.setCell, Array.getElem?_modify, hh], h.lo⟩
theorem DS.set5 (h : DS w W v xs gb a b c d e f) (u : Value) : DS w (W.setCell ⟨gb, 5, none⟩ u) v xs gb a b c d e u := ⟨(h.set 5 u).1, (h.set 5 u).2, by have hh := h.bx; simp [World.setCell, Array.getElem?_modify, hh], h.lo⟩
theorem DS.cells (h : DS w W v xs gb a b c d e f) :
    (W.cell? ⟨gb, 0, none⟩ = some a ∧ W.cell? ⟨gb, 1, none⟩ = some b ∧ W.cell? ⟨gb, 2, none⟩ = some c ∧ W.cell? ⟨gb, 3, none⟩ = some d ∧ W.cell? ⟨gb, 4, none⟩ = some e ∧ W.cell? ⟨gb, 5, none⟩ = some f) := by
  have hh := h.bx
  refine ⟨?_, ?_, ?_, ?_, ?_, ?_⟩ <;> simp [World.cell?, hh]
theorem DS.free (h : DS w W v xs gb a b c d e f) (j : Nat) : W.frozen? ⟨gb, j, none⟩ = false := by
  have hh := h.bx
  simp [World.frozen?, hh]
end
/-- what the document's Decode comes to. -/
def RefRel (w : World) (s : ByteArray) (gk : Nat) (v3 v4 : Value) (wr : World) : Prop :=
  ∃ (acts : List SAct) (I : Int), v4 = .int .i64 I ∧ 0 ≤ I ∧ I ≤ s.size + 20 ∧ gk = s.size - I.toNat ∧ acts.length ≤ 400 ∧ decodeN 400 s.data.toList = acts ++ decodeN (400 - acts.length) (s.data.toList.drop I.toNat) ∧
    k26.R 26 wr w.heap.size (fun _ => True) v3 (acts.map toS) ∧ Below w.heap.size w wr
/-- the text's loop: what is taken already. -/
def TxRel (w : World) (gb : Nat) (v : Value) (xs : List S26) (b : Value) (s : ByteArray) (I n : Int) (gk : Nat) (v4 v8 : Value) (W : World) : Prop :=
  ∃ j : Nat, v4 = .int .i64 (I + 4 + j) ∧ v8 = .int .i64 (j : Int) ∧ gk + j = n.toNat ∧ j ≤ (s.data.toList.drop (I + 4).toNat).length ∧
    DS w W v xs gb (.int .u8 1) b (.int .i64 0) (.string ⟨((s.data.toList.drop (I + 4).toNat).take j).toArray⟩) (.slice none 0 0) (.slice none 0 0)
theorem at_hid (s : ByteArray) (I J : Int) (j : Nat) (h0 : 0 ≤ I) (hJ : J = I + j) : ∃ x, x = hd (s.data.toList.drop (I.toNat + j)) ∧ (0 ≤ x ∧ x < 256) ∧ Hid (∀ w, Calls Tryd.prog 28 #[.string s, .int .i64 J] w (AtPost w x)) :=
  ⟨_, rfl, hd_bd' _, Lib.hid (fun w => by have := at_any s J (by omega) w; rwa [show J.toNat = I.toNat + j by omega] at this)⟩
theorem tsz (t : List UInt8) : (⟨t.toArray⟩ : ByteArray).size = t.length := by simp [ByteArray.size]
theorem slice_one (s : ByteArray) (i : Int) (h0 : 0 ≤ i) (h1 : i + 1 ≤ s.size) (W : World) : (Instr.slice 9 (.string s) (some (.int .i64 i)) (some (.int .i64 (i + 1))) none).run Tryd.prog W = .ok (.string (s.extract i.toNat (i + 1).toNat)) W := by
  have h2 : 0 ≤ i + 1 := by omega
  have h3 : i ≤ i + 1 := by omega
  have h4 : i ≤ ((i + 1).toNat : Int) := by omega
  simp [Instr.slice, run_underlying Tryd.underlying9, Instr.sliceBounds, run_sliceBound, h0, h1, h2, go_sem]
  intro h; omega
theorem txt_step (s : ByteArray) (I : Int) (j : Nat) (h0 : 0 ≤ I) (h : I + 4 + (j : Int) < s.size) :
    (⟨((s.data.toList.drop (I + 4).toNat).take j).toArray⟩ : ByteArray) ++ s.extract (I + 4 + (j : Int)).toNat (I + 4 + (j : Int) + 1).toNat = ⟨((s.data.toList.drop (I + 4).toNat).take (j + 1)).toArray⟩ := by
  have hl : s.data.toList.length = s.size := rfl
  apply ByteArray.ext
  apply Array.ext'
  have e1 : (I + 4 + (j : Int)).toNat = (I + 4).toNat + j := by omega
  have e2 : (I + 4 + (j : Int) + 1).toNat = (I + 4).toNat + j + 1 := by omega
  have hj : j < (s.data.toList.drop (I + 4).toNat).length := by rw [List.length_drop, hl]; omega
  rw [e1, e2, List.take_succ_eq_append_getElem hj]
  simp only [ByteArray.data_append, ByteArray.data_extract, Array.toList_append, Array.toList_extract]
  congr 1
  rw [List.extract_eq_take_drop, show (I + 4).toNat + j + 1 - ((I + 4).toNat + j) = 1 by omega, List.drop_eq_getElem_cons (show (I + 4).toNat + j < s.data.toList.length by rw [hl]; omega)]
  simp
theorem drop_add (l : List UInt8) (i j : Nat) : l.drop (i + j) = (l.drop i).drop j := by rw [List.drop_drop]

set_option maxHeartbeats 8000000 in
set_option maxRecDepth 100000 in
theorem refDecode_any (w : World) (s : ByteArray) (hs : s.size ≤ 12000) : Calls Tryd.prog 14 #[.string s] w (DecPost w s.data.toList) := by
  have hl : s.data.toList.length = s.size := rfl
  go_enter Tryd.func14, Tryd.ntmps14
  go_wp2
  go_loopg [3, 4] s.size (fun gk v3 v4 wr => RefRel w s gk v3 v4 wr)
  case atStart => exact ⟨[], 0, rfl, by omega, by omega, by simp, by simp, by simp, Kd.R_nil _ _ _ _ _, Below.refl _ _⟩
  case round =>
    obtain ⟨acts, I, rfl, hI0, hI1, rfl, hal, hdec, hR, hB⟩ := hrel
    have HD := Lib.hid hdec
    have HR := Lib.hid hR
    have HB := Lib.hid hB
    obtain ⟨A', c', e1, hc1, hC1⟩ := Kd.R_reads hR
    have e2 : (acts.map toS).length = acts.length := by simp
    rw [e2] at e1 hc1
    subst e1
    clear hdec hR hC1 hB e2
    by_cases hr0 : (s.size : Int) ≤ I
    · go_wp2
      go_ret
      have hd0 : decodeN (400 - acts.length) (s.data.toList.drop I.toNat) = [] := by
        rw [List.drop_eq_nil_of_le (by rw [hl]; omega)]; cases (400 - acts.length) <;> rfl
      exact ⟨_, rfl, by rw [HD.out, hd0, List.append_nil]; exact HR.out, HB.out⟩
    · have hrp : I < (s.size : Int) := by omega
      by_cases h4 : 400 ≤ acts.length
      · go_wp2
        go_ret
        have hd0 : decodeN (400 - acts.length) (s.data.toList.drop I.toNat) = [] := by rw [show 400 - acts.length = 0 from by omega]; rfl
        exact ⟨_, rfl, by rw [HD.out, hd0, List.append_nil]; exact HR.out, HB.out⟩
      · have h4' : acts.length < 400 := by omega
        clear hr0 h4
        obtain ⟨x0, hx0, b0, H0⟩ := at_hid s I I 0 hI0 (by omega)
        obtain ⟨x1, hx1, b1, H1⟩ := at_hid s I (I + 1) 1 hI0 (by omega)
        obtain ⟨x2, hx2, b2, H2⟩ := at_hid s I (I + 2) 2 hI0 (by omega)
        obtain ⟨x3, hx3, b3, H3⟩ := at_hid s I (I + 3) 3 hI0 (by omega)
        have HX0 := Lib.hid hx0
        have HX1 := Lib.hid hx1
        have HX2 := Lib.hid hx2
        have HX3 := Lib.hid hx3
        clear hx0 hx1 hx2 hx3
        have hkk : x0 % 9 = 0 ∨ x0 % 9 = 1 ∨ x0 % 9 = 2 ∨ x0 % 9 = 3 ∨ x0 % 9 = 4 ∨ x0 % 9 = 5 ∨ x0 % 9 = 6 ∨ x0 % 9 = 7 ∨ x0 % 9 = 8 := by omega
        have E0 : Hid (hd (s.data.toList.drop I.toNat) = x0) := Lib.hid HX0.out.symm
        have T1 : Hid (s.data.toList.drop (I + 1).toNat = (s.data.toList.drop I.toNat).tail) := Lib.hid (by rw [drop_tail]; congr 1; omega)
        have T2 : Hid (s.data.toList.drop (I + 2).toNat = (s.data.toList.drop I.toNat).tail.tail) := Lib.hid (by rw [drop_tail, drop_tail]; congr 1; omega)
        have T3 : Hid (s.data.toList.drop (I + 3).toNat = (s.data.toList.drop I.toNat).tail.tail.tail) := Lib.hid (by rw [drop_tail, drop_tail, drop_tail]; congr 1; omega)
        have T4 : Hid (s.data.toList.drop (I + 4).toNat = (s.data.toList.drop I.toNat).tail.tail.tail.tail) := Lib.hid (by rw [drop_tail, drop_tail, drop_tail, drop_tail]; congr 1; omega)
        have E1 : Hid (hd (s.data.toList.drop I.toNat).tail = x1) := Lib.hid (by rw [HX1.out, drop_tail])
        have E2 : Hid (hd (s.data.toList.drop I.toNat).tail.tail = x2) := Lib.hid (by rw [HX2.out, drop_tail, drop_tail])
        have E3 : Hid (hd (s.data.toList.drop I.toNat).tail.tail.tail = x3) := Lib.hid (by rw [HX3.out, drop_tail, drop_tail, drop_tail])
        have HLEN : Hid (0 < (s.data.toList.drop I.toNat).length) := Lib.hid (by rw [List.length_drop, hl]; omega)
        clear HX0 HX1 HX2 HX3
        rcases hkk with hk | hk | hk | hk | hk | hk | hk | hk | hk
        · go_wp2_with fail
          refine (H0.out _).mono ?_
          rintro e wa ⟨rfl, hda⟩
          have HBa : Hid (Below w.heap.size w wa) := Lib.hid (by obtain ⟨n, rfl⟩ := hda; exact pw_below_drewN HB.out n)
          have HRa : Hid (k26.R 26 wa w.heap.size (fun _ => True) (Value.slice A' acts.length c') (acts.map toS)) := Lib.hid (by obtain ⟨n, rfl⟩ := hda; exact Kd.R_drewN HR.out n)
          clear hda
          go_wp2_with fail
          refine (H1.out _).mono ?_
          rintro e wb ⟨rfl, hdb⟩
          have HD0 := Lib.hid ((DS.start HBa.out HRa.out (.int .u8 1) (.int .u8 0) (.int .i64 0) (.string ⟨#[]⟩) (.slice none 0 0) (.slice none 0 0)).drawn hdb)
          clear hdb
          obtain ⟨f0, f1, f2, f3, f4, f5⟩ := HD0.out.cells
          have q1 := HD0.out.free 1
          go_wp2_with fail
          refine (H2.out _).mono ?_
          rintro e w0x ⟨rfl, hdd⟩
          have HD1 := Lib.hid ((HD0.out.set1 (.int .u8 (1 + x1 % 5))).drawn hdd)
          clear hdd
          clear f0 f1 f2 f3 f4 f5 q1
          obtain ⟨f0, f1, f2, f3, f4, f5⟩ := HD1.out.cells
          go_wp2_with fail
          refine (H3.out _).mono ?_
          rintro e w1x ⟨rfl, hdd⟩
          have HD2 := Lib.hid (HD1.out.drawn hdd)
          clear hdd
          clear f0 f1 f2 f3 f4 f5
          obtain ⟨f0, f1, f2, f3, f4, f5⟩ := HD2.out.cells
          have HT0 := Lib.hid (show DS w w1x (Value.slice A' acts.length c') (acts.map toS) wa.heap.size (.int .u8 1) (.int .u8 (1 + x1 % 5)) (.int .i64 0) (.string ⟨((s.data.toList.drop (I + 4).toNat).take 0).toArray⟩) (.slice none 0 0) (.slice none 0 0) from by simpa using HD2.out)
          clear f0 f1 f2 f3 f4 f5
          have hn0 : 0 ≤ 256 * x2 + x3 := by omega
          go_wp2
          go_loopg [4, 8] (256 * x2 + x3).toNat (fun gk v4 v8 wr => TxRel w wa.heap.size (Value.slice A' acts.length c') (acts.map toS) (.int .u8 (1 + x1 % 5)) s I (256 * x2 + x3) gk v4 v8 wr)
          case atStart => exact ⟨0, by first | rfl | simp, rfl, by omega, Nat.zero_le _, HT0.out⟩
          case round =>
            obtain ⟨j, rfl, rfl, hgj, hjl, hds⟩ := hrel
            have HGJ := Lib.hid hgj
            have HD3 := Lib.hid hds
            have hjl' : j ≤ s.size := by rw [List.length_drop, hl] at hjl; omega
            have hjb : I + 4 + (j : Int) ≤ s.size + 4 := by rw [List.length_drop, hl] at hjl; omega
            have HJL := Lib.hid hjl
            clear hgj hds hjl HT0
            obtain ⟨f0, f1, f2, f3, f4, f5⟩ := HD3.out.cells
            have q3 := HD3.out.free 3
            by_cases hjn : (j : Int) < 256 * x2 + x3
            · by_cases hji : I + 4 + (j : Int) < (s.size : Int)
              · have htl : (⟨((s.data.toList.drop (I + 4).toNat).take j).toArray⟩ : ByteArray).size ≤ 12000 := by rw [tsz, List.length_take]; omega
                have hsl := slice_one s (I + 4 + (j : Int)) (by omega) (by omega)
                have hb0 : 0 ≤ I + 4 + (j : Int) := by omega
                have hb1 : I + 4 + (j : Int) + 1 ≤ (s.size : Int) := by omega
                have hb2 : I + 4 + (j : Int) + 1 ≤ 9223372036854775807 := by omega
                have hb3 : -9223372036854775808 ≤ I + 4 + (j : Int) + 1 := by omega
                have hb4 : 0 ≤ I + 4 + (j : Int) + 1 := by omega
                go_wp2_with fail
                go_region
                have hT := txt_step s I j hI0 hji
                have hset := (HD3.out.set3 (.string (⟨((s.data.toList.drop (I + 4).toNat).take j).toArray⟩ ++ s.extract (I + 4 + (j : Int)).toNat (I + 4 + (j : Int) + 1).toNat))).step (Below.refl _ _).drew
                rw [hT] at hset ⊢
                have HSET := Lib.hid hset
                clear hset hsl hT htl f0 f1 f2 f3 f4 f5 q3
                go_wp2
                go_roundg ((256 * x2 + x3).toNat - (j + 1))
                case measure => have := HGJ.out; omega
                case rel => exact ⟨j + 1, by first | rfl | (simp; omega) | (congr 1; omega), by simp, by omega, by have := HJL.out; rw [List.length_drop, hl] at this ⊢; omega, HSET.out⟩
              · have hend : Hid ((s.data.toList.drop (I + 4).toNat).length ≤ j) := Lib.hid (by rw [List.length_drop, hl]; omega)
                have htk : Hid ((s.data.toList.drop (I + 4).toNat).take j = (s.data.toList.drop (I + 4).toNat).take (256 * x2 + x3).toNat) := Lib.hid (by rw [List.take_of_length_le hend.out, List.take_of_length_le (by have := hend.out; omega)])
                have hdp : Hid ((s.data.toList.drop (I + 4).toNat).drop j = (s.data.toList.drop (I + 4).toNat).drop (256 * x2 + x3).toNat) := Lib.hid (by rw [List.drop_eq_nil_of_le hend.out, List.drop_eq_nil_of_le (by have := hend.out; omega)])
                clear q3
                have HF := Lib.hid HD3.out
                have HM := Lib.hid (PScriptTotal.k26_mkM (wr) w.heap.size (fun k => wa.heap.size < k) (toS (⟨1, 1 + x1 % 5, 0, (s.data.toList.drop (I + 4).toNat).take j, [], []⟩ : SAct)) (Kd.R_nil _ _ _ _ _) (Kd.R_nil _ _ _ _ _))
                have hokp : Hid (∀ k, wa.heap.size < k → True ∧ some k ≠ (Value.slice A' acts.length c').ownBlock) := Lib.hid (fun k hk => ⟨trivial, fun e => by have := HF.out.ro.1 k e.symm; omega⟩)
                have hzz : (wr).heap.size = wr.heap.size := by simp [World.setCell]
                have hbd : Hid (((acts.map toS).length + 1) * 80 ≤ 140737488355328) := Lib.hid (by rw [List.length_map]; omega)
                go_wp2_with (at_builtin; refine Kd.R_append k26 (w0 := w) (W := wr) w.heap.size rfl (.tmp 145) (.tmp 147) 27 26 (.agg #[.int .u8 0, .int .u8 0, .int .i64 0, .string ⟨#[]⟩, .slice none 0 0, .slice none 0 0]) 80 rfl Tryd.underlying27 info26 rfl (by decide) (by decide) (Value.slice A' acts.length c') (acts.map toS) (toS (⟨1, 1 + x1 % 5, 0, (s.data.toList.drop (I + 4).toNat).take j, [], []⟩ : SAct)) _ (fun _ => True) (fun k => wa.heap.size < k) rfl (by rw [hzz]; rfl) HM.out hokp.out (fun _ _ => trivial) (Kd.R_mono HF.out.ro (fun _ _ => trivial)) HF.out.bl HF.out.bl.size hbd.out ?_; intro v1 w2 hR1 hB1 hg1 hat1; have HR1 := Lib.hid hR1; have HB1 := Lib.hid hB1; clear hR1 hB1 hg1 hat1)
                clear hzz f0 f1 f2 f3 f4 f5
                go_wp2
                go_roundg (s.size - (I + 4 + (j : Int)).toNat)
                case measure => omega
                case rel =>
                  have ra : readAct (s.data.toList.drop I.toNat) = ((⟨1, 1 + x1 % 5, 0, (s.data.toList.drop (I + 4).toNat).take j, [], []⟩ : SAct), s.data.toList.drop (I + 4 + (j : Int)).toNat) := by
                    have hrest : s.data.toList.drop (I + 4 + (j : Int)).toNat = (s.data.toList.drop (I + 4).toNat).drop (256 * x2 + x3).toNat := by
                      rw [← hdp.out, List.drop_drop]; congr 1; omega
                    rw [hrest, htk.out, T4.out]
                    have e0 := E0.out; have e1 := E1.out; have e2 := E2.out; have e3 := E3.out; generalize s.data.toList.drop I.toNat = r at e0 e1 e2 e3 ⊢; simp [readAct, readBody, textLen, e0, e1, e2, e3, hk]
                  exact ⟨acts ++ [(⟨1, 1 + x1 % 5, 0, (s.data.toList.drop (I + 4).toNat).take j, [], []⟩ : SAct)], I + 4 + (j : Int), by first | rfl | (simp; done) | (congr 1; omega), by omega, by omega, rfl, by simp; omega, dec_step HD.out HLEN.out h4' (by rw [ra]) (by rw [ra]), by rw [List.map_append]; exact HR1.out, HB1.out⟩
            · have htk : Hid ((s.data.toList.drop (I + 4).toNat).take j = (s.data.toList.drop (I + 4).toNat).take (256 * x2 + x3).toNat) := Lib.hid (by rw [show j = (256 * x2 + x3).toNat by have := HGJ.out; omega])
              have hdp : Hid ((s.data.toList.drop (I + 4).toNat).drop j = (s.data.toList.drop (I + 4).toNat).drop (256 * x2 + x3).toNat) := Lib.hid (by rw [show j = (256 * x2 + x3).toNat by have := HGJ.out; omega])
              clear q3
              have HF := Lib.hid HD3.out
              have HM := Lib.hid (PScriptTotal.k26_mkM (wr) w.heap.size (fun k => wa.heap.size < k) (toS (⟨1, 1 + x1 % 5, 0, (s.data.toList.drop (I + 4).toNat).take j, [], []⟩ : SAct)) (Kd.R_nil _ _ _ _ _) (Kd.R_nil _ _ _ _ _))
              have hokp : Hid (∀ k, wa.heap.size < k → True ∧ some k ≠ (Value.slice A' acts.length c').ownBlock) := Lib.hid (fun k hk => ⟨trivial, fun e => by have := HF.out.ro.1 k e.symm; omega⟩)
              have hzz : (wr).heap.size = wr.heap.size := by simp [World.setCell]
              have hbd : Hid (((acts.map toS).length + 1) * 80 ≤ 140737488355328) := Lib.hid (by rw [List.length_map]; omega)
              go_wp2_with (at_builtin; refine Kd.R_append k26 (w0 := w) (W := wr) w.heap.size rfl (.tmp 145) (.tmp 147) 27 26 (.agg #[.int .u8 0, .int .u8 0, .int .i64 0, .string ⟨#[]⟩, .slice none 0 0, .slice none 0 0]) 80 rfl Tryd.underlying27 info26 rfl (by decide) (by decide) (Value.slice A' acts.length c') (acts.map toS) (toS (⟨1, 1 + x1 % 5, 0, (s.data.toList.drop (I + 4).toNat).take j, [], []⟩ : SAct)) _ (fun _ => True) (fun k => wa.heap.size < k) rfl (by rw [hzz]; rfl) HM.out hokp.out (fun _ _ => trivial) (Kd.R_mono HF.out.ro (fun _ _ => trivial)) HF.out.bl HF.out.bl.size hbd.out ?_; intro v1 w2 hR1 hB1 hg1 hat1; have HR1 := Lib.hid hR1; have HB1 := Lib.hid hB1; clear hR1 hB1 hg1 hat1)
              clear hzz f0 f1 f2 f3 f4 f5
              go_wp2
              go_roundg (s.size - (I + 4 + (j : Int)).toNat)
              case measure => omega
              case rel =>
                have ra : readAct (s.data.toList.drop I.toNat) = ((⟨1, 1 + x1 % 5, 0, (s.data.toList.drop (I + 4).toNat).take j, [], []⟩ : SAct), s.data.toList.drop (I + 4 + (j : Int)).toNat) := by
                  have hrest : s.data.toList.drop (I + 4 + (j : Int)).toNat = (s.data.toList.drop (I + 4).toNat).drop (256 * x2 + x3).toNat := by
                    rw [← hdp.out, List.drop_drop]; congr 1; omega
                  rw [hrest, htk.out, T4.out]
                  have e0 := E0.out; have e1 := E1.out; have e2 := E2.out; have e3 := E3.out; generalize s.data.toList.drop I.toNat = r at e0 e1 e2 e3 ⊢; simp [readAct, readBody, textLen, e0, e1, e2, e3, hk]
                exact ⟨acts ++ [(⟨1, 1 + x1 % 5, 0, (s.data.toList.drop (I + 4).toNat).take j, [], []⟩ : SAct)], I + 4 + (j : Int), by first | rfl | (simp; done) | (congr 1; omega), by omega, by omega, rfl, by simp; omega, dec_step HD.out HLEN.out h4' (by rw [ra]) (by rw [ra]), by rw [List.map_append]; exact HR1.out, HB1.out⟩
        · go_wp2_with fail
          refine (H0.out _).mono ?_
          rintro e wa ⟨rfl, hda⟩
          have HBa : Hid (Below w.heap.size w wa) := Lib.hid (by obtain ⟨n, rfl⟩ := hda; exact pw_below_drewN HB.out n)
          have HRa : Hid (k26.R 26 wa w.heap.size (fun _ => True) (Value.slice A' acts.length c') (acts.map toS)) := Lib.hid (by obtain ⟨n, rfl⟩ := hda; exact Kd.R_drewN HR.out n)
          clear hda
          go_wp2_with fail
          refine (H1.out _).mono ?_
          rintro e wb ⟨rfl, hdb⟩
          have HD0 := Lib.hid ((DS.start HBa.out HRa.out (.int .u8 2) (.int .u8 0) (.int .i64 0) (.string ⟨#[]⟩) (.slice none 0 0) (.slice none 0 0)).drawn hdb)
          clear hdb
          obtain ⟨f0, f1, f2, f3, f4, f5⟩ := HD0.out.cells
          have q2 := HD0.out.free 2
          go_wp2_with fail
          refine (H1.out _).mono ?_
          rintro e w0x ⟨rfl, hdd⟩
          have HD1 := Lib.hid (HD0.out.drawn hdd)
          clear hdd
          clear f0 f1 f2 f3 f4 f5 q2
          obtain ⟨f0, f1, f2, f3, f4, f5⟩ := HD1.out.cells
          have q2 := HD1.out.free 2
          have HF := Lib.hid (HD1.out.set2 (.int .i64 x1))
          obtain ⟨h0, h1, h2, h3, h4, h5⟩ := HF.out.cells
          have HM := Lib.hid (PScriptTotal.k26_mkM ((w0x.setCell ⟨wa.heap.size, 2, none⟩ (.int .i64 x1))) w.heap.size (fun k => wa.heap.size < k) (toS (⟨2, 0, x1, [], [], []⟩ : SAct)) (Kd.R_nil _ _ _ _ _) (Kd.R_nil _ _ _ _ _))
          have hokp : Hid (∀ k, wa.heap.size < k → True ∧ some k ≠ (Value.slice A' acts.length c').ownBlock) := Lib.hid (fun k hk => ⟨trivial, fun e => by have := HF.out.ro.1 k e.symm; omega⟩)
          have hzz : ((w0x.setCell ⟨wa.heap.size, 2, none⟩ (.int .i64 x1))).heap.size = w0x.heap.size := by simp [World.setCell]
          have hbd : Hid (((acts.map toS).length + 1) * 80 ≤ 140737488355328) := Lib.hid (by rw [List.length_map]; omega)
          go_wp2_with (at_builtin; refine Kd.R_append k26 (w0 := w) (W := (w0x.setCell ⟨wa.heap.size, 2, none⟩ (.int .i64 x1))) w.heap.size rfl (.tmp 145) (.tmp 147) 27 26 (.agg #[.int .u8 0, .int .u8 0, .int .i64 0, .string ⟨#[]⟩, .slice none 0 0, .slice none 0 0]) 80 rfl Tryd.underlying27 info26 rfl (by decide) (by decide) (Value.slice A' acts.length c') (acts.map toS) (toS (⟨2, 0, x1, [], [], []⟩ : SAct)) _ (fun _ => True) (fun k => wa.heap.size < k) rfl (by rw [hzz]; rfl) HM.out hokp.out (fun _ _ => trivial) (Kd.R_mono HF.out.ro (fun _ _ => trivial)) HF.out.bl HF.out.bl.size hbd.out ?_; intro v1 w2 hR1 hB1 hg1 hat1; have HR1 := Lib.hid hR1; have HB1 := Lib.hid hB1; clear hR1 hB1 hg1 hat1)
          clear hzz f0 f1 f2 f3 f4 f5 q2 h0 h1 h2 h3 h4 h5
          go_wp2
          go_roundg (s.size - (I + 2).toNat)
          case measure => omega
          case rel =>
            have ra : readAct (s.data.toList.drop I.toNat) = ((⟨2, 0, x1, [], [], []⟩ : SAct), s.data.toList.drop (I + 2).toNat) := by
              rw [T2.out]; have e0 := E0.out; have e1 := E1.out; have e2 := E2.out; have e3 := E3.out; generalize s.data.toList.drop I.toNat = r at e0 e1 e2 e3 ⊢; simp [readAct, readBody, e0, e1, e2, e3, hk]
            exact ⟨acts ++ [(⟨2, 0, x1, [], [], []⟩ : SAct)], I + 2, by first | rfl | (simp; done) | (congr 1; omega), by omega, by omega, rfl, by simp; omega, dec_step HD.out HLEN.out h4' (by rw [ra]) (by rw [ra]), by rw [List.map_append]; exact HR1.out, HB1.out⟩
        · go_wp2_with fail
          refine (H0.out _).mono ?_
          rintro e wa ⟨rfl, hda⟩
          have HBa : Hid (Below w.heap.size w wa) := Lib.hid (by obtain ⟨n, rfl⟩ := hda; exact pw_below_drewN HB.out n)
          have HRa : Hid (k26.R 26 wa w.heap.size (fun _ => True) (Value.slice A' acts.length c') (acts.map toS)) := Lib.hid (by obtain ⟨n, rfl⟩ := hda; exact Kd.R_drewN HR.out n)
          clear hda
          go_wp2_with fail
          refine (H1.out _).mono ?_
          rintro e wb ⟨rfl, hdb⟩
          have HD0 := Lib.hid ((DS.start HBa.out HRa.out (.int .u8 3) (.int .u8 0) (.int .i64 0) (.string ⟨#[]⟩) (.slice none 0 0) (.slice none 0 0)).drawn hdb)
          clear hdb
          obtain ⟨f0, f1, f2, f3, f4, f5⟩ := HD0.out.cells
          have q2 := HD0.out.free 2
          go_wp2_with fail
          refine (H1.out _).mono ?_
          rintro e w0x ⟨rfl, hdd⟩
          have HD1 := Lib.hid (HD0.out.drawn hdd)
          clear hdd
          clear f0 f1 f2 f3 f4 f5 q2
          obtain ⟨f0, f1, f2, f3, f4, f5⟩ := HD1.out.cells
          have q2 := HD1.out.free 2
          have HF := Lib.hid (HD1.out.set2 (.int .i64 x1))
          obtain ⟨h0, h1, h2, h3, h4, h5⟩ := HF.out.cells
          have HM := Lib.hid (PScriptTotal.k26_mkM ((w0x.setCell ⟨wa.heap.size, 2, none⟩ (.int .i64 x1))) w.heap.size (fun k => wa.heap.size < k) (toS (⟨3, 0, x1, [], [], []⟩ : SAct)) (Kd.R_nil _ _ _ _ _) (Kd.R_nil _ _ _ _ _))
          have hokp : Hid (∀ k, wa.heap.size < k → True ∧ some k ≠ (Value.slice A' acts.length c').ownBlock) := Lib.hid (fun k hk => ⟨trivial, fun e => by have := HF.out.ro.1 k e.symm; omega⟩)
          have hzz : ((w0x.setCell ⟨wa.heap.size, 2, none⟩ (.int .i64 x1))).heap.size = w0x.heap.size := by simp [World.setCell]
          have hbd : Hid (((acts.map toS).length + 1) * 80 ≤ 140737488355328) := Lib.hid (by rw [List.length_map]; omega)
          go_wp2_with (at_builtin; refine Kd.R_append k26 (w0 := w) (W := (w0x.setCell ⟨wa.heap.size, 2, none⟩ (.int .i64 x1))) w.heap.size rfl (.tmp 145) (.tmp 147) 27 26 (.agg #[.int .u8 0, .int .u8 0, .int .i64 0, .string ⟨#[]⟩, .slice none 0 0, .slice none 0 0]) 80 rfl Tryd.underlying27 info26 rfl (by decide) (by decide) (Value.slice A' acts.length c') (acts.map toS) (toS (⟨3, 0, x1, [], [], []⟩ : SAct)) _ (fun _ => True) (fun k => wa.heap.size < k) rfl (by rw [hzz]; rfl) HM.out hokp.out (fun _ _ => trivial) (Kd.R_mono HF.out.ro (fun _ _ => trivial)) HF.out.bl HF.out.bl.size hbd.out ?_; intro v1 w2 hR1 hB1 hg1 hat1; have HR1 := Lib.hid hR1; have HB1 := Lib.hid hB1; clear hR1 hB1 hg1 hat1)
          clear hzz f0 f1 f2 f3 f4 f5 q2 h0 h1 h2 h3 h4 h5
          go_wp2
          go_roundg (s.size - (I + 2).toNat)
          case measure => omega
          case rel =>
            have ra : readAct (s.data.toList.drop I.toNat) = ((⟨3, 0, x1, [], [], []⟩ : SAct), s.data.toList.drop (I + 2).toNat) := by
              rw [T2.out]; have e0 := E0.out; have e1 := E1.out; have e2 := E2.out; have e3 := E3.out; generalize s.data.toList.drop I.toNat = r at e0 e1 e2 e3 ⊢; simp [readAct, readBody, e0, e1, e2, e3, hk]
            exact ⟨acts ++ [(⟨3, 0, x1, [], [], []⟩ : SAct)], I + 2, by first | rfl | (simp; done) | (congr 1; omega), by omega, by omega, rfl, by simp; omega, dec_step HD.out HLEN.out h4' (by rw [ra]) (by rw [ra]), by rw [List.map_append]; exact HR1.out, HB1.out⟩
        · go_wp2_with fail
          refine (H0.out _).mono ?_
          rintro e wa ⟨rfl, hda⟩
          have HBa : Hid (Below w.heap.size w wa) := Lib.hid (by obtain ⟨n, rfl⟩ := hda; exact pw_below_drewN HB.out n)
          have HRa : Hid (k26.R 26 wa w.heap.size (fun _ => True) (Value.slice A' acts.length c') (acts.map toS)) := Lib.hid (by obtain ⟨n, rfl⟩ := hda; exact Kd.R_drewN HR.out n)
          clear hda
          go_wp2_with fail
          refine (H1.out _).mono ?_
          rintro e wb ⟨rfl, hdb⟩
          have HD0 := Lib.hid ((DS.start HBa.out HRa.out (.int .u8 4) (.int .u8 0) (.int .i64 0) (.string ⟨#[]⟩) (.slice none 0 0) (.slice none 0 0)).drawn hdb)
          clear hdb
          obtain ⟨f0, f1, f2, f3, f4, f5⟩ := HD0.out.cells
          have q2 := HD0.out.free 2
          go_wp2_with fail
          refine (H1.out _).mono ?_
          rintro e w0x ⟨rfl, hdd⟩
          have HD1 := Lib.hid (HD0.out.drawn hdd)
          clear hdd
          clear f0 f1 f2 f3 f4 f5 q2
          obtain ⟨f0, f1, f2, f3, f4, f5⟩ := HD1.out.cells
          have q2 := HD1.out.free 2
          have HF := Lib.hid (HD1.out.set2 (.int .i64 x1))
          obtain ⟨h0, h1, h2, h3, h4, h5⟩ := HF.out.cells
          have HM := Lib.hid (PScriptTotal.k26_mkM ((w0x.setCell ⟨wa.heap.size, 2, none⟩ (.int .i64 x1))) w.heap.size (fun k => wa.heap.size < k) (toS (⟨4, 0, x1, [], [], []⟩ : SAct)) (Kd.R_nil _ _ _ _ _) (Kd.R_nil _ _ _ _ _))
          have hokp : Hid (∀ k, wa.heap.size < k → True ∧ some k ≠ (Value.slice A' acts.length c').ownBlock) := Lib.hid (fun k hk => ⟨trivial, fun e => by have := HF.out.ro.1 k e.symm; omega⟩)
          have hzz : ((w0x.setCell ⟨wa.heap.size, 2, none⟩ (.int .i64 x1))).heap.size = w0x.heap.size := by simp [World.setCell]
          have hbd : Hid (((acts.map toS).length + 1) * 80 ≤ 140737488355328) := Lib.hid (by rw [List.length_map]; omega)
          go_wp2_with (at_builtin; refine Kd.R_append k26 (w0 := w) (W := (w0x.setCell ⟨wa.heap.size, 2, none⟩ (.int .i64 x1))) w.heap.size rfl (.tmp 145) (.tmp 147) 27 26 (.agg #[.int .u8 0, .int .u8 0, .int .i64 0, .string ⟨#[]⟩, .slice none 0 0, .slice none 0 0]) 80 rfl Tryd.underlying27 info26 rfl (by decide) (by decide) (Value.slice A' acts.length c') (acts.map toS) (toS (⟨4, 0, x1, [], [], []⟩ : SAct)) _ (fun _ => True) (fun k => wa.heap.size < k) rfl (by rw [hzz]; rfl) HM.out hokp.out (fun _ _ => trivial) (Kd.R_mono HF.out.ro (fun _ _ => trivial)) HF.out.bl HF.out.bl.size hbd.out ?_; intro v1 w2 hR1 hB1 hg1 hat1; have HR1 := Lib.hid hR1; have HB1 := Lib.hid hB1; clear hR1 hB1 hg1 hat1)
          clear hzz f0 f1 f2 f3 f4 f5 q2 h0 h1 h2 h3 h4 h5
          go_wp2
          go_roundg (s.size - (I + 2).toNat)
          case measure => omega
          case rel =>
            have ra : readAct (s.data.toList.drop I.toNat) = ((⟨4, 0, x1, [], [], []⟩ : SAct), s.data.toList.drop (I + 2).toNat) := by
              rw [T2.out]; have e0 := E0.out; have e1 := E1.out; have e2 := E2.out; have e3 := E3.out; generalize s.data.toList.drop I.toNat = r at e0 e1 e2 e3 ⊢; simp [readAct, readBody, e0, e1, e2, e3, hk]
            exact ⟨acts ++ [(⟨4, 0, x1, [], [], []⟩ : SAct)], I + 2, by first | rfl | (simp; done) | (congr 1; omega), by omega, by omega, rfl, by simp; omega, dec_step HD.out HLEN.out h4' (by rw [ra]) (by rw [ra]), by rw [List.map_append]; exact HR1.out, HB1.out⟩
        · go_wp2_with fail
          refine (H0.out _).mono ?_
          rintro e wa ⟨rfl, hda⟩
          have HBa : Hid (Below w.heap.size w wa) := Lib.hid (by obtain ⟨n, rfl⟩ := hda; exact pw_below_drewN HB.out n)
          have HRa : Hid (k26.R 26 wa w.heap.size (fun _ => True) (Value.slice A' acts.length c') (acts.map toS)) := Lib.hid (by obtain ⟨n, rfl⟩ := hda; exact Kd.R_drewN HR.out n)
          clear hda
          go_wp2_with fail
          refine (H1.out _).mono ?_
          rintro e wb ⟨rfl, hdb⟩
          have HD0 := Lib.hid ((DS.start HBa.out HRa.out (.int .u8 5) (.int .u8 0) (.int .i64 0) (.string ⟨#[]⟩) (.slice none 0 0) (.slice none 0 0)).drawn hdb)
          clear hdb
          obtain ⟨f0, f1, f2, f3, f4, f5⟩ := HD0.out.cells
          have q1 := HD0.out.free 1
          go_wp2_with fail
          refine (H2.out _).mono ?_
          rintro e w0x ⟨rfl, hdd⟩
          have HD1 := Lib.hid ((HD0.out.set1 (.int .u8 (1 + x1 % 5))).drawn hdd)
          clear hdd
          clear f0 f1 f2 f3 f4 f5 q1
          obtain ⟨f0, f1, f2, f3, f4, f5⟩ := HD1.out.cells
          have q2 := HD1.out.free 2
          have HF := Lib.hid (HD1.out.set2 (.int .i64 x2))
          obtain ⟨h0, h1, h2, h3, h4, h5⟩ := HF.out.cells
          have HM := Lib.hid (PScriptTotal.k26_mkM ((w0x.setCell ⟨wa.heap.size, 2, none⟩ (.int .i64 x2))) w.heap.size (fun k => wa.heap.size < k) (toS (⟨5, 1 + x1 % 5, x2, [], [], []⟩ : SAct)) (Kd.R_nil _ _ _ _ _) (Kd.R_nil _ _ _ _ _))
          have hokp : Hid (∀ k, wa.heap.size < k → True ∧ some k ≠ (Value.slice A' acts.length c').ownBlock) := Lib.hid (fun k hk => ⟨trivial, fun e => by have := HF.out.ro.1 k e.symm; omega⟩)
          have hzz : ((w0x.setCell ⟨wa.heap.size, 2, none⟩ (.int .i64 x2))).heap.size = w0x.heap.size := by simp [World.setCell]
          have hbd : Hid (((acts.map toS).length + 1) * 80 ≤ 140737488355328) := Lib.hid (by rw [List.length_map]; omega)
          go_wp2_with (at_builtin; refine Kd.R_append k26 (w0 := w) (W := (w0x.setCell ⟨wa.heap.size, 2, none⟩ (.int .i64 x2))) w.heap.size rfl (.tmp 145) (.tmp 147) 27 26 (.agg #[.int .u8 0, .int .u8 0, .int .i64 0, .string ⟨#[]⟩, .slice none 0 0, .slice none 0 0]) 80 rfl Tryd.underlying27 info26 rfl (by decide) (by decide) (Value.slice A' acts.length c') (acts.map toS) (toS (⟨5, 1 + x1 % 5, x2, [], [], []⟩ : SAct)) _ (fun _ => True) (fun k => wa.heap.size < k) rfl (by rw [hzz]; rfl) HM.out hokp.out (fun _ _ => trivial) (Kd.R_mono HF.out.ro (fun _ _ => trivial)) HF.out.bl HF.out.bl.size hbd.out ?_; intro v1 w2 hR1 hB1 hg1 hat1; have HR1 := Lib.hid hR1; have HB1 := Lib.hid hB1; clear hR1 hB1 hg1 hat1)
          clear hzz f0 f1 f2 f3 f4 f5 q2 h0 h1 h2 h3 h4 h5
          go_wp2
          go_roundg (s.size - (I + 3).toNat)
          case measure => omega
          case rel =>
            have ra : readAct (s.data.toList.drop I.toNat) = ((⟨5, 1 + x1 % 5, x2, [], [], []⟩ : SAct), s.data.toList.drop (I + 3).toNat) := by
              rw [T3.out]; have e0 := E0.out; have e1 := E1.out; have e2 := E2.out; have e3 := E3.out; generalize s.data.toList.drop I.toNat = r at e0 e1 e2 e3 ⊢; simp [readAct, readBody, e0, e1, e2, e3, hk]
            exact ⟨acts ++ [(⟨5, 1 + x1 % 5, x2, [], [], []⟩ : SAct)], I + 3, by first | rfl | (simp; done) | (congr 1; omega), by omega, by omega, rfl, by simp; omega, dec_step HD.out HLEN.out h4' (by rw [ra]) (by rw [ra]), by rw [List.map_append]; exact HR1.out, HB1.out⟩
        · go_wp2_with fail
          refine (H0.out _).mono ?_
          rintro e wa ⟨rfl, hda⟩
          have HBa : Hid (Below w.heap.size w wa) := Lib.hid (by obtain ⟨n, rfl⟩ := hda; exact pw_below_drewN HB.out n)
          have HRa : Hid (k26.R 26 wa w.heap.size (fun _ => True) (Value.slice A' acts.length c') (acts.map toS)) := Lib.hid (by obtain ⟨n, rfl⟩ := hda; exact Kd.R_drewN HR.out n)
          clear hda
          go_wp2_with fail
          refine (H1.out _).mono ?_
          rintro e wb ⟨rfl, hdb⟩
          have HD0 := Lib.hid ((DS.start HBa.out HRa.out (.int .u8 6) (.int .u8 0) (.int .i64 0) (.string ⟨#[]⟩) (.slice none 0 0) (.slice none 0 0)).drawn hdb)
          clear hdb
          have hcr := crash_ref s (I + 3) (by omega) (by omega)
          rw [T3.out] at hcr
          obtain ⟨xc, hxc⟩ : ∃ x, x = hd ((s.data.toList.drop I.toNat).tail.tail.tail) := ⟨_, rfl⟩
          have bc := hd_bd' ((s.data.toList.drop I.toNat).tail.tail.tail)
          rw [← hxc] at hcr bc
          obtain ⟨ks, hks⟩ : ∃ ks, ks = (readCrash (xc % 8).toNat ((s.data.toList.drop I.toNat).tail.tail.tail.tail) [] []).1 := ⟨_, rfl⟩
          obtain ⟨ts, hts⟩ : ∃ ts, ts = (readCrash (xc % 8).toNat ((s.data.toList.drop I.toNat).tail.tail.tail.tail) [] []).2.1 := ⟨_, rfl⟩
          rw [← hks, ← hts] at hcr
          have HCR := Lib.hid hcr
          have HXC := Lib.hid hxc
          have HKS := Lib.hid hks
          have HTS := Lib.hid hts
          clear hcr hxc hks hts
          obtain ⟨f0, f1, f2, f3, f4, f5⟩ := HD0.out.cells
          have q1 := HD0.out.free 1
          go_wp2_with fail
          refine (H2.out _).mono ?_
          rintro e w0x ⟨rfl, hdd⟩
          have HD1 := Lib.hid ((HD0.out.set1 (.int .u8 (1 + x1 % 5))).drawn hdd)
          clear hdd
          clear f0 f1 f2 f3 f4 f5 q1
          obtain ⟨f0, f1, f2, f3, f4, f5⟩ := HD1.out.cells
          have q2 := HD1.out.free 2
          go_wp2_with fail
          have HDc := Lib.hid (HD1.out.set2 (.int .i64 x2))
          refine (HCR.out _).mono ?_
          rintro e w1x ⟨u0, u1, rfl, hr0, hr1, hbc⟩
          obtain ⟨B0, p0, rfl, _, _⟩ := Kd.R_reads hr0
          obtain ⟨B1, p1, rfl, _, _⟩ := Kd.R_reads hr1
          have HD2 := Lib.hid (HDc.out.step hbc)
          have hgc := HDc.out.lt
          have HU0 := Lib.hid (Kd.R_mono (ok' := fun k => wa.heap.size < k) (Kd.R_lower (Kd.R_bound hr0) HDc.out.bl.size) (fun k hk => Nat.lt_of_lt_of_le hgc hk.2.1))
          have HU1 := Lib.hid (Kd.R_mono (ok' := fun k => wa.heap.size < k) (Kd.R_lower (Kd.R_bound hr1) HDc.out.bl.size) (fun k hk => Nat.lt_of_lt_of_le hgc hk.2.1))
          clear hr0 hr1 hbc hgc
          clear f0 f1 f2 f3 f4 f5 q2
          obtain ⟨f0, f1, f2, f3, f4, f5⟩ := HD2.out.cells
          have q4 := HD2.out.free 4
          have q5 := HD2.out.free 5
          have HF := Lib.hid ((HD2.out.set4 (.slice B0 ks.length p0)).set5 (.slice B1 ts.length p1))
          obtain ⟨h0, h1, h2, h3, h4, h5⟩ := HF.out.cells
          have HV0 : Hid (Kd.R (Kd.int .i64) 3 ((w1x.setCell ⟨wa.heap.size, 4, none⟩ (.slice B0 ks.length p0)).setCell ⟨wa.heap.size, 5, none⟩ (.slice B1 ts.length p1)) w.heap.size (fun k => wa.heap.size < k) (.slice B0 ks.length p0) ks) := Lib.hid (Kd.R_far (Kd.R_far HU0.out (p := ⟨wa.heap.size, 4, none⟩) (fun k hk => by simp only at hk ⊢; omega) _) (p := ⟨wa.heap.size, 5, none⟩) (fun k hk => by simp only at hk ⊢; omega) _)
          have HV1 : Hid (Kd.R (Kd.int .i64) 3 ((w1x.setCell ⟨wa.heap.size, 4, none⟩ (.slice B0 ks.length p0)).setCell ⟨wa.heap.size, 5, none⟩ (.slice B1 ts.length p1)) w.heap.size (fun k => wa.heap.size < k) (.slice B1 ts.length p1) ts) := Lib.hid (Kd.R_far (Kd.R_far HU1.out (p := ⟨wa.heap.size, 4, none⟩) (fun k hk => by simp only at hk ⊢; omega) _) (p := ⟨wa.heap.size, 5, none⟩) (fun k hk => by simp only at hk ⊢; omega) _)
          have HM := Lib.hid (PScriptTotal.k26_mkM (((w1x.setCell ⟨wa.heap.size, 4, none⟩ (.slice B0 ks.length p0)).setCell ⟨wa.heap.size, 5, none⟩ (.slice B1 ts.length p1))) w.heap.size (fun k => wa.heap.size < k) (toS (⟨6, 1 + x1 % 5, x2, [], ks, ts⟩ : SAct)) HV0.out HV1.out)
          have hokp : Hid (∀ k, wa.heap.size < k → True ∧ some k ≠ (Value.slice A' acts.length c').ownBlock) := Lib.hid (fun k hk => ⟨trivial, fun e => by have := HF.out.ro.1 k e.symm; omega⟩)
          have hzz : (((w1x.setCell ⟨wa.heap.size, 4, none⟩ (.slice B0 ks.length p0)).setCell ⟨wa.heap.size, 5, none⟩ (.slice B1 ts.length p1))).heap.size = w1x.heap.size := by simp [World.setCell]
          have hbd : Hid (((acts.map toS).length + 1) * 80 ≤ 140737488355328) := Lib.hid (by rw [List.length_map]; omega)
          go_wp2_with (at_builtin; refine Kd.R_append k26 (w0 := w) (W := ((w1x.setCell ⟨wa.heap.size, 4, none⟩ (.slice B0 ks.length p0)).setCell ⟨wa.heap.size, 5, none⟩ (.slice B1 ts.length p1))) w.heap.size rfl (.tmp 145) (.tmp 147) 27 26 (.agg #[.int .u8 0, .int .u8 0, .int .i64 0, .string ⟨#[]⟩, .slice none 0 0, .slice none 0 0]) 80 rfl Tryd.underlying27 info26 rfl (by decide) (by decide) (Value.slice A' acts.length c') (acts.map toS) (toS (⟨6, 1 + x1 % 5, x2, [], ks, ts⟩ : SAct)) _ (fun _ => True) (fun k => wa.heap.size < k) rfl (by rw [hzz]; rfl) HM.out hokp.out (fun _ _ => trivial) (Kd.R_mono HF.out.ro (fun _ _ => trivial)) HF.out.bl HF.out.bl.size hbd.out ?_; intro v1 w2 hR1 hB1 hg1 hat1; have HR1 := Lib.hid hR1; have HB1 := Lib.hid hB1; clear hR1 hB1 hg1 hat1)
          clear hzz f0 f1 f2 f3 f4 f5 q4 q5 h0 h1 h2 h3 h4 h5
          go_wp2
          go_roundg (s.size - (I + 3 + 1 + 2 * (xc % 8)).toNat)
          case measure => omega
          case rel =>
            have ra : readAct (s.data.toList.drop I.toNat) = ((⟨6, 1 + x1 % 5, x2, [], ks, ts⟩ : SAct), s.data.toList.drop (I + 3 + 1 + 2 * (xc % 8)).toNat) := by
              have hrest : s.data.toList.drop (I + 3 + 1 + 2 * (xc % 8)).toNat = (readCrash (xc % 8).toNat ((s.data.toList.drop I.toNat).tail.tail.tail.tail) [] []).2.2 := by
                rw [readCrash_drop, ← T4.out, List.drop_drop]; congr 1; omega
              rw [hrest, HKS.out, HTS.out]
              have e0 := E0.out; have e1 := E1.out; have e2 := E2.out; have e3 := E3.out; have e4 := HXC.out; generalize s.data.toList.drop I.toNat = r at e0 e1 e2 e3 e4 ⊢; simp [readAct, readBody, e0, e1, e2, e3, hk, e4]
            exact ⟨acts ++ [(⟨6, 1 + x1 % 5, x2, [], ks, ts⟩ : SAct)], I + 3 + 1 + 2 * (xc % 8), by first | rfl | (simp; done) | (congr 1; omega), by omega, by omega, rfl, by simp; omega, dec_step HD.out HLEN.out h4' (by rw [ra]) (by rw [ra]), by rw [List.map_append]; exact HR1.out, HB1.out⟩
        · go_wp2_with fail
          refine (H0.out _).mono ?_
          rintro e wa ⟨rfl, hda⟩
          have HBa : Hid (Below w.heap.size w wa) := Lib.hid (by obtain ⟨n, rfl⟩ := hda; exact pw_below_drewN HB.out n)
          have HRa : Hid (k26.R 26 wa w.heap.size (fun _ => True) (Value.slice A' acts.length c') (acts.map toS)) := Lib.hid (by obtain ⟨n, rfl⟩ := hda; exact Kd.R_drewN HR.out n)
          clear hda
          go_wp2_with fail
          refine (H1.out _).mono ?_
          rintro e wb ⟨rfl, hdb⟩
          have HD0 := Lib.hid ((DS.start HBa.out HRa.out (.int .u8 7) (.int .u8 0) (.int .i64 0) (.string ⟨#[]⟩) (.slice none 0 0) (.slice none 0 0)).drawn hdb)
          clear hdb
          have hcr := crash_ref s (I + 2) (by omega) (by omega)
          rw [T2.out] at hcr
          obtain ⟨xc, hxc⟩ : ∃ x, x = hd ((s.data.toList.drop I.toNat).tail.tail) := ⟨_, rfl⟩
          have bc := hd_bd' ((s.data.toList.drop I.toNat).tail.tail)
          rw [← hxc] at hcr bc
          obtain ⟨ks, hks⟩ : ∃ ks, ks = (readCrash (xc % 8).toNat ((s.data.toList.drop I.toNat).tail.tail.tail) [] []).1 := ⟨_, rfl⟩
          obtain ⟨ts, hts⟩ : ∃ ts, ts = (readCrash (xc % 8).toNat ((s.data.toList.drop I.toNat).tail.tail.tail) [] []).2.1 := ⟨_, rfl⟩
          rw [← hks, ← hts] at hcr
          have HCR := Lib.hid hcr
          have HXC := Lib.hid hxc
          have HKS := Lib.hid hks
          have HTS := Lib.hid hts
          clear hcr hxc hks hts
          obtain ⟨f0, f1, f2, f3, f4, f5⟩ := HD0.out.cells
          have q1 := HD0.out.free 1
          go_wp2_with fail
          have HDc := Lib.hid (HD0.out.set1 (.int .u8 (1 + x1 % 5)))
          refine (HCR.out _).mono ?_
          rintro e w0x ⟨u0, u1, rfl, hr0, hr1, hbc⟩
          obtain ⟨B0, p0, rfl, _, _⟩ := Kd.R_reads hr0
          obtain ⟨B1, p1, rfl, _, _⟩ := Kd.R_reads hr1
          have HD1 := Lib.hid (HDc.out.step hbc)
          have hgc := HDc.out.lt
          have HU0 := Lib.hid (Kd.R_mono (ok' := fun k => wa.heap.size < k) (Kd.R_lower (Kd.R_bound hr0) HDc.out.bl.size) (fun k hk => Nat.lt_of_lt_of_le hgc hk.2.1))
          have HU1 := Lib.hid (Kd.R_mono (ok' := fun k => wa.heap.size < k) (Kd.R_lower (Kd.R_bound hr1) HDc.out.bl.size) (fun k hk => Nat.lt_of_lt_of_le hgc hk.2.1))
          clear hr0 hr1 hbc hgc
          clear f0 f1 f2 f3 f4 f5 q1
          obtain ⟨f0, f1, f2, f3, f4, f5⟩ := HD1.out.cells
          have q4 := HD1.out.free 4
          have q5 := HD1.out.free 5
          have HF := Lib.hid ((HD1.out.set4 (.slice B0 ks.length p0)).set5 (.slice B1 ts.length p1))
          obtain ⟨h0, h1, h2, h3, h4, h5⟩ := HF.out.cells
          have HV0 : Hid (Kd.R (Kd.int .i64) 3 ((w0x.setCell ⟨wa.heap.size, 4, none⟩ (.slice B0 ks.length p0)).setCell ⟨wa.heap.size, 5, none⟩ (.slice B1 ts.length p1)) w.heap.size (fun k => wa.heap.size < k) (.slice B0 ks.length p0) ks) := Lib.hid (Kd.R_far (Kd.R_far HU0.out (p := ⟨wa.heap.size, 4, none⟩) (fun k hk => by simp only at hk ⊢; omega) _) (p := ⟨wa.heap.size, 5, none⟩) (fun k hk => by simp only at hk ⊢; omega) _)
          have HV1 : Hid (Kd.R (Kd.int .i64) 3 ((w0x.setCell ⟨wa.heap.size, 4, none⟩ (.slice B0 ks.length p0)).setCell ⟨wa.heap.size, 5, none⟩ (.slice B1 ts.length p1)) w.heap.size (fun k => wa.heap.size < k) (.slice B1 ts.length p1) ts) := Lib.hid (Kd.R_far (Kd.R_far HU1.out (p := ⟨wa.heap.size, 4, none⟩) (fun k hk => by simp only at hk ⊢; omega) _) (p := ⟨wa.heap.size, 5, none⟩) (fun k hk => by simp only at hk ⊢; omega) _)
          have HM := Lib.hid (PScriptTotal.k26_mkM (((w0x.setCell ⟨wa.heap.size, 4, none⟩ (.slice B0 ks.length p0)).setCell ⟨wa.heap.size, 5, none⟩ (.slice B1 ts.length p1))) w.heap.size (fun k => wa.heap.size < k) (toS (⟨7, 1 + x1 % 5, 0, [], ks, ts⟩ : SAct)) HV0.out HV1.out)
          have hokp : Hid (∀ k, wa.heap.size < k → True ∧ some k ≠ (Value.slice A' acts.length c').ownBlock) := Lib.hid (fun k hk => ⟨trivial, fun e => by have := HF.out.ro.1 k e.symm; omega⟩)
          have hzz : (((w0x.setCell ⟨wa.heap.size, 4, none⟩ (.slice B0 ks.length p0)).setCell ⟨wa.heap.size, 5, none⟩ (.slice B1 ts.length p1))).heap.size = w0x.heap.size := by simp [World.setCell]
          have hbd : Hid (((acts.map toS).length + 1) * 80 ≤ 140737488355328) := Lib.hid (by rw [List.length_map]; omega)
          go_wp2_with (at_builtin; refine Kd.R_append k26 (w0 := w) (W := ((w0x.setCell ⟨wa.heap.size, 4, none⟩ (.slice B0 ks.length p0)).setCell ⟨wa.heap.size, 5, none⟩ (.slice B1 ts.length p1))) w.heap.size rfl (.tmp 145) (.tmp 147) 27 26 (.agg #[.int .u8 0, .int .u8 0, .int .i64 0, .string ⟨#[]⟩, .slice none 0 0, .slice none 0 0]) 80 rfl Tryd.underlying27 info26 rfl (by decide) (by decide) (Value.slice A' acts.length c') (acts.map toS) (toS (⟨7, 1 + x1 % 5, 0, [], ks, ts⟩ : SAct)) _ (fun _ => True) (fun k => wa.heap.size < k) rfl (by rw [hzz]; rfl) HM.out hokp.out (fun _ _ => trivial) (Kd.R_mono HF.out.ro (fun _ _ => trivial)) HF.out.bl HF.out.bl.size hbd.out ?_; intro v1 w2 hR1 hB1 hg1 hat1; have HR1 := Lib.hid hR1; have HB1 := Lib.hid hB1; clear hR1 hB1 hg1 hat1)
          clear hzz f0 f1 f2 f3 f4 f5 q4 q5 h0 h1 h2 h3 h4 h5
          go_wp2
          go_roundg (s.size - (I + 2 + 1 + 2 * (xc % 8)).toNat)
          case measure => omega
          case rel =>
            have ra : readAct (s.data.toList.drop I.toNat) = ((⟨7, 1 + x1 % 5, 0, [], ks, ts⟩ : SAct), s.data.toList.drop (I + 2 + 1 + 2 * (xc % 8)).toNat) := by
              have hrest : s.data.toList.drop (I + 2 + 1 + 2 * (xc % 8)).toNat = (readCrash (xc % 8).toNat ((s.data.toList.drop I.toNat).tail.tail.tail) [] []).2.2 := by
                rw [readCrash_drop, ← T3.out, List.drop_drop]; congr 1; omega
              rw [hrest, HKS.out, HTS.out]
              have e0 := E0.out; have e1 := E1.out; have e2 := E2.out; have e3 := E3.out; have e4 := HXC.out; generalize s.data.toList.drop I.toNat = r at e0 e1 e2 e3 e4 ⊢; simp [readAct, readBody, e0, e1, e2, e3, hk, e4]
            exact ⟨acts ++ [(⟨7, 1 + x1 % 5, 0, [], ks, ts⟩ : SAct)], I + 2 + 1 + 2 * (xc % 8), by first | rfl | (simp; done) | (congr 1; omega), by omega, by omega, rfl, by simp; omega, dec_step HD.out HLEN.out h4' (by rw [ra]) (by rw [ra]), by rw [List.map_append]; exact HR1.out, HB1.out⟩
        · go_wp2_with fail
          refine (H0.out _).mono ?_
          rintro e wa ⟨rfl, hda⟩
          have HBa : Hid (Below w.heap.size w wa) := Lib.hid (by obtain ⟨n, rfl⟩ := hda; exact pw_below_drewN HB.out n)
          have HRa : Hid (k26.R 26 wa w.heap.size (fun _ => True) (Value.slice A' acts.length c') (acts.map toS)) := Lib.hid (by obtain ⟨n, rfl⟩ := hda; exact Kd.R_drewN HR.out n)
          clear hda
          go_wp2_with fail
          refine (H1.out _).mono ?_
          rintro e wb ⟨rfl, hdb⟩
          have HD0 := Lib.hid ((DS.start HBa.out HRa.out (.int .u8 8) (.int .u8 0) (.int .i64 0) (.string ⟨#[]⟩) (.slice none 0 0) (.slice none 0 0)).drawn hdb)
          clear hdb
          obtain ⟨f0, f1, f2, f3, f4, f5⟩ := HD0.out.cells
          have q1 := HD0.out.free 1
          have HF := Lib.hid (HD0.out.set1 (.int .u8 (1 + x1 % 5)))
          obtain ⟨h0, h1, h2, h3, h4, h5⟩ := HF.out.cells
          have HM := Lib.hid (PScriptTotal.k26_mkM ((wb.setCell ⟨wa.heap.size, 1, none⟩ (.int .u8 (1 + x1 % 5)))) w.heap.size (fun k => wa.heap.size < k) (toS (⟨8, 1 + x1 % 5, 0, [], [], []⟩ : SAct)) (Kd.R_nil _ _ _ _ _) (Kd.R_nil _ _ _ _ _))
          have hokp : Hid (∀ k, wa.heap.size < k → True ∧ some k ≠ (Value.slice A' acts.length c').ownBlock) := Lib.hid (fun k hk => ⟨trivial, fun e => by have := HF.out.ro.1 k e.symm; omega⟩)
          have hzz : ((wb.setCell ⟨wa.heap.size, 1, none⟩ (.int .u8 (1 + x1 % 5)))).heap.size = wb.heap.size := by simp [World.setCell]
          have hbd : Hid (((acts.map toS).length + 1) * 80 ≤ 140737488355328) := Lib.hid (by rw [List.length_map]; omega)
          go_wp2_with (at_builtin; refine Kd.R_append k26 (w0 := w) (W := (wb.setCell ⟨wa.heap.size, 1, none⟩ (.int .u8 (1 + x1 % 5)))) w.heap.size rfl (.tmp 145) (.tmp 147) 27 26 (.agg #[.int .u8 0, .int .u8 0, .int .i64 0, .string ⟨#[]⟩, .slice none 0 0, .slice none 0 0]) 80 rfl Tryd.underlying27 info26 rfl (by decide) (by decide) (Value.slice A' acts.length c') (acts.map toS) (toS (⟨8, 1 + x1 % 5, 0, [], [], []⟩ : SAct)) _ (fun _ => True) (fun k => wa.heap.size < k) rfl (by rw [hzz]; rfl) HM.out hokp.out (fun _ _ => trivial) (Kd.R_mono HF.out.ro (fun _ _ => trivial)) HF.out.bl HF.out.bl.size hbd.out ?_; intro v1 w2 hR1 hB1 hg1 hat1; have HR1 := Lib.hid hR1; have HB1 := Lib.hid hB1; clear hR1 hB1 hg1 hat1)
          clear hzz f0 f1 f2 f3 f4 f5 q1 h0 h1 h2 h3 h4 h5
          go_wp2
          go_roundg (s.size - (I + 2).toNat)
          case measure => omega
          case rel =>
            have ra : readAct (s.data.toList.drop I.toNat) = ((⟨8, 1 + x1 % 5, 0, [], [], []⟩ : SAct), s.data.toList.drop (I + 2).toNat) := by
              rw [T2.out]; have e0 := E0.out; have e1 := E1.out; have e2 := E2.out; have e3 := E3.out; generalize s.data.toList.drop I.toNat = r at e0 e1 e2 e3 ⊢; simp [readAct, readBody, e0, e1, e2, e3, hk]
            exact ⟨acts ++ [(⟨8, 1 + x1 % 5, 0, [], [], []⟩ : SAct)], I + 2, by first | rfl | (simp; done) | (congr 1; omega), by omega, by omega, rfl, by simp; omega, dec_step HD.out HLEN.out h4' (by rw [ra]) (by rw [ra]), by rw [List.map_append]; exact HR1.out, HB1.out⟩
        · go_wp2_with fail
          refine (H0.out _).mono ?_
          rintro e wa ⟨rfl, hda⟩
          have HBa : Hid (Below w.heap.size w wa) := Lib.hid (by obtain ⟨n, rfl⟩ := hda; exact pw_below_drewN HB.out n)
          have HRa : Hid (k26.R 26 wa w.heap.size (fun _ => True) (Value.slice A' acts.length c') (acts.map toS)) := Lib.hid (by obtain ⟨n, rfl⟩ := hda; exact Kd.R_drewN HR.out n)
          clear hda
          go_wp2_with fail
          refine (H1.out _).mono ?_
          rintro e wb ⟨rfl, hdb⟩
          have HD0 := Lib.hid ((DS.start HBa.out HRa.out (.int .u8 9) (.int .u8 0) (.int .i64 0) (.string ⟨#[]⟩) (.slice none 0 0) (.slice none 0 0)).drawn hdb)
          clear hdb
          obtain ⟨f0, f1, f2, f3, f4, f5⟩ := HD0.out.cells
          have q1 := HD0.out.free 1
          go_wp2_with fail
          refine (H1.out _).mono ?_
          rintro e w0x ⟨rfl, hdd⟩
          have HD1 := Lib.hid (HD0.out.drawn hdd)
          clear hdd
          clear f0 f1 f2 f3 f4 f5 q1
          obtain ⟨f0, f1, f2, f3, f4, f5⟩ := HD1.out.cells
          have q1 := HD1.out.free 1
          go_wp2_with fail
          refine (H2.out _).mono ?_
          rintro e w1x ⟨rfl, hdd⟩
          have HD2 := Lib.hid ((HD1.out.set1 (.int .u8 (x1 % 32))).drawn hdd)
          clear hdd
          clear f0 f1 f2 f3 f4 f5 q1
          obtain ⟨f0, f1, f2, f3, f4, f5⟩ := HD2.out.cells
          have q2 := HD2.out.free 2
          have HF := Lib.hid (HD2.out.set2 (.int .i64 x2))
          obtain ⟨h0, h1, h2, h3, h4, h5⟩ := HF.out.cells
          have HM := Lib.hid (PScriptTotal.k26_mkM ((w1x.setCell ⟨wa.heap.size, 2, none⟩ (.int .i64 x2))) w.heap.size (fun k => wa.heap.size < k) (toS (⟨9, x1 % 32, x2, [], [], []⟩ : SAct)) (Kd.R_nil _ _ _ _ _) (Kd.R_nil _ _ _ _ _))
          have hokp : Hid (∀ k, wa.heap.size < k → True ∧ some k ≠ (Value.slice A' acts.length c').ownBlock) := Lib.hid (fun k hk => ⟨trivial, fun e => by have := HF.out.ro.1 k e.symm; omega⟩)
          have hzz : ((w1x.setCell ⟨wa.heap.size, 2, none⟩ (.int .i64 x2))).heap.size = w1x.heap.size := by simp [World.setCell]
          have hbd : Hid (((acts.map toS).length + 1) * 80 ≤ 140737488355328) := Lib.hid (by rw [List.length_map]; omega)
          go_wp2_with (at_builtin; refine Kd.R_append k26 (w0 := w) (W := (w1x.setCell ⟨wa.heap.size, 2, none⟩ (.int .i64 x2))) w.heap.size rfl (.tmp 145) (.tmp 147) 27 26 (.agg #[.int .u8 0, .int .u8 0, .int .i64 0, .string ⟨#[]⟩, .slice none 0 0, .slice none 0 0]) 80 rfl Tryd.underlying27 info26 rfl (by decide) (by decide) (Value.slice A' acts.length c') (acts.map toS) (toS (⟨9, x1 % 32, x2, [], [], []⟩ : SAct)) _ (fun _ => True) (fun k => wa.heap.size < k) rfl (by rw [hzz]; rfl) HM.out hokp.out (fun _ _ => trivial) (Kd.R_mono HF.out.ro (fun _ _ => trivial)) HF.out.bl HF.out.bl.size hbd.out ?_; intro v1 w2 hR1 hB1 hg1 hat1; have HR1 := Lib.hid hR1; have HB1 := Lib.hid hB1; clear hR1 hB1 hg1 hat1)
          clear hzz f0 f1 f2 f3 f4 f5 q2 h0 h1 h2 h3 h4 h5
          go_wp2
          go_roundg (s.size - (I + 3).toNat)
          case measure => omega
          case rel =>
            have ra : readAct (s.data.toList.drop I.toNat) = ((⟨9, x1 % 32, x2, [], [], []⟩ : SAct), s.data.toList.drop (I + 3).toNat) := by
              rw [T3.out]; have e0 := E0.out; have e1 := E1.out; have e2 := E2.out; have e3 := E3.out; generalize s.data.toList.drop I.toNat = r at e0 e1 e2 e3 ⊢; simp [readAct, readBody, e0, e1, e2, e3, hk]
            exact ⟨acts ++ [(⟨9, x1 % 32, x2, [], [], []⟩ : SAct)], I + 3, by first | rfl | (simp; done) | (congr 1; omega), by omega, by omega, rfl, by simp; omega, dec_step HD.out HLEN.out h4' (by rw [ra]) (by rw [ra]), by rw [List.map_append]; exact HR1.out, HB1.out⟩
end Go.Proofs.YtjipfdabkncnmaaDoor.S

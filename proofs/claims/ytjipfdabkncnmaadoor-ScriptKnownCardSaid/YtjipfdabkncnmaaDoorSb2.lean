/- The reader's crash, walked: the numbers it takes, for any bytes that a row holds. -/
import Derived.Test.YtjipfdabkncnmaaDoorSb
namespace Go.Proofs.YtjipfdabkncnmaaDoor.S
open Go.RowKit Go.Proofs.YtjipfdabkncnmaaDoorW.PrintWords Go.Proofs.YtjipfdabkncnmaaDoorW.PrintLast Go.Proofs.YtjipfdabkncnmaaDoorW.PrintMore
set_option linter.unusedVariables false
set_option linter.unusedSimpArgs false
theorem keep_new {w w1 : World} {g gb : Nat} (h : KeepBut w w1 g none) (hg : w.heap.size ≤ gb) (j : Nat) (u : Value) : KeepBut w (w1.setCell ⟨gb, j, none⟩ u) g none :=
  ⟨by simpa [World.setCell] using h.1, fun i hi h1 h2 => (Below.heap_setCell w1 ⟨gb, j, none⟩ u i (by simp; omega)).trans (h.2 i hi h1 h2)⟩
theorem rd_far {w0 w : World} {g gb : Nat} {l : List UInt8} (h : Rd w0 w g l) (hg : w0.heap.size ≤ gb) (hne : gb ≠ g) (j : Nat) (u : Value) : Rd w0 (w.setCell ⟨gb, j, none⟩ u) g l :=
  h.old (Below.heap_setCell w ⟨gb, j, none⟩ u g (Ne.symm hne)) (h.below.setCell (by simpa using hg) u)
theorem Own.far {w : World} {B gb : Nat} {v : Value} {xs : List Int} (h : Own w B v xs) (hne : v.ownBlock ≠ some gb) (j : Nat) (u : Value) : Own (w.setCell ⟨gb, j, none⟩ u) B v xs :=
  own_setCell h (p := ⟨gb, j, none⟩) (Ne.symm hne) u
def crashRd (l : List UInt8) : List Int × List Int × List UInt8 := readCrash (hd l % 8).toNat l.tail [] []
/-- what the call comes to. -/
def CrashPost (w0 w : World) (g : Nat) (l : List UInt8) (e : Ending) (w' : World) : Prop :=
  ∃ u0 u1, e = .returned (.agg #[u0, u1]) ∧ Own w' w.heap.size u0 (crashRd l).1 ∧ Own w' w.heap.size u1 (crashRd l).2.1 ∧ Rd w0 w' g (crashRd l).2.2 ∧ KeepBut w w' g none ∧
    (u0.ownBlock = none ∨ u0.ownBlock ≠ u1.ownBlock)
/-- the loop's relation. -/
def CrashRel (w0 w : World) (g N : Nat) (l : List UInt8) (i : Value) (wr : World) : Prop :=
  ∃ (k : Nat) (u0 u1 : Value) (ks ts : List Int) (r : List UInt8), k ≤ N ∧ i = .int .i64 k ∧ readCrash k l [] [] = (ks, ts, r) ∧ CrashAt w0 w wr g w.heap.size u0 u1 ks ts r

set_option maxHeartbeats 4000000 in
set_option maxRecDepth 100000 in
theorem crash_any (w0 w : World) (g : Nat) (l : List UInt8) (h : Rd w0 w g l) :
    Calls Tryd.prog 34 #[.pointer (some ⟨g, 0, none⟩)] w (CrashPost w0 w g l) := by
  obtain ⟨i0, hi, hz0, hz1, hz2⟩ := info_parts int_info
  have hx := hd_bd l
  have hglt := h.lt
  have hge := h.ge
  have hbox : (w.alloc (.cells #[.slice none 0 0, .slice none 0 0] 24)).heap[w.heap.size]? = some (.cells #[.slice none 0 0, .slice none 0 0] 24 (0, 0)) := heap_alloc_new w _
  have h' : Rd w0 (w.alloc (.cells #[.slice none 0 0, .slice none 0 0] 24)) g l := h.old (Below.heap_alloc w _ g hglt) (h.below.alloc h.below.size _)
  have hBox := Lib.hid hbox
  clear hbox
  go_enter Tryd.func34, Tryd.ntmps34
  go_wp2_with fail
  refine (byte_any w0 _ g l h').mono ?_
  rintro e w1 ⟨rfl, h1, k1, z1⟩
  have hc1 : CrashAt w0 w w1 g w.heap.size (.slice none 0 0) (.slice none 0 0) [] [] l.tail :=
    ⟨h1, (KeepBut.of_below ((Below.refl _ _).alloc (Nat.le_refl _) _) g none).trans k1 (.inl rfl), k1.blk hBox.out (by omega) (by simp), own_nil _ _ _ _, own_nil _ _ _ _, .inl rfl, Nat.le_refl _⟩
  have HC1 := Lib.hid hc1
  clear hc1 h1 k1 h' h
  obtain ⟨N, hN⟩ : ∃ N : Nat, hd l % 8 = N := ⟨(hd l % 8).toNat, by omega⟩
  have HN : Hid ((hd l % 8).toNat = N) := Lib.hid (by omega)
  have hN8 : N < 8 := by omega
  have hN1 : (N : Int) ≤ hd l % 8 := by omega
  have hN2 : hd l % 8 ≤ (N : Int) := by omega
  clear hN
  have HCR : Hid (crashRd l = readCrash N l.tail [] []) := Lib.hid (by unfold crashRd; rw [HN.out])
  go_wp2
  go_loopw [6] (fun i wr => CrashRel w0 w g N l.tail i wr) (fun i _ => N - (intOf i).toNat)
  case atStart => exact ⟨0, _, _, [], [], l.tail, Nat.zero_le _, rfl, rfl, HC1.out⟩
  case round =>
    obtain ⟨k, u0, u1, ks, ts, r, hk, rfl, hrd, hat⟩ := hrel
    have HR := Lib.hid hrd
    have HA := Lib.hid hat
    clear hrd hat
    have hgg : g ≠ w.heap.size := by omega
    by_cases hlt : k < N
    · have d1 := hd_bd r
      have d2 := hd_bd r.tail
      have hb0 : wr.cell? ⟨w.heap.size, 0, none⟩ = some u0 := by rw [cell_of_row wr _ 0 _ 24 (0, 0) HA.out.box]; rfl
      have hb1 : wr.cell? ⟨w.heap.size, 1, none⟩ = some u1 := by rw [cell_of_row wr _ 1 _ 24 (0, 0) HA.out.box]; rfl
      have hf0 : wr.frozen? ⟨w.heap.size, 0, none⟩ = false := by simp [World.frozen?, HA.out.box]
      have hkl : k < 8 := by omega
      obtain ⟨csg, hgb⟩ := HA.out.rd.blk
      have hu0g : u0.ownBlock ≠ some g := HA.out.o0.ne_blk hgb (by decide)
      have hu1g : u1.ownBlock ≠ some g := HA.out.o1.ne_blk hgb (by decide)
      have hu0b : u0.ownBlock ≠ some w.heap.size := HA.out.o0.ne_blk HA.out.box (by decide)
      have hu1b : u1.ownBlock ≠ some w.heap.size := HA.out.o1.ne_blk HA.out.box (by decide)
      have HO0 : Hid (Own wr w.heap.size u0 ks) := Lib.hid HA.out.o0
      have HGB := Lib.hid hgb
      clear hgb
      have hsz : w.heap.size < wr.heap.size := blk_lt HA.out.box
      have hkl1 : ks.length = k := by have := (readCrash_len k l.tail [] []).1; rw [HR.out] at this; simpa using this
      have hkl2 : ts.length = k := by have := (readCrash_len k l.tail [] []).2; rw [HR.out] at this; simpa using this
      have hks : ks.length < 8 := by omega
      have hts : ts.length < 8 := by omega
      have HKL := Lib.hid hkl1
      have HTL := Lib.hid hkl2
      clear hkl1 hkl2
      go_wp2_with fail
      go_region_law
        (first
          | (refine step_call_of rfl 32 _ _ rfl Tryd.f32 Tryd.func32 f32_name f32_body [.pointer (some ⟨g, 0, none⟩)] ?_ ?_; rfl; refine (byte_any w0 _ g r HA.out.rd.drew).mono ?_; rintro e wb ⟨rfl, hrb, kb, zb0⟩; have zb := Lib.hid zb0; clear zb0; obtain ⟨hcb, hfb⟩ := keep_box kb (show World.cell? (World.drew wr) ⟨w.heap.size, 0, none⟩ = some u0 from hb0) (show World.frozen? (World.drew wr) ⟨w.heap.size, 0, none⟩ = false from hf0) (Ne.symm hgg); obtain ⟨hcc, hfc⟩ := alloc_box (.cells #[.int .i64 (hd r)] 3) hcb hfb; refine ⟨_, rfl, ?_⟩)
          | (refine step_append_lies _ (by rfl) _ _ _ (by rfl) w.heap.size 3 i0 _ 1 8 Tryd.underlying22 hi hz0 hz1 hz2 rfl (by omega) u0 ks.length (nums .i64 ks) (by rfl) (((HO0.out.drew).keep kb hu0g).alloc _)
               ⟨wb.heap.size, 0, none⟩ 1 1 [.int .i64 (hd r)] (by rfl) (by rfl) (World.news_of_block (cs := #[.int .i64 (hd r)]) (t := 3) (fr := (0, 0)) (heap_alloc_new wb _)) (by simp [Value.oneCell'])
              (by omega) (by unfold maxLen; omega) (by omega) (by have := zb.out; simp at this; simp; omega) (wb.heap.size + 1) (by simp) ?_; intro gg cap wa hown1 hgrow hat1 hlt1; obtain ⟨hca, hfa⟩ := grow_box hgrow (by have := zb.out; simp at this; simp; omega) hu0b (alloc_box _ hcb hfb).1 (alloc_box _ hcb hfb).2))
      all_goals
        have hA3 := half0 HA.out hrb kb hown1 hgrow hat1 (Ne.symm hgg) (Nat.le_of_lt (Nat.lt_of_le_of_lt hge hglt))
        generalize wa.setCell ⟨w.heap.size, 0, none⟩ (.slice (some ⟨gg, 0, none⟩) (ks.length + 1) cap) = W3 at *
        generalize (Value.slice (some ⟨gg, 0, none⟩) (ks.length + 1) cap) = u0n at *
        have HA3 := Lib.hid hA3
        clear hA3 hca hfa hcb hfb hcc hfc
        have hb31 : W3.cell? ⟨w.heap.size, 1, none⟩ = some u1 := by rw [cell_of_row W3 _ 1 _ 24 (0, 0) HA3.out.box]; rfl
        have hf31 : W3.frozen? ⟨w.heap.size, 1, none⟩ = false := by simp [World.frozen?, HA3.out.box]
        obtain ⟨csg3, hgb3⟩ := HA3.out.rd.blk
        have hu1g3 : u1.ownBlock ≠ some g := HA3.out.o1.ne_blk hgb3 (by decide)
        have hu1b3 : u1.ownBlock ≠ some w.heap.size := HA3.out.o1.ne_blk HA3.out.box (by decide)
        have HO1 : Hid (Own W3 w.heap.size u1 ts) := Lib.hid HA3.out.o1
        have hsz3 : w.heap.size < W3.heap.size := blk_lt HA3.out.box
        clear hgb3
        go_wp2_with fail
        go_region_law
          (first
            | (refine step_call_of rfl 32 _ _ rfl Tryd.f32 Tryd.func32 f32_name f32_body [.pointer (some ⟨g, 0, none⟩)] ?_ ?_; rfl; refine (byte_any w0 _ g r.tail HA3.out.rd.drew).mono ?_; rintro e wb2 ⟨rfl, hrb2, kb2, zb0⟩; have zb2 := Lib.hid zb0; clear zb0; obtain ⟨hcb2, hfb2⟩ := keep_box kb2 (show World.cell? (World.drew W3) ⟨w.heap.size, 1, none⟩ = some u1 from hb31) (show World.frozen? (World.drew W3) ⟨w.heap.size, 1, none⟩ = false from hf31) (Ne.symm hgg); obtain ⟨hcc2, hfc2⟩ := alloc_box (.cells #[.int .i64 (hd r.tail)] 3) hcb2 hfb2; refine ⟨_, rfl, ?_⟩)
            | (refine step_append_lies _ (by rfl) _ _ _ (by rfl) w.heap.size 3 i0 _ 1 8 Tryd.underlying22 hi hz0 hz1 hz2 rfl (by omega) u1 ts.length (nums .i64 ts) (by rfl) (((HO1.out.drew).keep kb2 hu1g3).alloc _)
                 ⟨wb2.heap.size, 0, none⟩ 1 1 [.int .i64 (hd r.tail)] (by rfl) (by rfl) (World.news_of_block (cs := #[.int .i64 (hd r.tail)]) (t := 3) (fr := (0, 0)) (heap_alloc_new wb2 _)) (by simp [Value.oneCell'])
                (by omega) (by unfold maxLen; omega) (by omega) (by have := zb2.out; simp at this; simp; omega) (wb2.heap.size + 1) (by simp) ?_; intro gg2 cap2 wa2 hown2 hgrow2 hat2 hlt2; obtain ⟨hca2, hfa2⟩ := grow_box hgrow2 (by have := zb2.out; simp at this; simp; omega) hu1b3 (alloc_box _ hcb2 hfb2).1 (alloc_box _ hcb2 hfb2).2))
      all_goals
        have hA4 := half1 HA3.out hrb2 kb2 hown2 hgrow2 hat2 (Ne.symm hgg) (Nat.le_of_lt (Nat.lt_of_le_of_lt hge hglt))
        have HA4 := Lib.hid hA4
        clear hA4 hca2 hfa2 hcb2 hfb2 hcc2 hfc2
        go_wp2
        go_roundw
        case rel => exact ⟨k + 1, _, _, _, _, _, by omega, by go_num, readCrash_succ _ _ _ _ _ _ _ HR.out, HA4.out⟩
        case measure => simp [intOf]; omega
    · have hkN : k = N := by omega
      subst hkN
      obtain ⟨A0, c0, rfl⟩ := own_slice HA.out.o0
      obtain ⟨A1, c1, rfl⟩ := own_slice HA.out.o1
      have hb0 : wr.cell? ⟨w.heap.size, 0, none⟩ = some (.slice A0 ks.length c0) := by rw [cell_of_row wr _ 0 _ 24 (0, 0) HA.out.box]; rfl
      have hb1 : wr.cell? ⟨w.heap.size, 1, none⟩ = some (.slice A1 ts.length c1) := by rw [cell_of_row wr _ 1 _ 24 (0, 0) HA.out.box]; rfl
      have hf0 : wr.frozen? ⟨w.heap.size, 0, none⟩ = false := by simp [World.frozen?, HA.out.box]
      have hf1 : wr.frozen? ⟨w.heap.size, 1, none⟩ = false := by simp [World.frozen?, HA.out.box]
      have hu0b := HA.out.o0.ne_blk HA.out.box (by decide)
      have hu1b := HA.out.o1.ne_blk HA.out.box (by decide)
      go_wp2
      refine bodyPost_ret (v := .agg #[.slice A0 ks.length c0, .slice A1 ts.length c1]) (by simp [results, Tryd.results34, go_sem, hb0, hb1]) rfl ⟨_, _, rfl, ?_, ?_, ?_, ?_, HA.out.ne⟩
      · rw [HCR.out, HR.out]; exact (HA.out.o0.far hu0b 0 _).far hu0b 1 _
      · rw [HCR.out, HR.out]; exact (HA.out.o1.far hu1b 0 _).far hu1b 1 _
      · rw [HCR.out, HR.out]; exact rd_far (rd_far HA.out.rd (by omega) (Ne.symm hgg) 0 _) (by omega) (Ne.symm hgg) 1 _
      · exact keep_new (keep_new HA.out.kp (Nat.le_refl _) 0 _) (Nat.le_refl _) 1 _
end Go.Proofs.YtjipfdabkncnmaaDoor.S

/- slices.Concat of two rows of numbers, walked: for rows that are read. -/
import Derived.Test.YtjipfdabkncnmaaDoorSi
namespace Go.Proofs.YtjipfdabkncnmaaDoor.S
open Go.RowKit Go.Proofs.YtjipfdabkncnmaaDoorW.PrintWords Go.Proofs.YtjipfdabkncnmaaDoorW.PrintLast Go.Proofs.YtjipfdabkncnmaaDoorW.PrintMore
set_option linter.unusedVariables false
set_option linter.unusedSimpArgs false

def ConcPost (w : World) (xs ys : List Int) (e : Ending) (w' : World) : Prop := ∃ v, e = .returned v ∧ Own w' w.heap.size v (xs ++ ys) ∧ Below w.heap.size w w'
/-- how much the first k of the two are. -/
def upto (n0 n1 k : Nat) : Nat := if k = 0 then 0 else if k = 1 then n0 else n0 + n1
def catTo (xs ys : List Int) (k : Nat) : List Int := if k = 0 then [] else if k = 1 then xs else xs ++ ys
theorem C_reads {w : World} {A : Option Addr} {n : Nat} {xs : List Int} (h : Kd.C (Kd.int .i64) w A n xs) : ReadsInt w .i64 A n xs := Kd.reads_of_C (enc := Value.int .i64) (d := (0 : Int)) (h1 := fun _ => rfl) h

theorem grow_any (n : Nat) (w : World) (hb : n ≤ 1000) : Calls Tryd.prog 39 #[.slice none 0 0, .int .i64 n] w (GrowPost w) := by
  rcases Nat.eq_zero_or_pos n with rfl | h
  · exact grow_zero w
  · exact grow_pos n w h hb
def ConcRel (w : World) (xs ys : List Int) (v i : Value) (wr : World) : Prop := ∃ k : Nat, k ≤ 2 ∧ i = .int .i64 k ∧ Own wr w.heap.size v (catTo xs ys k) ∧ Below w.heap.size w wr

set_option maxHeartbeats 4000000 in
set_option maxRecDepth 100000 in
theorem concat_any (B : Nat) (A0 A1 : Option Addr) (c0 c1 : Nat) (xs ys : List Int) (w : World) (hb0 : w.cell? ⟨B, 0, none⟩ = some (.slice A0 xs.length c0)) (hb1 : w.cell? ⟨B, 1, none⟩ = some (.slice A1 ys.length c1))
    (hx : Kd.C (Kd.int .i64) w A0 xs.length xs) (hy : Kd.C (Kd.int .i64) w A1 ys.length ys) (lx : xs.length ≤ 100) (ly : ys.length ≤ 100) :
    Calls Tryd.prog 25 #[.slice (some ⟨B, 0, none⟩) 2 2] w (ConcPost w xs ys) := by
  have HX := Lib.hid hx
  have HY := Lib.hid hy
  have hBlt := World.block_lt_of_cell? w _ hb0
  simp only at hBlt
  clear hx hy
  go_enter Tryd.func25, Tryd.ntmps25
  go_wp2
  go_loop [3, 11] (fun s i => ∃ k m : Nat, k ≤ 2 ∧ i = .int .i64 k ∧ s = .int .i64 m ∧ Hid (m = upto xs.length ys.length k) ∧ m ≤ 200) (fun _ i => 2 - (intOf i).toNat)
  case atStart => exact ⟨0, 0, by omega, rfl, rfl, Lib.hid rfl, by omega⟩
  case round =>
    obtain ⟨k, m, hk, rfl, rfl, hm, hml⟩ := hrel
    by_cases h0 : k = 0
    · subst h0
      have hm0 : m = 0 := hm.out
      subst hm0
      clear hm
      go_wp2
      go_round
      case rel => exact ⟨1, xs.length, by omega, by go_num, by go_num, Lib.hid rfl, by omega⟩
      case measure => simp [intOf]
    by_cases h1 : k = 1
    · subst h1
      have hm0 : m = xs.length := hm.out
      subst hm0
      clear hm h0
      go_wp2
      go_round
      case rel => exact ⟨2, xs.length + ys.length, by omega, by go_num, by go_num, Lib.hid rfl, by omega⟩
      case measure => simp [intOf]
    have h2 : k = 2 := by omega
    subst h2
    have hm2 : m = xs.length + ys.length := hm.out
    have HM2 := Lib.hid hm2
    clear hm hm2 h0 h1
    go_wp2_with fail
    refine (grow_any m w (by omega)).mono ?_
    rintro e w1 ⟨v0, rfl, ho, hb⟩
    have HO := Lib.hid ho
    have HB := Lib.hid hb
    clear ho hb
    go_wp2
    go_loopw [6, 27] (fun v i wr => ConcRel w xs ys v i wr) (fun _ i _ => 2 - (intOf i).toNat)
    case atStart => exact ⟨0, by omega, rfl, HO.out, HB.out⟩
    case round =>
      obtain ⟨k, hk, rfl, hown, hbw⟩ := hrel
      have hc0 : wr.cell? ⟨B, 0, none⟩ = some (.slice A0 xs.length c0) := (hbw.cell (p := ⟨B, 0, none⟩) hBlt).trans hb0
      have hc1 : wr.cell? ⟨B, 1, none⟩ = some (.slice A1 ys.length c1) := (hbw.cell (p := ⟨B, 1, none⟩) hBlt).trans hb1
      have HBW := Lib.hid hbw
      have RX := Lib.hid (C_reads (Kd.C_below HX.out (show Below w.heap.size w wr from hbw)))
      have RY := Lib.hid (C_reads (Kd.C_below HY.out (show Below w.heap.size w wr from hbw)))
      have hsz := hbw.size
      clear hbw
      by_cases h0 : k = 0
      · subst h0
        have HW : Hid (Own wr w.heap.size u6 []) := Lib.hid hown
        clear hown
        go_wp2_with (at_builtin; refine print_append_row (w0 := w) w.heap.size rfl (.tmp 31) (.tmp 32) 22 3 .i64 8 rfl Tryd.underlying22 int_info (by decide) u6 [] xs A0 xs.length c0 rfl rfl HW.out RX.out HBW.out hsz (by simp; omega) ?_; intro v1 w2 hown1 hbw1 hg1 hat1)
        have HW1 := Lib.hid hown1
        have HBW1 := Lib.hid hbw1
        clear hown1 hbw1 hg1 hat1
        go_wp2
        go_roundw
        case rel => exact ⟨1, by omega, by go_num, HW1.out, HBW1.out⟩
        case measure => simp [intOf]
      by_cases h1 : k = 1
      · subst h1
        have HW : Hid (Own wr w.heap.size u6 xs) := Lib.hid hown
        clear hown
        go_wp2_with (at_builtin; refine print_append_row (w0 := w) w.heap.size rfl (.tmp 31) (.tmp 32) 22 3 .i64 8 rfl Tryd.underlying22 int_info (by decide) u6 xs ys A1 ys.length c1 rfl rfl HW.out RY.out HBW.out hsz (by omega) ?_; intro v1 w2 hown1 hbw1 hg1 hat1)
        have HW1 := Lib.hid hown1
        have HBW1 := Lib.hid hbw1
        clear hown1 hbw1 hg1 hat1
        go_wp2
        go_roundw
        case rel => exact ⟨2, by omega, by go_num, HW1.out, HBW1.out⟩
        case measure => simp [intOf]
      have h2 : k = 2 := by omega
      subst h2
      have HW : Hid (Own wr w.heap.size u6 (xs ++ ys)) := Lib.hid hown
      clear hown h0 h1
      go_wp2
      go_ret
      exact ⟨_, rfl, HW.out, HBW.out⟩
end Go.Proofs.YtjipfdabkncnmaaDoor.S

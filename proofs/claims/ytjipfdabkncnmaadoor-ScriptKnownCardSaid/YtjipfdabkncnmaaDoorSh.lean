/- The search of script.Plain (slices.ContainsFunc, IndexFunc, the closure), walked: for any row of numbers. -/
import Derived.Test.YtjipfdabkncnmaaDoorSg
namespace Go.Proofs.YtjipfdabkncnmaaDoor.S
open Go.RowKit Go.Proofs.YtjipfdabkncnmaaDoorW.PrintWords Go.Proofs.YtjipfdabkncnmaaDoorW.PrintLast Go.Proofs.YtjipfdabkncnmaaDoorW.PrintMore
set_option linter.unusedVariables false
set_option linter.unusedSimpArgs false

theorem plain1_yes (n : Int) (w : World) (h : byteOf n = true) : Calls Tryd.prog 26 #[.int .i64 n] w fun e w' => e = .returned (.bool false) ∧ w = w' := by
  simp only [byteOf, decide_eq_true_eq] at h
  obtain ⟨h0, h1⟩ := h
  have h2 : n ≤ 255 := by omega
  go_enter Tryd.func26, Tryd.ntmps26
  go_wp2
  go_ret
  exact ⟨rfl, rfl⟩
theorem plain1_no (n : Int) (w : World) (h : byteOf n = false) : Calls Tryd.prog 26 #[.int .i64 n] w fun e w' => e = .returned (.bool true) ∧ w = w' := by
  simp only [byteOf, decide_eq_false_iff_not] at h
  by_cases h0 : 0 ≤ n
  · have h2 : ¬ n ≤ 255 := by omega
    go_enter Tryd.func26, Tryd.ntmps26
    go_wp2
    go_ret
    exact ⟨rfl, rfl⟩
  · go_enter Tryd.func26, Tryd.ntmps26
    go_wp2
    go_ret
    exact ⟨rfl, rfl⟩

/-- a number that is asked of an index function: below 0 where all are bytes. -/
def IdxPost (xs : List Int) (w : World) (e : Ending) (w' : World) : Prop := ∃ r : Int, e = .returned (.int .i64 r) ∧ w = w' ∧ (xs.all byteOf = true ↔ r < 0)
theorem all_take_succ (xs : List Int) (k : Nat) (h : k < xs.length) : (xs.take (k + 1)).all byteOf = ((xs.take k).all byteOf && byteOf (xs.getD k 0)) := by
  rw [List.take_succ_eq_append_getElem h, List.all_append]
  simp [List.getD_eq_getElem?_getD, List.getElem?_eq_getElem h]
set_option maxHeartbeats 2000000 in
theorem index_any (A : Option Addr) (c : Nat) (xs : List Int) (w : World) (hC : Kd.C (Kd.int .i64) w A xs.length xs) (hc : xs.length ≤ c) :
    Calls Tryd.prog 38 #[.slice A xs.length c, .func (.func 26) #[] #[]] w (IdxPost xs w) := by
  have hlen := hC.2.1
  have HC := Lib.hid hC
  clear hC
  go_enter Tryd.func38, Tryd.ntmps38
  go_wp2
  go_loop [5, 8] (fun _ i => ∃ k : Nat, k ≤ xs.length ∧ i = .int .i64 k ∧ Hid ((xs.take k).all byteOf = true)) (fun _ i => xs.length - (intOf i).toNat)
  case atStart => exact ⟨0, Nat.zero_le _, rfl, Lib.hid (by simp)⟩
  case round =>
    obtain ⟨k, hk, rfl, hall⟩ := hrel
    by_cases hlt : k < xs.length
    · obtain ⟨ad, hA, hcell⟩ := HC.out.2.2 (by omega)
      subst hA
      obtain ⟨cs, h1, h2, h3⟩ := hcell k (xs.getD k 0) (by simp [List.getD_eq_getElem?_getD, List.getElem?_eq_getElem hlt])
      have hcs : cs = [.int .i64 (xs.getD k 0)] := h2
      have hcl : w.cell? (ad.add k) = some (.int .i64 (xs.getD k 0)) := by
        have := h3 0 (.int .i64 (xs.getD k 0)) (by rw [hcs]; rfl)
        simpa [Kd.int, Kd.scalar] using this
      clear hcell h1 h2 h3 hcs
      have hts := Lib.hid (all_take_succ xs k hlt)
      generalize hx : xs.getD k 0 = x at *
      have HX := Lib.hid hx
      clear hx
      cases hb : byteOf x with
      | true =>
        have HB := Lib.hid hb
        clear hb
        go_wp2_with (go_at_call 26; refine (plain1_yes x _ HB.out).mono ?_; rintro e w' ⟨rfl, rfl⟩)
        go_round
        case rel => exact ⟨k + 1, by omega, by go_num, Lib.hid (by rw [hts.out, hall.out, HB.out]; rfl)⟩
        case measure => simp [intOf]; omega
      | false =>
        have HB := Lib.hid hb
        clear hb
        go_wp2_with (go_at_call 26; refine (plain1_no x _ HB.out).mono ?_; rintro e w' ⟨rfl, rfl⟩)
        go_ret
        refine ⟨k, rfl, rfl, ⟨fun h => ?_, fun h => by omega⟩⟩
        have : byteOf x = true := by
          rw [List.all_eq_true] at h
          refine h x ?_
          rw [← HX.out, List.getD_eq_getElem?_getD, List.getElem?_eq_getElem hlt]
          simp
        rw [HB.out] at this; cases this
    · go_wp2
      go_ret
      refine ⟨-1, rfl, rfl, ⟨fun _ => by omega, fun _ => ?_⟩⟩
      have := hall.out
      rwa [List.take_of_length_le (by omega)] at this

def ContPost (xs : List Int) (w : World) (e : Ending) (w' : World) : Prop := e = .returned (.bool (!(xs.all byteOf))) ∧ w = w'
theorem contains_any (A : Option Addr) (c : Nat) (xs : List Int) (w : World) (hC : Kd.C (Kd.int .i64) w A xs.length xs) (hc : xs.length ≤ c) :
    Calls Tryd.prog 24 #[.slice A xs.length c, .func (.func 26) #[] #[]] w (ContPost xs w) := by
  have hi := index_any A c xs w hC hc
  have HI := Lib.hid hi
  clear hi hC
  go_enter Tryd.func24, Tryd.ntmps24
  go_wp2_with fail
  refine HI.out.mono ?_
  rintro e w' ⟨r, rfl, rfl, hr⟩
  have HR := Lib.hid hr
  clear hr
  by_cases h0 : r < 0
  · have h0' : ¬ 0 ≤ r := by omega
    go_wp2
    go_ret
    exact ⟨by rw [HR.out.2 h0]; show Ending.returned (Value.bool (decide (0 ≤ r))) = _; rw [decide_eq_false (by omega)]; rfl, rfl⟩
  · have h0' : 0 ≤ r := by omega
    have hb : xs.all byteOf = false := by
      cases h : xs.all byteOf with
      | false => rfl
      | true => exact absurd (HR.out.1 h) h0
    have HB := Lib.hid hb
    clear hb
    go_wp2
    go_ret
    exact ⟨by rw [HB.out]; rfl, rfl⟩
end Go.Proofs.YtjipfdabkncnmaaDoor.S

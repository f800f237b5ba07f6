/- The document's one and Bytes, walked: the bytes of an act are the plain model's, for any act whose kind and node are bytes, of a text of at most 100000 bytes and lists of at most 20000. -/
import Derived.Test.YtjipfdabkncnmaaDoorRo
import Derived.Deep.RegionHeldLaw
namespace Go.Proofs.YtjipfdabkncnmaaDoor.S
open Go.RowKit Go.Proofs.YtjipfdabkncnmaaDoorW.PrintWords Go.Proofs.YtjipfdabkncnmaaDoorW.PrintLast Go.Proofs.YtjipfdabkncnmaaDoorW.PrintMore
open PScriptTotal (S24 S26 k26 k24 z26)
set_option linter.unusedVariables false
set_option linter.unusedSimpArgs false

set_option maxHeartbeats 8000000 in
set_option maxRecDepth 100000 in
theorem one_any (w : World) (n : Int) : Calls Tryd.prog 40 #[.int .i64 n] w fun e w' => e = .returned (.string ⟨#[u8 n]⟩) ∧ Below w.heap.size w w' := by
  go_enter Tryd.func40, Tryd.ntmps40
  have hC := const_C w [u8 n] (0, 0) (by simp)
  have hcv : (convert 29 9 (.slice (some { block := w.heap.size, off := 0 }) 1 1)).run Tryd.prog (w.alloc (Obj.cells #[Value.int IntKind.u8 (n % 256)] 5)) = .ok (.string ⟨#[u8 n]⟩) (w.alloc (Obj.cells #[Value.int IntKind.u8 (n % 256)] 5)) := by
    have := Kd.C_string (c := 1) Tryd.underlying29 Tryd.underlying5 Tryd.underlying9 hC
    rw [strOf_bi] at this
    have e : (bv [u8 n]).toArray = #[Value.int IntKind.u8 (n % 256)] := by
      have : ((u8 n).toNat : Int) = n % 256 := by simp [u8]; omega
      simp [bv, this]
    rw [e] at this
    exact this
  go_wp2
  go_ret
  exact ⟨rfl, (Below.refl _ _).alloc (Nat.le_refl _) _⟩
theorem move_cell {w w' : World} {p : Addr} {v : Value} (hb : Below w.heap.size w w') (h : w.cell? p = some v) : w'.cell? p = some v := (hb.cell (World.block_lt_of_cell? w _ h)).trans h
theorem f40_name : (Tryd.f40.name == "runtime.NumGoroutine") = false := by kernel_rfl
theorem f40_body : Tryd.f40.body.isNone = false := by kernel_rfl
theorem ba_app (l m : List UInt8) : (⟨l.toArray⟩ : ByteArray) ++ ⟨m.toArray⟩ = ⟨(l ++ m).toArray⟩ := by
  apply ByteArray.ext
  simp
theorem ba_one (c : UInt8) : (⟨#[c]⟩ : ByteArray) = ⟨[c].toArray⟩ := rfl
theorem ba_size (l : List UInt8) : (⟨l.toArray⟩ : ByteArray).size = l.length := by simp [ByteArray.size]
theorem ba_size1 (c : UInt8) : (⟨#[c]⟩ : ByteArray).size = 1 := rfl
theorem pairs_le (kp tn : List Int) : (pairs kp tn).length ≤ 2 * kp.length := by
  induction kp generalizing tn with
  | nil => simp [pairs]
  | cons a r ih => cases tn with
    | nil => simp [pairs]
    | cons b s => have := ih s; simp [pairs]; omega
theorem pairs_take (kp tn : List Int) (i : Nat) (h : i < kp.length) (h2 : i < tn.length) : pairs (kp.take (i + 1)) (tn.take (i + 1)) = pairs (kp.take i) (tn.take i) ++ [u8 kp[i], u8 tn[i]] := by
  induction kp generalizing tn i with
  | nil => simp at h
  | cons a r ih =>
    cases tn with
    | nil => simp at h2
    | cons b s =>
      cases i with
      | zero => simp [pairs]
      | succ i => simpa [pairs] using ih s i (by simpa using h) (by simpa using h2)
theorem pairs_stop (kp tn : List Int) (i : Nat) (h : kp.length ≤ i ∨ tn.length ≤ i) : pairs (kp.take i) (tn.take i) = pairs kp tn := by
  induction kp generalizing tn i with
  | nil => simp [pairs]
  | cons a r ih =>
    cases tn with
    | nil => cases i <;> simp [pairs]
    | cons b s =>
      cases i with
      | zero => simp at h
      | succ i => simpa [pairs] using ih s i (by simpa using h)
/-- the loop over the pairs of a crash. -/
def ByRel (W0 : World) (a : SAct) (gk : Nat) (v4 v5 : Value) (wr : World) : Prop :=
  ∃ i : Nat, v5 = .int .i64 (i : Int) ∧ gk + i = a.keep.length ∧ Below W0.heap.size W0 wr ∧ v4 = .string ⟨(u8 a.keep.length :: pairs (a.keep.take i) (a.torn.take i)).toArray⟩

set_option maxHeartbeats 40000000 in
set_option maxRecDepth 100000 in
theorem refBytes_any (w : World) (a : SAct) (A4 A5 : Option Addr) (c4 c5 : Nat) (hk : 0 ≤ a.kind ∧ a.kind < 256) (hn : 0 ≤ a.node ∧ a.node < 256) (ht : a.text.length ≤ 100000) (hl : a.keep.length ≤ 20000)
    (h4 : Kd.C (Kd.int .i64) w A4 a.keep.length a.keep) (h5 : Kd.C (Kd.int .i64) w A5 a.torn.length a.torn) :
    Calls Tryd.prog 30 #[.agg #[.int .u8 a.kind, .int .u8 a.node, .int .i64 a.n, .string ⟨a.text.toArray⟩, .slice A4 a.keep.length c4, .slice A5 a.torn.length c5]] w fun e w' => e = .returned (.string ⟨(bytesOf a).toArray⟩) ∧ Below w.heap.size w w' := by
  have hb0 := (Below.refl w.heap.size w).alloc (Nat.le_refl _) (.cells #[.int .u8 a.kind, .int .u8 a.node, .int .i64 a.n, .string ⟨a.text.toArray⟩, .slice A4 a.keep.length c4, .slice A5 a.torn.length c5] 26)
  have hx0 := heap_alloc_new w (.cells #[.int .u8 a.kind, .int .u8 a.node, .int .i64 a.n, .string ⟨a.text.toArray⟩, .slice A4 a.keep.length c4, .slice A5 a.torn.length c5] 26)
  have H4 := Lib.hid (Kd.C_below h4 hb0)
  have H5 := Lib.hid (Kd.C_below h5 hb0)
  clear h4 h5
  go_enter Tryd.func30, Tryd.ntmps30
  go_upto_region 1 with (fail)
  generalize w.alloc (Obj.cells #[Value.int IntKind.u8 a.kind, Value.int IntKind.u8 a.node, Value.int IntKind.i64 a.n, Value.string { data := a.text.toArray }, Value.slice A4 a.keep.length c4, Value.slice A5 a.torn.length c5] 26) = W0 at *
  have hg0 : w.heap.size < W0.heap.size := blk_sz hx0
  have f0 : W0.cell? ⟨w.heap.size, 0, none⟩ = some (Value.int IntKind.u8 a.kind) := by simp [World.cell?, hx0]
  have f4 : W0.cell? ⟨w.heap.size, 4, none⟩ = some (Value.slice A4 a.keep.length c4) := by simp [World.cell?, hx0]
  go_wp2_with fail
  refine (one_any _ _).mono ?_
  rintro e w1 ⟨rfl, hb1⟩
  replace f4 := move_cell hb1 f4
  go_wp2_with fail
  refine (one_any _ _).mono ?_
  rintro e w2 ⟨rfl, hb2⟩
  have HB2 := Lib.hid (hb1.trans (hb2.mono hb1.size))
  clear hb1 hb2 f0 f4
  have hw0 : Below w.heap.size w W0 := hb0
  clear hb0
  have HW0 := Lib.hid hw0
  have HX0 := Lib.hid hx0
  have HG0 := Lib.hid hg0
  clear hw0 hx0 hg0
  go_wp2
  go_loopg [4, 5] a.keep.length (fun gk v4 v5 wr => ByRel W0 a gk v4 v5 wr)
  case atStart => exact ⟨0, rfl, by omega, HB2.out, by simp [pairs]⟩
  case round =>
    obtain ⟨i, rfl, hgi, hbe, rfl⟩ := hrel
    have HBE := Lib.hid hbe
    have HGI := Lib.hid hgi
    have hx := (hbe.block _ HG0.out).trans HX0.out
    have f0 : wr.cell? ⟨w.heap.size, 0, none⟩ = some (Value.int IntKind.u8 a.kind) := by simp [World.cell?, hx]
    have f1 : wr.cell? ⟨w.heap.size, 1, none⟩ = some (Value.int IntKind.u8 a.node) := by simp [World.cell?, hx]
    have f2 : wr.cell? ⟨w.heap.size, 2, none⟩ = some (Value.int IntKind.i64 a.n) := by simp [World.cell?, hx]
    have f3 : wr.cell? ⟨w.heap.size, 3, none⟩ = some (Value.string ⟨a.text.toArray⟩) := by simp [World.cell?, hx]
    have f4 : wr.cell? ⟨w.heap.size, 4, none⟩ = some (Value.slice A4 a.keep.length c4) := by simp [World.cell?, hx]
    have f5 : wr.cell? ⟨w.heap.size, 5, none⟩ = some (Value.slice A5 a.torn.length c5) := by simp [World.cell?, hx]
    clear hbe hgi hx
    by_cases hi : i < a.keep.length ∧ i < a.torn.length
    · obtain ⟨hi1, hi2⟩ := hi
      have hj1 : (i : Int) < (a.keep.length : Int) := by omega
      have hj2 : (i : Int) < (a.torn.length : Int) := by omega
      obtain ⟨ad4, rfl, g4⟩ := cell_of_C H4.out rfl HBE.out i hi1
      obtain ⟨ad5, rfl, g5⟩ := cell_of_C H5.out rfl HBE.out i hi2
      obtain ⟨s, hs⟩ : ∃ s, s = u8 a.keep.length :: pairs (a.keep.take i) (a.torn.take i) := ⟨_, rfl⟩
      rw [← hs]
      have HS := Lib.hid hs
      have hsl : s.length ≤ 50000 := by
        rw [hs]; have := pairs_le (a.keep.take i) (a.torn.take i); simp at this ⊢; omega
      clear hs
      have hsz : (⟨s.toArray⟩ : ByteArray).size = s.length := ba_size s
      obtain ⟨t, htt⟩ : ∃ t : ByteArray, t = ⟨s.toArray⟩ := ⟨_, rfl⟩
      rw [← htt] at hsz ⊢
      have HR : Hid ((t ++ ⟨#[u8 (a.keep[i]'hi1)]⟩ ++ ⟨#[u8 (a.torn[i]'hi2)]⟩ : ByteArray) = ⟨(u8 a.keep.length :: pairs (a.keep.take (i + 1)) (a.torn.take (i + 1))).toArray⟩) := Lib.hid (by
        rw [pairs_take _ _ i hi1 hi2, htt, HS.out, ba_one, ba_one, ba_app, ba_app]; simp)
      clear htt
      have hq1 : (9223372036854775807 < s.length + 1) = False := eq_false (by omega)
      have hq2 : (9223372036854775807 < s.length + 1 + 1) = False := eq_false (by omega)
      go_wp2_with fail
      go_region_law
        (first
          | (refine step_call_w (by rfl) 40 [.tmp 38] _ rfl Tryd.f40 Tryd.func40 f40_name f40_body [.int .i64 (a.keep[i]'hi1)] ?_ ?_; rfl; refine (one_any _ _).mono ?_; rintro e w5 ⟨rfl, hb5⟩; have HB5 := Lib.hid (HBE.out.drew.trans (hb5.mono HBE.out.drew.size)); have k4 := move_cell hb5 (show wr.drew.cell? _ = _ from f4); have k5 := move_cell hb5 (show wr.drew.cell? _ = _ from f5); have m4 := move_cell hb5 (show wr.drew.cell? _ = _ from g4); have m5 := move_cell hb5 (show wr.drew.cell? _ = _ from g5); clear hb5; refine ⟨_, rfl, ?_⟩)
          | (refine step_call_w (by rfl) 40 [.tmp 46] _ rfl Tryd.f40 Tryd.func40 f40_name f40_body [.int .i64 (a.torn[i]'hi2)] ?_ ?_; rfl; refine (one_any _ _).mono ?_; rintro e w6 ⟨rfl, hb6⟩; have HB6 := Lib.hid (HB5.out.trans (hb6.mono HB5.out.size)); clear hb6; refine ⟨_, rfl, ?_⟩))
      all_goals
        go_wp2
        go_roundg (a.keep.length - (i + 1))
        case measure => have := HGI.out; omega
        case rel => exact ⟨i + 1, by simp, by omega, by first | exact HB6.out | exact HBE.out, by rw [HR.out]⟩
    · have hst := pairs_stop a.keep a.torn i (by omega)
      rw [hst]
      have hpl : (pairs a.keep a.torn).length ≤ 40000 := by have := pairs_le a.keep a.torn; omega
      have hts : (⟨a.text.toArray⟩ : ByteArray).size = a.text.length := ba_size _
      have hcs : (⟨(u8 a.keep.length :: pairs a.keep a.torn).toArray⟩ : ByteArray).size = (pairs a.keep a.torn).length + 1 := by rw [ba_size]; rfl
      obtain ⟨c, hc⟩ : ∃ c : ByteArray, c = ⟨(u8 a.keep.length :: pairs a.keep a.torn).toArray⟩ := ⟨_, rfl⟩
      obtain ⟨t, htt⟩ : ∃ t : ByteArray, t = ⟨a.text.toArray⟩ := ⟨_, rfl⟩
      rw [← hc] at hcs ⊢
      rw [← htt] at hts f3
      have HC := Lib.hid hc
      have HT := Lib.hid htt
      clear hc htt hst
      have hex : ((i : Int) < (a.keep.length : Int) ∧ (a.torn.length : Int) ≤ (i : Int)) ∨ (a.keep.length : Int) ≤ (i : Int) := by omega
      clear H4 H5 HGI
      have hkk : a.kind = 1 ∨ a.kind = 5 ∨ a.kind = 6 ∨ a.kind = 7 ∨ a.kind = 8 ∨ a.kind = 9 ∨ (¬ a.kind = 1 ∧ ¬ a.kind = 5 ∧ ¬ a.kind = 6 ∧ ¬ a.kind = 7 ∧ ¬ a.kind = 8 ∧ ¬ a.kind = 9) := by omega
      rcases hkk with hkk | hkk | hkk | hkk | hkk | hkk | ⟨n1, n5, n6, n7, n8, n9⟩
      · rcases hex with ⟨hj1, hj2⟩ | hj1
        all_goals
          rw [hkk] at f0
          have hw3 : IntKind.i64.wrap ((t.size : Int) / 256) = (t.size : Int) / 256 := by rw [IntKind.wrap_i64]; omega
          have hq1 : (9223372036854775807 < 4 + t.size) = False := eq_false (by omega)
          have hq2 : (9223372036854775803 < t.size) = False := eq_false (by omega)
          have hq3 : (t.size ≤ 9223372036854775803) = True := eq_true (by omega)
          have HTS := Lib.hid hts
          clear hts
          have hw1 : IntKind.i64.wrap a.node = a.node := by rw [IntKind.wrap_i64]; omega
          have hw2 : IntKind.i64.wrap (a.node - 1) = a.node - 1 := by rw [IntKind.wrap_i64]; omega
          go_wp2_with fail
          go_region_held_law (fun w' => w'.cell? ⟨w.heap.size, 1, none⟩ = some (Value.int IntKind.u8 a.node) ∧ w'.cell? ⟨w.heap.size, 3, none⟩ = some (Value.string t)) (first | exact ⟨k17, k37⟩ | exact ⟨k16, k36⟩ | exact ⟨k15, k35⟩ | exact ⟨f1, f3⟩)
            (first
              | (refine step_call_w (by rfl) 40 [.tmp 57] _ rfl Tryd.f40 Tryd.func40 f40_name f40_body [.int .i64 (a.node - 1)] ?_ ?_; rfl; refine (one_any _ _).mono ?_; rintro e w5 ⟨rfl, hb5⟩; have k15 := move_cell hb5 (show wr.drew.cell? _ = _ from f1); have k25 := move_cell hb5 (show wr.drew.cell? _ = _ from f2); have k35 := move_cell hb5 (show wr.drew.cell? _ = _ from f3); have HB5 := Lib.hid (HBE.out.drew.trans (hb5.mono HBE.out.drew.size)); clear hb5; refine ⟨_, rfl, ?_⟩)
              | (refine step_call_w (by rfl) 40 [.tmp 63] _ rfl Tryd.f40 Tryd.func40 f40_name f40_body [.int .i64 ((t.size : Int) / 256)] ?_ ?_; rfl; refine (one_any _ _).mono ?_; rintro e w6 ⟨rfl, hb6⟩; have k16 := move_cell hb6 (k15); have k26 := move_cell hb6 (k25); have k36 := move_cell hb6 (k35); have HB6 := Lib.hid (HB5.out.trans (hb6.mono HB5.out.size)); clear hb6; refine ⟨_, rfl, ?_⟩)
              | (refine step_call_w (by rfl) 40 [.tmp 68] _ rfl Tryd.f40 Tryd.func40 f40_name f40_body [.int .i64 (t.size : Int)] ?_ ?_; rfl; refine (one_any _ _).mono ?_; rintro e w7 ⟨rfl, hb7⟩; have k17 := move_cell hb7 (k16); have k27 := move_cell hb7 (k26); have k37 := move_cell hb7 (k36); have HB7 := Lib.hid (HB6.out.trans (hb7.mono HB6.out.size)); clear hb7; refine ⟨_, rfl, ?_⟩))
          all_goals
            go_wp2
            go_ret
            refine ⟨?_, by have h0 := HW0.out; exact h0.trans ((HB7.out).mono h0.size)⟩
            rename_i dst_ d_ heq_
            have hd_ : 69 = d_ := Option.some.inj heq_
            subst hd_
            show Ending.returned (Value.string (⟨#[u8 0]⟩ ++ ⟨#[u8 (a.node - 1)]⟩ ++ ⟨#[u8 ((t.size : Int) / 256)]⟩ ++ ⟨#[u8 (t.size : Int)]⟩ ++ t)) = _
            rw [HTS.out]
            refine congrArg (fun b => Ending.returned (Value.string b)) ?_
            simp only [ba_app, HT.out]
            simp [bytesOf, hkk]
      · rcases hex with ⟨hj1, hj2⟩ | hj1
        all_goals
          rw [hkk] at f0
          have hw1 : IntKind.i64.wrap a.node = a.node := by rw [IntKind.wrap_i64]; omega
          have hw2 : IntKind.i64.wrap (a.node - 1) = a.node - 1 := by rw [IntKind.wrap_i64]; omega
          go_wp2_with fail
          go_region_law
            (first
              | (refine step_call_w (by rfl) 40 [.tmp 80] _ rfl Tryd.f40 Tryd.func40 f40_name f40_body [.int .i64 (a.node - 1)] ?_ ?_; rfl; refine (one_any _ _).mono ?_; rintro e w5 ⟨rfl, hb5⟩; have k15 := move_cell hb5 (show wr.drew.cell? _ = _ from f1); have k25 := move_cell hb5 (show wr.drew.cell? _ = _ from f2); have k35 := move_cell hb5 (show wr.drew.cell? _ = _ from f3); have HB5 := Lib.hid (HBE.out.drew.trans (hb5.mono HBE.out.drew.size)); clear hb5; refine ⟨_, rfl, ?_⟩)
              | (refine step_call_w (by rfl) 40 [.tmp 84] _ rfl Tryd.f40 Tryd.func40 f40_name f40_body [.int .i64 a.n] ?_ ?_; rfl; refine (one_any _ _).mono ?_; rintro e w6 ⟨rfl, hb6⟩; have k16 := move_cell hb6 (k15); have k26 := move_cell hb6 (k25); have k36 := move_cell hb6 (k35); have HB6 := Lib.hid (HB5.out.trans (hb6.mono HB5.out.size)); clear hb6; refine ⟨_, rfl, ?_⟩))
          all_goals
            go_wp2
            go_ret
            refine ⟨?_, by have h0 := HW0.out; exact h0.trans ((HB6.out).mono h0.size)⟩
            refine congrArg (fun b => Ending.returned (Value.string b)) ?_
            simp only [ba_app, HC.out, HT.out]
            simp [bytesOf, crashBytes, hkk]
      · rcases hex with ⟨hj1, hj2⟩ | hj1
        all_goals
          rw [hkk] at f0
          have hq1 : (9223372036854775807 < 3 + ((pairs a.keep a.torn).length + 1)) = False := eq_false (by omega)
          have hw1 : IntKind.i64.wrap a.node = a.node := by rw [IntKind.wrap_i64]; omega
          have hw2 : IntKind.i64.wrap (a.node - 1) = a.node - 1 := by rw [IntKind.wrap_i64]; omega
          go_wp2_with fail
          go_region_law
            (first
              | (refine step_call_w (by rfl) 40 [.tmp 93] _ rfl Tryd.f40 Tryd.func40 f40_name f40_body [.int .i64 (a.node - 1)] ?_ ?_; rfl; refine (one_any _ _).mono ?_; rintro e w5 ⟨rfl, hb5⟩; have k15 := move_cell hb5 (show wr.drew.cell? _ = _ from f1); have k25 := move_cell hb5 (show wr.drew.cell? _ = _ from f2); have k35 := move_cell hb5 (show wr.drew.cell? _ = _ from f3); have HB5 := Lib.hid (HBE.out.drew.trans (hb5.mono HBE.out.drew.size)); clear hb5; refine ⟨_, rfl, ?_⟩)
              | (refine step_call_w (by rfl) 40 [.tmp 97] _ rfl Tryd.f40 Tryd.func40 f40_name f40_body [.int .i64 a.n] ?_ ?_; rfl; refine (one_any _ _).mono ?_; rintro e w6 ⟨rfl, hb6⟩; have k16 := move_cell hb6 (k15); have k26 := move_cell hb6 (k25); have k36 := move_cell hb6 (k35); have HB6 := Lib.hid (HB5.out.trans (hb6.mono HB5.out.size)); clear hb6; refine ⟨_, rfl, ?_⟩))
          all_goals
            go_wp2
            go_ret
            refine ⟨?_, by have h0 := HW0.out; exact h0.trans ((HB6.out).mono h0.size)⟩
            refine congrArg (fun b => Ending.returned (Value.string b)) ?_
            simp only [ba_app, HC.out, HT.out]
            simp [bytesOf, crashBytes, hkk]
      · rcases hex with ⟨hj1, hj2⟩ | hj1
        all_goals
          rw [hkk] at f0
          have hq1 : (9223372036854775807 < 2 + ((pairs a.keep a.torn).length + 1)) = False := eq_false (by omega)
          have hw1 : IntKind.i64.wrap a.node = a.node := by rw [IntKind.wrap_i64]; omega
          have hw2 : IntKind.i64.wrap (a.node - 1) = a.node - 1 := by rw [IntKind.wrap_i64]; omega
          go_wp2_with fail
          refine (one_any _ _).mono ?_
          rintro e w5 ⟨rfl, hb5⟩
          have HB5 := Lib.hid (HBE.out.trans (hb5.mono HBE.out.size))
          clear hb5
          go_wp2
          go_ret
          refine ⟨?_, by have h0 := HW0.out; exact h0.trans ((HB5.out).mono h0.size)⟩
          refine congrArg (fun b => Ending.returned (Value.string b)) ?_
          simp only [ba_app, HC.out, HT.out]
          simp [bytesOf, crashBytes, hkk]
      · rcases hex with ⟨hj1, hj2⟩ | hj1
        all_goals
          rw [hkk] at f0
          have hw1 : IntKind.i64.wrap a.node = a.node := by rw [IntKind.wrap_i64]; omega
          have hw2 : IntKind.i64.wrap (a.node - 1) = a.node - 1 := by rw [IntKind.wrap_i64]; omega
          go_wp2_with fail
          refine (one_any _ _).mono ?_
          rintro e w5 ⟨rfl, hb5⟩
          have HB5 := Lib.hid (HBE.out.trans (hb5.mono HBE.out.size))
          clear hb5
          go_wp2
          go_ret
          refine ⟨?_, by have h0 := HW0.out; exact h0.trans ((HB5.out).mono h0.size)⟩
          refine congrArg (fun b => Ending.returned (Value.string b)) ?_
          simp only [ba_app, HC.out, HT.out]
          simp [bytesOf, crashBytes, hkk]
      · rcases hex with ⟨hj1, hj2⟩ | hj1
        all_goals
          rw [hkk] at f0
          have hw1 : IntKind.i64.wrap a.node = a.node := by rw [IntKind.wrap_i64]; omega
          have hw2 : IntKind.i64.wrap (a.node - 1) = a.node - 1 := by rw [IntKind.wrap_i64]; omega
          go_wp2_with fail
          go_region_law
            (first
              | (refine step_call_w (by rfl) 40 [.tmp 127] _ rfl Tryd.f40 Tryd.func40 f40_name f40_body [.int .i64 a.node] ?_ ?_; rfl; refine (one_any _ _).mono ?_; rintro e w5 ⟨rfl, hb5⟩; have k15 := move_cell hb5 (show wr.drew.cell? _ = _ from f1); have k25 := move_cell hb5 (show wr.drew.cell? _ = _ from f2); have k35 := move_cell hb5 (show wr.drew.cell? _ = _ from f3); have HB5 := Lib.hid (HBE.out.drew.trans (hb5.mono HBE.out.drew.size)); clear hb5; refine ⟨_, rfl, ?_⟩)
              | (refine step_call_w (by rfl) 40 [.tmp 131] _ rfl Tryd.f40 Tryd.func40 f40_name f40_body [.int .i64 a.n] ?_ ?_; rfl; refine (one_any _ _).mono ?_; rintro e w6 ⟨rfl, hb6⟩; have k16 := move_cell hb6 (k15); have k26 := move_cell hb6 (k25); have k36 := move_cell hb6 (k35); have HB6 := Lib.hid (HB5.out.trans (hb6.mono HB5.out.size)); clear hb6; refine ⟨_, rfl, ?_⟩))
          all_goals
            go_wp2
            go_ret
            refine ⟨?_, by have h0 := HW0.out; exact h0.trans ((HB6.out).mono h0.size)⟩
            refine congrArg (fun b => Ending.returned (Value.string b)) ?_
            simp only [ba_app, HC.out, HT.out]
            simp [bytesOf, crashBytes, hkk]
      · rcases hex with ⟨hj1, hj2⟩ | hj1
        all_goals
          have t1 : (a.kind == 1) = false := by simpa using n1
          have t5 : (a.kind == 5) = false := by simpa using n5
          have t6 : (a.kind == 6) = false := by simpa using n6
          have t7 : (a.kind == 7) = false := by simpa using n7
          have t8 : (a.kind == 8) = false := by simpa using n8
          have t9 : (a.kind == 9) = false := by simpa using n9
          have hw1 : IntKind.i64.wrap a.node = a.node := by rw [IntKind.wrap_i64]; omega
          have hw2 : IntKind.i64.wrap (a.node - 1) = a.node - 1 := by rw [IntKind.wrap_i64]; omega
          go_wp2_with fail
          refine (one_any _ _).mono ?_
          rintro e w5 ⟨rfl, hb5⟩
          have HB5 := Lib.hid (HBE.out.trans (hb5.mono HBE.out.size))
          clear hb5
          go_wp2
          go_ret
          refine ⟨?_, by have h0 := HW0.out; exact h0.trans ((HB5.out).mono h0.size)⟩
          refine congrArg (fun b => Ending.returned (Value.string b)) ?_
          simp only [ba_app, HC.out, HT.out]
          simp [bytesOf, crashBytes, n1, n5, n6, n7, n8, n9]
end Go.Proofs.YtjipfdabkncnmaaDoor.S
namespace Go.Proofs.YtjipfdabkncnmaaDoor.PScriptTotal
open Go.RowKit Go.Proofs.YtjipfdabkncnmaaDoorW.PrintWords
/-- Bytes, in the shape that the printed Encode asks for. -/
def wapentakeref26_Bytes.f (k : Nat) (a0_0 : Int) (a0_1 : Int) (a0_2 : Int) (a0_3 : ByteArray) (l0_4 : List Int) (l0_5 : List Int) : Option (ByteArray) :=
  if (0 ≤ a0_0 ∧ a0_0 < 256) ∧ (0 ≤ a0_1 ∧ a0_1 < 256) ∧ a0_3.data.toList.length ≤ 100000 ∧ l0_4.length ≤ 20000 then some ⟨(S.bytesOf ⟨a0_0, a0_1, a0_2, a0_3.data.toList, l0_4, l0_5⟩).toArray⟩ else none
theorem wapentakeref26_Bytes.mono : ∀ a0 a1 a2 a3 a4 a5 k, LeO (wapentakeref26_Bytes.f k a0 a1 a2 a3 a4 a5) (wapentakeref26_Bytes.f (k + 1) a0 a1 a2 a3 a4 a5) := fun _ _ _ _ _ _ _ => LeO.refl _
theorem wapentakeref26_Bytes.calls (k : Nat) (a0_0 : Int) (a0_1 : Int) (a0_2 : Int) (a0_3 : ByteArray) (A0_4 : Option Addr) (c0_4 : Nat) (l0_4 : List Int) (A0_5 : Option Addr) (c0_5 : Nat) (l0_5 : List Int) (r : ByteArray) (w : World) (hr0_4 : Kd.C (Kd.int .i64) w A0_4 l0_4.length l0_4) (hc0_4 : l0_4.length ≤ c0_4) (hr0_5 : Kd.C (Kd.int .i64) w A0_5 l0_5.length l0_5) (hc0_5 : l0_5.length ≤ c0_5) (h : wapentakeref26_Bytes.f k a0_0 a0_1 a0_2 a0_3 l0_4 l0_5 = some r) :
    Calls Tryd.prog 30 #[.agg #[.int .u8 a0_0, .int .u8 a0_1, .int .i64 a0_2, .string a0_3, .slice A0_4 l0_4.length c0_4, .slice A0_5 l0_5.length c0_5]] w fun e w' => e = .returned (.string r) ∧ Below w.heap.size w w' := by
  unfold wapentakeref26_Bytes.f at h
  split at h
  · rename_i hb
    obtain ⟨h1, h2, h3, h4⟩ := hb
    injection h with h
    subst h
    exact S.refBytes_any w ⟨a0_0, a0_1, a0_2, a0_3.data.toList, l0_4, l0_5⟩ A0_4 A0_5 c0_4 c0_5 h1 h2 h3 h4 hr0_4 hr0_5
  · cases h
end Go.Proofs.YtjipfdabkncnmaaDoor.PScriptTotal

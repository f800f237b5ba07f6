/- script.Plain, walked: it answers as the plain model, for any act. -/
import Derived.Test.YtjipfdabkncnmaaDoorSk
namespace Go.Proofs.YtjipfdabkncnmaaDoor.S
open Go.RowKit Go.Proofs.YtjipfdabkncnmaaDoorW.PrintWords Go.Proofs.YtjipfdabkncnmaaDoorW.PrintLast Go.Proofs.YtjipfdabkncnmaaDoorW.PrintMore
set_option linter.unusedVariables false
set_option linter.unusedSimpArgs false

set_option maxHeartbeats 4000000 in
set_option maxRecDepth 100000 in
theorem plain_low (w : World) (kind node n : Int) (t : ByteArray) (u v : Value) (h : kind < 1) :
    Calls Tryd.prog 12 #[.agg #[.int .u8 kind, .int .u8 node, .int .i64 n, .string t, u, v]] w (PlainPost w false) := by
  go_enter Tryd.func12, Tryd.ntmps12
  go_wp2
  go_ret
  exact ⟨rfl, (Below.refl _ _).alloc (Nat.le_refl _) _⟩
set_option maxHeartbeats 4000000 in
set_option maxRecDepth 100000 in
theorem plain_high (w : World) (kind node n : Int) (t : ByteArray) (u v : Value) (h : 9 < kind) :
    Calls Tryd.prog 12 #[.agg #[.int .u8 kind, .int .u8 node, .int .i64 n, .string t, u, v]] w (PlainPost w false) := by
  have h1 : ¬ kind < 1 := by omega
  go_enter Tryd.func12, Tryd.ntmps12
  go_wp2
  go_ret
  exact ⟨rfl, (Below.refl _ _).alloc (Nat.le_refl _) _⟩

theorem size_mk (l : List UInt8) : (⟨l.toArray⟩ : ByteArray).size = l.length := rfl
theorem mk_nil (l : List UInt8) : ((⟨l.toArray⟩ : ByteArray) = ⟨#[]⟩) ↔ l = [] := by
  cases l with
  | nil => exact ⟨fun _ => rfl, fun _ => rfl⟩
  | cons a l => exact ⟨fun h => by injection h with h; simp at h, fun h => by cases h⟩
theorem bare_iff (keep torn : List Int) : (decide (keep.length = torn.length) && (decide (keep.length < 8) && ((false || decide (keep.length = 0)) && (keep ++ torn).all byteOf))) = (keep.isEmpty && torn.isEmpty) := by
  cases keep with
  | nil => cases torn <;> simp
  | cons a l => simp
theorem crash_iff (keep torn : List Int) : (decide (keep.length = torn.length) && (decide (keep.length < 8) && ((true || decide (keep.length = 0)) && (keep ++ torn).all byteOf))) = (decide (keep.length < 8) && decide (keep.length = torn.length) && keep.all byteOf && torn.all byteOf) := by
  rw [List.all_append]
  cases decide (keep.length = torn.length) <;> cases decide (keep.length < 8) <;> cases keep.all byteOf <;> cases torn.all byteOf <;> simp
theorem byte_n (n : Int) : decide (0 ≤ n ∧ n ≤ 255) = byteOf n := by unfold byteOf; exact decide_eq_decide.mpr ⟨fun h => ⟨h.1, by omega⟩, fun h => ⟨h.1, by omega⟩⟩
theorem zero_n (n : Int) (x : Bool) : (byteOf n && (decide (n = 0) && x)) = (decide (n = 0) && x) := by
  by_cases h : n = 0
  · subst h; simp [byteOf]
  · simp [h]
theorem text_n (t : List UInt8) (x : Bool) : (decide (t.length < 65536) && (decide ((⟨t.toArray⟩ : ByteArray) = ⟨#[]⟩) && x)) = (t.isEmpty && x) := by
  cases t with
  | nil => simp [size_mk, mk_nil]
  | cons a l => simp [mk_nil]
theorem text_s (t : List UInt8) : decide ((⟨t.toArray⟩ : ByteArray).size ≤ 65535) = decide (t.length < 65536) := decide_eq_decide.mpr (by rw [size_mk]; omega)

theorem plain_any (w : World) (a : SAct) (A0 A1 : Option Addr) (c0 c1 : Nat) (hn : 0 ≤ a.node)
    (hx : Kd.C (Kd.int .i64) w A0 a.keep.length a.keep) (hy : Kd.C (Kd.int .i64) w A1 a.torn.length a.torn) :
    Calls Tryd.prog 12 #[.agg #[.int .u8 a.kind, .int .u8 a.node, .int .i64 a.n, .string ⟨a.text.toArray⟩, .slice A0 a.keep.length c0, .slice A1 a.torn.length c1]] w (PlainPost w (plain a)) := by
  obtain ⟨kind, node, n, t, keep, torn⟩ := a
  simp only at *
  by_cases hl : kind < 1
  · have := plain_low w kind node n ⟨t.toArray⟩ (.slice A0 keep.length c0) (.slice A1 torn.length c1) hl
    rwa [show plain ⟨kind, node, n, t, keep, torn⟩ = false from by simp only [plain]; repeat (rw [if_neg (by omega)])]
  by_cases hh : 9 < kind
  · have := plain_high w kind node n ⟨t.toArray⟩ (.slice A0 keep.length c0) (.slice A1 torn.length c1) hh
    rwa [show plain ⟨kind, node, n, t, keep, torn⟩ = false from by simp only [plain]; repeat (rw [if_neg (by omega)])]
  have hk : kind = 1 ∨ kind = 2 ∨ kind = 3 ∨ kind = 4 ∨ kind = 5 ∨ kind = 6 ∨ kind = 7 ∨ kind = 8 ∨ kind = 9 := by omega
  have hb : ∀ x, byteOf x = decide (0 ≤ x ∧ x ≤ 255) := fun x => by unfold byteOf; exact decide_eq_decide.mpr ⟨fun h => ⟨h.1, by omega⟩, fun h => ⟨h.1, by omega⟩⟩
  have goal : ∀ {b}, Calls Tryd.prog 12 #[.agg #[.int .u8 kind, .int .u8 node, .int .i64 n, .string ⟨t.toArray⟩, .slice A0 keep.length c0, .slice A1 torn.length c1]] w (PlainPost w b) → b = plain ⟨kind, node, n, t, keep, torn⟩ → Calls Tryd.prog 12 #[.agg #[.int .u8 kind, .int .u8 node, .int .i64 n, .string ⟨t.toArray⟩, .slice A0 keep.length c0, .slice A1 torn.length c1]] w (PlainPost w (plain ⟨kind, node, n, t, keep, torn⟩)) := fun h e => e ▸ h
  rcases hk with rfl | rfl | rfl | rfl | rfl | rfl | rfl | rfl | rfl
  · refine goal (plain_1 w node n _ A0 A1 c0 c1 keep torn hx hy) ?_
    simp only [pgW, byte_n, bare_iff, crash_iff]
    simp only [Bool.false_or, Bool.true_or, Bool.true_and, zero_n, text_n, text_s]
    simp only [plain, nodeOk, bare, crashOk, Bool.and_assoc, Int.reduceEq, if_true, if_false, or_true, or_false, false_or, true_or, reduceIte]
  · refine goal (plain_2 w node n _ A0 A1 c0 c1 keep torn hx hy) ?_
    simp only [pgW, byte_n, bare_iff, crash_iff]
    simp only [Bool.false_or, Bool.true_or, Bool.true_and, zero_n, text_n, text_s]
    simp only [plain, nodeOk, bare, crashOk, Bool.and_assoc, Int.reduceEq, if_true, if_false, or_true, or_false, false_or, true_or, reduceIte]
  · refine goal (plain_3 w node n _ A0 A1 c0 c1 keep torn hx hy) ?_
    simp only [pgW, byte_n, bare_iff, crash_iff]
    simp only [Bool.false_or, Bool.true_or, Bool.true_and, zero_n, text_n, text_s]
    simp only [plain, nodeOk, bare, crashOk, Bool.and_assoc, Int.reduceEq, if_true, if_false, or_true, or_false, false_or, true_or, reduceIte]
  · refine goal (plain_4 w node n _ A0 A1 c0 c1 keep torn hx hy) ?_
    simp only [pgW, byte_n, bare_iff, crash_iff]
    simp only [Bool.false_or, Bool.true_or, Bool.true_and, zero_n, text_n, text_s]
    simp only [plain, nodeOk, bare, crashOk, Bool.and_assoc, Int.reduceEq, if_true, if_false, or_true, or_false, false_or, true_or, reduceIte]
  · refine goal (plain_5 w node n _ A0 A1 c0 c1 keep torn hx hy) ?_
    simp only [pgW, byte_n, bare_iff, crash_iff]
    simp only [Bool.false_or, Bool.true_or, Bool.true_and, zero_n, text_n, text_s]
    simp only [plain, nodeOk, bare, crashOk, Bool.and_assoc, Int.reduceEq, if_true, if_false, or_true, or_false, false_or, true_or, reduceIte]
  · refine goal (plain_6 w node n _ A0 A1 c0 c1 keep torn hx hy) ?_
    simp only [pgW, byte_n, bare_iff, crash_iff]
    simp only [Bool.false_or, Bool.true_or, Bool.true_and, zero_n, text_n, text_s]
    simp only [plain, nodeOk, bare, crashOk, Bool.and_assoc, Int.reduceEq, if_true, if_false, or_true, or_false, false_or, true_or, reduceIte]
  · refine goal (plain_7 w node n _ A0 A1 c0 c1 keep torn hx hy) ?_
    simp only [pgW, byte_n, bare_iff, crash_iff]
    simp only [Bool.false_or, Bool.true_or, Bool.true_and, zero_n, text_n, text_s]
    simp only [plain, nodeOk, bare, crashOk, Bool.and_assoc, Int.reduceEq, if_true, if_false, or_true, or_false, false_or, true_or, reduceIte]
  · refine goal (plain_8 w node n _ A0 A1 c0 c1 keep torn hx hy) ?_
    simp only [pgW, byte_n, bare_iff, crash_iff]
    simp only [Bool.false_or, Bool.true_or, Bool.true_and, zero_n, text_n, text_s]
    simp only [plain, nodeOk, bare, crashOk, Bool.and_assoc, Int.reduceEq, if_true, if_false, or_true, or_false, false_or, true_or, reduceIte]
  · refine goal (plain_9 w node n _ A0 A1 c0 c1 keep torn hx hy) ?_
    simp only [pgW, byte_n, bare_iff, crash_iff]
    simp only [Bool.false_or, Bool.true_or, Bool.true_and, zero_n, text_n, text_s]
    simp only [plain, nodeOk, bare, crashOk, Bool.and_assoc, Int.reduceEq, if_true, if_false, or_true, or_false, false_or, true_or, reduceIte]
end Go.Proofs.YtjipfdabkncnmaaDoor.S

/- script.Plain, walked kind by kind: it answers as the plain model, for any act of a known kind. -/
import Derived.Test.YtjipfdabkncnmaaDoorSj
namespace Go.Proofs.YtjipfdabkncnmaaDoor.S
open Go.RowKit Go.Proofs.YtjipfdabkncnmaaDoorW.PrintWords Go.Proofs.YtjipfdabkncnmaaDoorW.PrintLast Go.Proofs.YtjipfdabkncnmaaDoorW.PrintMore
set_option linter.unusedVariables false
set_option linter.unusedSimpArgs false

def PlainPost (w : World) (b : Bool) (e : Ending) (w' : World) : Prop := e = .returned (.bool b) ∧ Below w.heap.size w w'
/-- what Plain answers, its node's test and its three bits given. -/
def pgW (nd b4 b8 b16 : Bool) (n : Int) (t : ByteArray) (keep torn : List Int) : Bool :=
  nd && (decide (0 ≤ n ∧ n ≤ 255) && ((b4 || decide (n = 0)) && (decide (t.size ≤ 65535) && ((b8 || decide (t = ⟨#[]⟩)) && (decide (keep.length = torn.length) && (decide (keep.length < 8) && ((b16 || decide (keep.length = 0)) && (keep ++ torn).all byteOf)))))))
theorem cell_two (w2 : World) (o : Obj) (a b : Value) : ((w2.alloc o).alloc (.cells #[a, b] 22)).cell? ⟨w2.heap.size + 1, 0, none⟩ = some a ∧ ((w2.alloc o).alloc (.cells #[a, b] 22)).cell? ⟨w2.heap.size + 1, 1, none⟩ = some b := by
  have h := heap_alloc_new (w2.alloc o) (.cells #[a, b] 22)
  rw [World.size_alloc] at h
  constructor <;> simp only [World.cell?, h] <;> rfl
theorem loop_eq (bs : ByteArray) : ∀ (n i : Nat) (r : List UInt8), bs.size - i = n → ByteArray.toList.loop bs i r = r.reverse ++ bs.data.toList.drop i := by
  intro n
  induction n with
  | zero =>
    intro i r h
    unfold ByteArray.toList.loop
    have : ¬ i < bs.size := by omega
    rw [if_neg this, List.drop_eq_nil_of_le (by have : bs.data.toList.length = bs.size := rfl; omega)]; simp
  | succ n ih =>
    intro i r h
    unfold ByteArray.toList.loop
    have hlt : i < bs.size := by omega
    rw [if_pos hlt, ih (i+1) _ (by omega)]
    have hl : i < bs.data.toList.length := hlt
    rw [List.drop_eq_getElem_cons hl]
    have : bs.get! i = bs.data.toList[i] := by
      show bs.data[i]! = _
      rw [getElem!_pos bs.data i hlt]; simp
    simp [this]
theorem tl (t : ByteArray) : t.toList = t.data.toList := by
  rw [ByteArray.toList, loop_eq t _ 0 [] rfl]; simp
theorem bytes_ne {t : ByteArray} (h : ¬ t = ⟨#[]⟩) : t.toList.isEmpty = false := by
  rw [tl]
  cases t with
  | mk d =>
    cases d with
    | mk l =>
      cases l with
      | nil => exact absurd rfl h
      | cons => rfl
structure PB (w W : World) (a b c d e f : Value) : Prop where
  bl : Below w.heap.size w W
  lt : w.heap.size < W.heap.size
  bx : Box w W w.heap.size a b c d e f
theorem PB.drawn {w W W' : World} {a b c d e f : Value} (h : PB w W a b c d e f) (hd : Drawn0 W W') : PB w W' a b c d e f := by
  obtain ⟨n, rfl⟩ := hd
  exact ⟨pw_below_drewN h.bl n, h.lt, ⟨h.bx.h⟩⟩
theorem PB.start (w : World) (a b c d e f : Value) : PB w (w.alloc (.cells #[a, b, c, d, e, f] 26)) a b c d e f :=
  ⟨(Below.refl _ _).alloc (Nat.le_refl _) _, by show w.heap.size < (w.heap.push _).size; rw [Array.size_push]; omega, ⟨heap_alloc_new w _⟩⟩
theorem small_f {n : Int} {b : Bool} (h : decide (0 ≤ n ∧ n ≤ 255) = b) : PScriptTotal.script_small.f n = some b := by
  subst h
  show (if n ≥ 0 then (some (decide (n ≤ 255))) else (some false)) = _
  split
  · congr 1; exact decide_eq_decide.mpr ⟨fun h => ⟨by omega, h⟩, fun h => h.2⟩
  · congr 1; exact (decide_eq_false (by omega)).symm


set_option maxHeartbeats 4000000 in
set_option maxRecDepth 100000 in
theorem plain_1 (w : World) (node n : Int) (t : ByteArray) (A0 A1 : Option Addr) (c0 c1 : Nat) (keep torn : List Int)
    (hx : Kd.C (Kd.int .i64) w A0 keep.length keep) (hy : Kd.C (Kd.int .i64) w A1 torn.length torn) :
    Calls Tryd.prog 12 #[.agg #[.int .u8 1, .int .u8 node, .int .i64 n, .string t, .slice A0 keep.length c0, .slice A1 torn.length c1]] w
      (PlainPost w (pgW (decide (1 ≤ node ∧ node ≤ 5)) false true false n t keep torn)) := by
  have HX := Lib.hid hx
  have HY := Lib.hid hy
  clear hx hy
  generalize hk0 : keep.length = k0 at *
  generalize hk1 : torn.length = k1 at *
  have HK0 := Lib.hid hk0
  have HK1 := Lib.hid hk1
  clear hk0 hk1
  have ha := PB.start w (.int .u8 1) (.int .u8 node) (.int .i64 n) (.string t) (.slice A0 k0 c0) (.slice A1 k1 c1)
  have HA := Lib.hid ha
  clear ha
  have e1 : bits .and .i64 9 1 = 1 := by decide
  have e2 : bits .and .i64 9 2 = 0 := by decide
  have e4 : bits .and .i64 9 4 = 0 := by decide
  have e8 : bits .and .i64 9 8 = 8 := by decide
  have e16 : bits .and .i64 9 16 = 0 := by decide
  go_enter Tryd.func12, Tryd.ntmps12
  go_wp2_with fail
  refine (PScriptTotal.script_takes.calls _ 9 _ rfl).mono ?_
  rintro e w1 ⟨rfl, hd⟩
  have HB := Lib.hid (HA.out.drawn hd)
  clear hd
  obtain ⟨f0, f1, f2, f3, f4, f5⟩ := HB.out.bx.cells
  by_cases h1 : ¬ (1 ≤ node)
  · have h1' : node < 1 := by omega
    go_wp2
    go_ret
    exact ⟨by rw [show pgW _ _ _ _ _ _ _ _ = false from by simp only [pgW]; rw [decide_eq_false (by omega)]; simp]; rfl, HB.out.bl⟩
  have h1' : 1 ≤ node := by omega
  by_cases h2 : ¬ (node ≤ 5)
  · have h2' : 5 < node := by omega
    go_wp2
    go_ret
    exact ⟨by rw [show pgW _ _ _ _ _ _ _ _ = false from by simp only [pgW]; rw [decide_eq_false (by omega)]; simp]; rfl, HB.out.bl⟩
  have h2' : node ≤ 5 := by omega
  clear h1 h2
  go_wp2_with fail
  cases hs : decide (0 ≤ n ∧ n ≤ 255)
  · refine (PScriptTotal.script_small.calls n false _ (small_f hs)).mono ?_
    rintro e w2 ⟨rfl, hd⟩
    have HC := Lib.hid (HB.out.drawn hd)
    clear hd f0 f1 f2 f3 f4 f5
    obtain ⟨f0, f1, f2, f3, f4, f5⟩ := HC.out.bx.cells
    go_wp2
    go_ret
    exact ⟨by rw [show pgW _ _ _ _ _ _ _ _ = false from by simp only [pgW]; rw [hs]; simp]; rfl, HC.out.bl⟩
  refine (PScriptTotal.script_small.calls n true _ (small_f hs)).mono ?_
  rintro e w2 ⟨rfl, hd⟩
  have HC := Lib.hid (HB.out.drawn hd)
  clear hd f0 f1 f2 f3 f4 f5
  obtain ⟨f0, f1, f2, f3, f4, f5⟩ := HC.out.bx.cells
  by_cases h3 : ¬ (n = 0)
  · have h3' : (n == 0) = false := by simpa using h3
    go_wp2
    go_ret
    exact ⟨by rw [show pgW _ _ _ _ _ _ _ _ = false from by simp only [pgW]; rw [decide_eq_false h3]; simp]; rfl, HC.out.bl⟩
  have h3' : n = 0 := by omega
  subst h3'
  clear h3
  by_cases h4 : ¬ (t.size ≤ 65535)
  · have h4' : 65535 < t.size := by omega
    go_wp2
    go_ret
    exact ⟨by rw [show pgW _ _ _ _ _ _ _ _ = false from by simp only [pgW]; rw [decide_eq_false h4]; simp]; rfl, HC.out.bl⟩
  have h4' : t.size ≤ 65535 := by omega
  clear h4
  have hb2 := HC.out.bl.alloc HC.out.bl.size (.cells #[.slice A0 k0 c0, .slice A1 k1 c1] 24)
  have HD := Lib.hid hb2
  clear hb2
  by_cases h6 : ¬ (k0 = k1)
  · have h6' : (((k0 : Nat) : Int) == ((k1 : Nat) : Int)) = false := by simpa using (by omega : ¬ ((k0 : Int) = (k1 : Int)))
    go_wp2
    go_ret
    exact ⟨by rw [show pgW _ _ _ _ _ _ _ _ = false from by simp only [pgW]; rw [HK0.out, HK1.out, decide_eq_false h6]; simp]; rfl, HD.out⟩
  have h6' : k0 = k1 := by omega
  subst h6'
  by_cases h7 : ¬ (k0 < 8)
  · have h7' : 8 ≤ k0 := by omega
    go_wp2
    go_ret
    exact ⟨by rw [show pgW _ _ _ _ _ _ _ _ = false from by simp only [pgW]; rw [HK0.out, decide_eq_false h7]; simp]; rfl, HD.out⟩
  have h7' : k0 < 8 := by omega
  clear h6 h7
  by_cases h8 : ¬ (k0 = 0)
  · have h8' : 0 < k0 := by omega
    go_wp2
    go_ret
    exact ⟨by rw [show pgW _ _ _ _ _ _ _ _ = false from by simp only [pgW]; rw [HK0.out, decide_eq_false h8]; simp]; rfl, HD.out⟩
  have h8' : k0 = 0 := by omega
  subst h8'
  clear h8
  go_wp2_with fail
  have hbW := below_alloc (below_alloc HC.out.bl (.cells #[.slice A0 0 c0, .slice A1 0 c1] 24)) (.cells #[.slice A0 0 c0, .slice A1 0 c1] 22)
  refine (concat_any (w2.heap.size + 1) A0 A1 c0 c1 keep torn _ (by rw [HK0.out]; exact (cell_two w2 _ _ _).1) (by rw [HK1.out]; exact (cell_two w2 _ _ _).2)
    (by rw [HK0.out]; exact Kd.C_below HX.out hbW) (by rw [HK1.out]; exact Kd.C_below HY.out hbW) (by rw [HK0.out]; omega) (by rw [HK1.out]; omega)).mono ?_
  rintro e w3 ⟨v, rfl, ho, hb⟩
  have HW := Lib.hid (below_then hbW hbW.size hb)
  clear hbW hb
  obtain ⟨A, c, rfl, hl, hC⟩ := Kd.R_reads (Own.R ho (fun _ => True) (fun _ _ => trivial))
  clear ho
  have HZ : Hid (∃ zs, zs = keep ++ torn) := Lib.hid ⟨_, rfl⟩
  generalize hz : keep ++ torn = zs at hl hC ⊢
  have HZ := Lib.hid hz
  have HC3 := Lib.hid hC
  clear hC hz
  go_wp2_with fail
  refine (contains_any A c zs _ HC3.out hl).mono ?_
  rintro e w4 ⟨rfl, rfl⟩
  go_wp2
  go_ret
  refine ⟨?_, HW.out⟩
  rw [show pgW _ _ _ _ _ _ _ _ = zs.all byteOf from by
    simp only [pgW, hs, HK0.out, HK1.out, HZ.out, h1', h2', h4']; simp]
  rfl

set_option maxHeartbeats 4000000 in
set_option maxRecDepth 100000 in
theorem plain_2 (w : World) (node n : Int) (t : ByteArray) (A0 A1 : Option Addr) (c0 c1 : Nat) (keep torn : List Int)
    (hx : Kd.C (Kd.int .i64) w A0 keep.length keep) (hy : Kd.C (Kd.int .i64) w A1 torn.length torn) :
    Calls Tryd.prog 12 #[.agg #[.int .u8 2, .int .u8 node, .int .i64 n, .string t, .slice A0 keep.length c0, .slice A1 torn.length c1]] w
      (PlainPost w (pgW (decide (node = 0)) true false false n t keep torn)) := by
  have HX := Lib.hid hx
  have HY := Lib.hid hy
  clear hx hy
  generalize hk0 : keep.length = k0 at *
  generalize hk1 : torn.length = k1 at *
  have HK0 := Lib.hid hk0
  have HK1 := Lib.hid hk1
  clear hk0 hk1
  have ha := PB.start w (.int .u8 2) (.int .u8 node) (.int .i64 n) (.string t) (.slice A0 k0 c0) (.slice A1 k1 c1)
  have HA := Lib.hid ha
  clear ha
  have e1 : bits .and .i64 4 1 = 0 := by decide
  have e2 : bits .and .i64 4 2 = 0 := by decide
  have e4 : bits .and .i64 4 4 = 4 := by decide
  have e8 : bits .and .i64 4 8 = 0 := by decide
  have e16 : bits .and .i64 4 16 = 0 := by decide
  go_enter Tryd.func12, Tryd.ntmps12
  go_wp2_with fail
  refine (PScriptTotal.script_takes.calls _ 4 _ rfl).mono ?_
  rintro e w1 ⟨rfl, hd⟩
  have HB := Lib.hid (HA.out.drawn hd)
  clear hd
  obtain ⟨f0, f1, f2, f3, f4, f5⟩ := HB.out.bx.cells
  by_cases h2 : ¬ (node = 0)
  · have h2' : (node == 0) = false := by simpa using h2
    go_wp2
    go_ret
    exact ⟨by rw [show pgW _ _ _ _ _ _ _ _ = false from by simp only [pgW]; rw [decide_eq_false (by omega)]; simp]; rfl, HB.out.bl⟩
  have h2' : node = 0 := by omega
  subst h2'
  clear h2
  go_wp2_with fail
  cases hs : decide (0 ≤ n ∧ n ≤ 255)
  · refine (PScriptTotal.script_small.calls n false _ (small_f hs)).mono ?_
    rintro e w2 ⟨rfl, hd⟩
    have HC := Lib.hid (HB.out.drawn hd)
    clear hd f0 f1 f2 f3 f4 f5
    obtain ⟨f0, f1, f2, f3, f4, f5⟩ := HC.out.bx.cells
    go_wp2
    go_ret
    exact ⟨by rw [show pgW _ _ _ _ _ _ _ _ = false from by simp only [pgW]; rw [hs]; simp]; rfl, HC.out.bl⟩
  refine (PScriptTotal.script_small.calls n true _ (small_f hs)).mono ?_
  rintro e w2 ⟨rfl, hd⟩
  have HC := Lib.hid (HB.out.drawn hd)
  clear hd f0 f1 f2 f3 f4 f5
  obtain ⟨f0, f1, f2, f3, f4, f5⟩ := HC.out.bx.cells
  by_cases h4 : ¬ (t.size ≤ 65535)
  · have h4' : 65535 < t.size := by omega
    go_wp2
    go_ret
    exact ⟨by rw [show pgW _ _ _ _ _ _ _ _ = false from by simp only [pgW]; rw [decide_eq_false h4]; simp]; rfl, HC.out.bl⟩
  have h4' : t.size ≤ 65535 := by omega
  clear h4
  by_cases h5 : ¬ (t = ⟨#[]⟩)
  · have h5' : t.toList.isEmpty = false := bytes_ne h5
    go_wp2
    go_ret
    exact ⟨by rw [show pgW _ _ _ _ _ _ _ _ = false from by simp only [pgW]; rw [decide_eq_false h5]; simp]; rfl, HC.out.bl⟩
  have h5' : t = ⟨#[]⟩ := by simpa using h5
  subst h5'
  clear h5
  have hb2 := HC.out.bl.alloc HC.out.bl.size (.cells #[.slice A0 k0 c0, .slice A1 k1 c1] 24)
  have HD := Lib.hid hb2
  clear hb2
  by_cases h6 : ¬ (k0 = k1)
  · have h6' : (((k0 : Nat) : Int) == ((k1 : Nat) : Int)) = false := by simpa using (by omega : ¬ ((k0 : Int) = (k1 : Int)))
    go_wp2
    go_ret
    exact ⟨by rw [show pgW _ _ _ _ _ _ _ _ = false from by simp only [pgW]; rw [HK0.out, HK1.out, decide_eq_false h6]; simp]; rfl, HD.out⟩
  have h6' : k0 = k1 := by omega
  subst h6'
  by_cases h7 : ¬ (k0 < 8)
  · have h7' : 8 ≤ k0 := by omega
    go_wp2
    go_ret
    exact ⟨by rw [show pgW _ _ _ _ _ _ _ _ = false from by simp only [pgW]; rw [HK0.out, decide_eq_false h7]; simp]; rfl, HD.out⟩
  have h7' : k0 < 8 := by omega
  clear h6 h7
  by_cases h8 : ¬ (k0 = 0)
  · have h8' : 0 < k0 := by omega
    go_wp2
    go_ret
    exact ⟨by rw [show pgW _ _ _ _ _ _ _ _ = false from by simp only [pgW]; rw [HK0.out, decide_eq_false h8]; simp]; rfl, HD.out⟩
  have h8' : k0 = 0 := by omega
  subst h8'
  clear h8
  go_wp2_with fail
  have hbW := below_alloc (below_alloc HC.out.bl (.cells #[.slice A0 0 c0, .slice A1 0 c1] 24)) (.cells #[.slice A0 0 c0, .slice A1 0 c1] 22)
  refine (concat_any (w2.heap.size + 1) A0 A1 c0 c1 keep torn _ (by rw [HK0.out]; exact (cell_two w2 _ _ _).1) (by rw [HK1.out]; exact (cell_two w2 _ _ _).2)
    (by rw [HK0.out]; exact Kd.C_below HX.out hbW) (by rw [HK1.out]; exact Kd.C_below HY.out hbW) (by rw [HK0.out]; omega) (by rw [HK1.out]; omega)).mono ?_
  rintro e w3 ⟨v, rfl, ho, hb⟩
  have HW := Lib.hid (below_then hbW hbW.size hb)
  clear hbW hb
  obtain ⟨A, c, rfl, hl, hC⟩ := Kd.R_reads (Own.R ho (fun _ => True) (fun _ _ => trivial))
  clear ho
  have HZ : Hid (∃ zs, zs = keep ++ torn) := Lib.hid ⟨_, rfl⟩
  generalize hz : keep ++ torn = zs at hl hC ⊢
  have HZ := Lib.hid hz
  have HC3 := Lib.hid hC
  clear hC hz
  go_wp2_with fail
  refine (contains_any A c zs _ HC3.out hl).mono ?_
  rintro e w4 ⟨rfl, rfl⟩
  go_wp2
  go_ret
  refine ⟨?_, HW.out⟩
  rw [show pgW _ _ _ _ _ _ _ _ = zs.all byteOf from by
    simp only [pgW, hs, HK0.out, HK1.out, HZ.out, h4']; simp]
  rfl

set_option maxHeartbeats 4000000 in
set_option maxRecDepth 100000 in
theorem plain_3 (w : World) (node n : Int) (t : ByteArray) (A0 A1 : Option Addr) (c0 c1 : Nat) (keep torn : List Int)
    (hx : Kd.C (Kd.int .i64) w A0 keep.length keep) (hy : Kd.C (Kd.int .i64) w A1 torn.length torn) :
    Calls Tryd.prog 12 #[.agg #[.int .u8 3, .int .u8 node, .int .i64 n, .string t, .slice A0 keep.length c0, .slice A1 torn.length c1]] w
      (PlainPost w (pgW (decide (node = 0)) true false false n t keep torn)) := by
  have HX := Lib.hid hx
  have HY := Lib.hid hy
  clear hx hy
  generalize hk0 : keep.length = k0 at *
  generalize hk1 : torn.length = k1 at *
  have HK0 := Lib.hid hk0
  have HK1 := Lib.hid hk1
  clear hk0 hk1
  have ha := PB.start w (.int .u8 3) (.int .u8 node) (.int .i64 n) (.string t) (.slice A0 k0 c0) (.slice A1 k1 c1)
  have HA := Lib.hid ha
  clear ha
  have e1 : bits .and .i64 4 1 = 0 := by decide
  have e2 : bits .and .i64 4 2 = 0 := by decide
  have e4 : bits .and .i64 4 4 = 4 := by decide
  have e8 : bits .and .i64 4 8 = 0 := by decide
  have e16 : bits .and .i64 4 16 = 0 := by decide
  go_enter Tryd.func12, Tryd.ntmps12
  go_wp2_with fail
  refine (PScriptTotal.script_takes.calls _ 4 _ rfl).mono ?_
  rintro e w1 ⟨rfl, hd⟩
  have HB := Lib.hid (HA.out.drawn hd)
  clear hd
  obtain ⟨f0, f1, f2, f3, f4, f5⟩ := HB.out.bx.cells
  by_cases h2 : ¬ (node = 0)
  · have h2' : (node == 0) = false := by simpa using h2
    go_wp2
    go_ret
    exact ⟨by rw [show pgW _ _ _ _ _ _ _ _ = false from by simp only [pgW]; rw [decide_eq_false (by omega)]; simp]; rfl, HB.out.bl⟩
  have h2' : node = 0 := by omega
  subst h2'
  clear h2
  go_wp2_with fail
  cases hs : decide (0 ≤ n ∧ n ≤ 255)
  · refine (PScriptTotal.script_small.calls n false _ (small_f hs)).mono ?_
    rintro e w2 ⟨rfl, hd⟩
    have HC := Lib.hid (HB.out.drawn hd)
    clear hd f0 f1 f2 f3 f4 f5
    obtain ⟨f0, f1, f2, f3, f4, f5⟩ := HC.out.bx.cells
    go_wp2
    go_ret
    exact ⟨by rw [show pgW _ _ _ _ _ _ _ _ = false from by simp only [pgW]; rw [hs]; simp]; rfl, HC.out.bl⟩
  refine (PScriptTotal.script_small.calls n true _ (small_f hs)).mono ?_
  rintro e w2 ⟨rfl, hd⟩
  have HC := Lib.hid (HB.out.drawn hd)
  clear hd f0 f1 f2 f3 f4 f5
  obtain ⟨f0, f1, f2, f3, f4, f5⟩ := HC.out.bx.cells
  by_cases h4 : ¬ (t.size ≤ 65535)
  · have h4' : 65535 < t.size := by omega
    go_wp2
    go_ret
    exact ⟨by rw [show pgW _ _ _ _ _ _ _ _ = false from by simp only [pgW]; rw [decide_eq_false h4]; simp]; rfl, HC.out.bl⟩
  have h4' : t.size ≤ 65535 := by omega
  clear h4
  by_cases h5 : ¬ (t = ⟨#[]⟩)
  · have h5' : t.toList.isEmpty = false := bytes_ne h5
    go_wp2
    go_ret
    exact ⟨by rw [show pgW _ _ _ _ _ _ _ _ = false from by simp only [pgW]; rw [decide_eq_false h5]; simp]; rfl, HC.out.bl⟩
  have h5' : t = ⟨#[]⟩ := by simpa using h5
  subst h5'
  clear h5
  have hb2 := HC.out.bl.alloc HC.out.bl.size (.cells #[.slice A0 k0 c0, .slice A1 k1 c1] 24)
  have HD := Lib.hid hb2
  clear hb2
  by_cases h6 : ¬ (k0 = k1)
  · have h6' : (((k0 : Nat) : Int) == ((k1 : Nat) : Int)) = false := by simpa using (by omega : ¬ ((k0 : Int) = (k1 : Int)))
    go_wp2
    go_ret
    exact ⟨by rw [show pgW _ _ _ _ _ _ _ _ = false from by simp only [pgW]; rw [HK0.out, HK1.out, decide_eq_false h6]; simp]; rfl, HD.out⟩
  have h6' : k0 = k1 := by omega
  subst h6'
  by_cases h7 : ¬ (k0 < 8)
  · have h7' : 8 ≤ k0 := by omega
    go_wp2
    go_ret
    exact ⟨by rw [show pgW _ _ _ _ _ _ _ _ = false from by simp only [pgW]; rw [HK0.out, decide_eq_false h7]; simp]; rfl, HD.out⟩
  have h7' : k0 < 8 := by omega
  clear h6 h7
  by_cases h8 : ¬ (k0 = 0)
  · have h8' : 0 < k0 := by omega
    go_wp2
    go_ret
    exact ⟨by rw [show pgW _ _ _ _ _ _ _ _ = false from by simp only [pgW]; rw [HK0.out, decide_eq_false h8]; simp]; rfl, HD.out⟩
  have h8' : k0 = 0 := by omega
  subst h8'
  clear h8
  go_wp2_with fail
  have hbW := below_alloc (below_alloc HC.out.bl (.cells #[.slice A0 0 c0, .slice A1 0 c1] 24)) (.cells #[.slice A0 0 c0, .slice A1 0 c1] 22)
  refine (concat_any (w2.heap.size + 1) A0 A1 c0 c1 keep torn _ (by rw [HK0.out]; exact (cell_two w2 _ _ _).1) (by rw [HK1.out]; exact (cell_two w2 _ _ _).2)
    (by rw [HK0.out]; exact Kd.C_below HX.out hbW) (by rw [HK1.out]; exact Kd.C_below HY.out hbW) (by rw [HK0.out]; omega) (by rw [HK1.out]; omega)).mono ?_
  rintro e w3 ⟨v, rfl, ho, hb⟩
  have HW := Lib.hid (below_then hbW hbW.size hb)
  clear hbW hb
  obtain ⟨A, c, rfl, hl, hC⟩ := Kd.R_reads (Own.R ho (fun _ => True) (fun _ _ => trivial))
  clear ho
  have HZ : Hid (∃ zs, zs = keep ++ torn) := Lib.hid ⟨_, rfl⟩
  generalize hz : keep ++ torn = zs at hl hC ⊢
  have HZ := Lib.hid hz
  have HC3 := Lib.hid hC
  clear hC hz
  go_wp2_with fail
  refine (contains_any A c zs _ HC3.out hl).mono ?_
  rintro e w4 ⟨rfl, rfl⟩
  go_wp2
  go_ret
  refine ⟨?_, HW.out⟩
  rw [show pgW _ _ _ _ _ _ _ _ = zs.all byteOf from by
    simp only [pgW, hs, HK0.out, HK1.out, HZ.out, h4']; simp]
  rfl

set_option maxHeartbeats 4000000 in
set_option maxRecDepth 100000 in
theorem plain_4 (w : World) (node n : Int) (t : ByteArray) (A0 A1 : Option Addr) (c0 c1 : Nat) (keep torn : List Int)
    (hx : Kd.C (Kd.int .i64) w A0 keep.length keep) (hy : Kd.C (Kd.int .i64) w A1 torn.length torn) :
    Calls Tryd.prog 12 #[.agg #[.int .u8 4, .int .u8 node, .int .i64 n, .string t, .slice A0 keep.length c0, .slice A1 torn.length c1]] w
      (PlainPost w (pgW (decide (node = 0)) true false false n t keep torn)) := by
  have HX := Lib.hid hx
  have HY := Lib.hid hy
  clear hx hy
  generalize hk0 : keep.length = k0 at *
  generalize hk1 : torn.length = k1 at *
  have HK0 := Lib.hid hk0
  have HK1 := Lib.hid hk1
  clear hk0 hk1
  have ha := PB.start w (.int .u8 4) (.int .u8 node) (.int .i64 n) (.string t) (.slice A0 k0 c0) (.slice A1 k1 c1)
  have HA := Lib.hid ha
  clear ha
  have e1 : bits .and .i64 4 1 = 0 := by decide
  have e2 : bits .and .i64 4 2 = 0 := by decide
  have e4 : bits .and .i64 4 4 = 4 := by decide
  have e8 : bits .and .i64 4 8 = 0 := by decide
  have e16 : bits .and .i64 4 16 = 0 := by decide
  go_enter Tryd.func12, Tryd.ntmps12
  go_wp2_with fail
  refine (PScriptTotal.script_takes.calls _ 4 _ rfl).mono ?_
  rintro e w1 ⟨rfl, hd⟩
  have HB := Lib.hid (HA.out.drawn hd)
  clear hd
  obtain ⟨f0, f1, f2, f3, f4, f5⟩ := HB.out.bx.cells
  by_cases h2 : ¬ (node = 0)
  · have h2' : (node == 0) = false := by simpa using h2
    go_wp2
    go_ret
    exact ⟨by rw [show pgW _ _ _ _ _ _ _ _ = false from by simp only [pgW]; rw [decide_eq_false (by omega)]; simp]; rfl, HB.out.bl⟩
  have h2' : node = 0 := by omega
  subst h2'
  clear h2
  go_wp2_with fail
  cases hs : decide (0 ≤ n ∧ n ≤ 255)
  · refine (PScriptTotal.script_small.calls n false _ (small_f hs)).mono ?_
    rintro e w2 ⟨rfl, hd⟩
    have HC := Lib.hid (HB.out.drawn hd)
    clear hd f0 f1 f2 f3 f4 f5
    obtain ⟨f0, f1, f2, f3, f4, f5⟩ := HC.out.bx.cells
    go_wp2
    go_ret
    exact ⟨by rw [show pgW _ _ _ _ _ _ _ _ = false from by simp only [pgW]; rw [hs]; simp]; rfl, HC.out.bl⟩
  refine (PScriptTotal.script_small.calls n true _ (small_f hs)).mono ?_
  rintro e w2 ⟨rfl, hd⟩
  have HC := Lib.hid (HB.out.drawn hd)
  clear hd f0 f1 f2 f3 f4 f5
  obtain ⟨f0, f1, f2, f3, f4, f5⟩ := HC.out.bx.cells
  by_cases h4 : ¬ (t.size ≤ 65535)
  · have h4' : 65535 < t.size := by omega
    go_wp2
    go_ret
    exact ⟨by rw [show pgW _ _ _ _ _ _ _ _ = false from by simp only [pgW]; rw [decide_eq_false h4]; simp]; rfl, HC.out.bl⟩
  have h4' : t.size ≤ 65535 := by omega
  clear h4
  by_cases h5 : ¬ (t = ⟨#[]⟩)
  · have h5' : t.toList.isEmpty = false := bytes_ne h5
    go_wp2
    go_ret
    exact ⟨by rw [show pgW _ _ _ _ _ _ _ _ = false from by simp only [pgW]; rw [decide_eq_false h5]; simp]; rfl, HC.out.bl⟩
  have h5' : t = ⟨#[]⟩ := by simpa using h5
  subst h5'
  clear h5
  have hb2 := HC.out.bl.alloc HC.out.bl.size (.cells #[.slice A0 k0 c0, .slice A1 k1 c1] 24)
  have HD := Lib.hid hb2
  clear hb2
  by_cases h6 : ¬ (k0 = k1)
  · have h6' : (((k0 : Nat) : Int) == ((k1 : Nat) : Int)) = false := by simpa using (by omega : ¬ ((k0 : Int) = (k1 : Int)))
    go_wp2
    go_ret
    exact ⟨by rw [show pgW _ _ _ _ _ _ _ _ = false from by simp only [pgW]; rw [HK0.out, HK1.out, decide_eq_false h6]; simp]; rfl, HD.out⟩
  have h6' : k0 = k1 := by omega
  subst h6'
  by_cases h7 : ¬ (k0 < 8)
  · have h7' : 8 ≤ k0 := by omega
    go_wp2
    go_ret
    exact ⟨by rw [show pgW _ _ _ _ _ _ _ _ = false from by simp only [pgW]; rw [HK0.out, decide_eq_false h7]; simp]; rfl, HD.out⟩
  have h7' : k0 < 8 := by omega
  clear h6 h7
  by_cases h8 : ¬ (k0 = 0)
  · have h8' : 0 < k0 := by omega
    go_wp2
    go_ret
    exact ⟨by rw [show pgW _ _ _ _ _ _ _ _ = false from by simp only [pgW]; rw [HK0.out, decide_eq_false h8]; simp]; rfl, HD.out⟩
  have h8' : k0 = 0 := by omega
  subst h8'
  clear h8
  go_wp2_with fail
  have hbW := below_alloc (below_alloc HC.out.bl (.cells #[.slice A0 0 c0, .slice A1 0 c1] 24)) (.cells #[.slice A0 0 c0, .slice A1 0 c1] 22)
  refine (concat_any (w2.heap.size + 1) A0 A1 c0 c1 keep torn _ (by rw [HK0.out]; exact (cell_two w2 _ _ _).1) (by rw [HK1.out]; exact (cell_two w2 _ _ _).2)
    (by rw [HK0.out]; exact Kd.C_below HX.out hbW) (by rw [HK1.out]; exact Kd.C_below HY.out hbW) (by rw [HK0.out]; omega) (by rw [HK1.out]; omega)).mono ?_
  rintro e w3 ⟨v, rfl, ho, hb⟩
  have HW := Lib.hid (below_then hbW hbW.size hb)
  clear hbW hb
  obtain ⟨A, c, rfl, hl, hC⟩ := Kd.R_reads (Own.R ho (fun _ => True) (fun _ _ => trivial))
  clear ho
  have HZ : Hid (∃ zs, zs = keep ++ torn) := Lib.hid ⟨_, rfl⟩
  generalize hz : keep ++ torn = zs at hl hC ⊢
  have HZ := Lib.hid hz
  have HC3 := Lib.hid hC
  clear hC hz
  go_wp2_with fail
  refine (contains_any A c zs _ HC3.out hl).mono ?_
  rintro e w4 ⟨rfl, rfl⟩
  go_wp2
  go_ret
  refine ⟨?_, HW.out⟩
  rw [show pgW _ _ _ _ _ _ _ _ = zs.all byteOf from by
    simp only [pgW, hs, HK0.out, HK1.out, HZ.out, h4']; simp]
  rfl

set_option maxHeartbeats 4000000 in
set_option maxRecDepth 100000 in
theorem plain_5 (w : World) (node n : Int) (t : ByteArray) (A0 A1 : Option Addr) (c0 c1 : Nat) (keep torn : List Int)
    (hx : Kd.C (Kd.int .i64) w A0 keep.length keep) (hy : Kd.C (Kd.int .i64) w A1 torn.length torn) :
    Calls Tryd.prog 12 #[.agg #[.int .u8 5, .int .u8 node, .int .i64 n, .string t, .slice A0 keep.length c0, .slice A1 torn.length c1]] w
      (PlainPost w (pgW (decide (1 ≤ node ∧ node ≤ 5)) true false false n t keep torn)) := by
  have HX := Lib.hid hx
  have HY := Lib.hid hy
  clear hx hy
  generalize hk0 : keep.length = k0 at *
  generalize hk1 : torn.length = k1 at *
  have HK0 := Lib.hid hk0
  have HK1 := Lib.hid hk1
  clear hk0 hk1
  have ha := PB.start w (.int .u8 5) (.int .u8 node) (.int .i64 n) (.string t) (.slice A0 k0 c0) (.slice A1 k1 c1)
  have HA := Lib.hid ha
  clear ha
  have e1 : bits .and .i64 5 1 = 1 := by decide
  have e2 : bits .and .i64 5 2 = 0 := by decide
  have e4 : bits .and .i64 5 4 = 4 := by decide
  have e8 : bits .and .i64 5 8 = 0 := by decide
  have e16 : bits .and .i64 5 16 = 0 := by decide
  go_enter Tryd.func12, Tryd.ntmps12
  go_wp2_with fail
  refine (PScriptTotal.script_takes.calls _ 5 _ rfl).mono ?_
  rintro e w1 ⟨rfl, hd⟩
  have HB := Lib.hid (HA.out.drawn hd)
  clear hd
  obtain ⟨f0, f1, f2, f3, f4, f5⟩ := HB.out.bx.cells
  by_cases h1 : ¬ (1 ≤ node)
  · have h1' : node < 1 := by omega
    go_wp2
    go_ret
    exact ⟨by rw [show pgW _ _ _ _ _ _ _ _ = false from by simp only [pgW]; rw [decide_eq_false (by omega)]; simp]; rfl, HB.out.bl⟩
  have h1' : 1 ≤ node := by omega
  by_cases h2 : ¬ (node ≤ 5)
  · have h2' : 5 < node := by omega
    go_wp2
    go_ret
    exact ⟨by rw [show pgW _ _ _ _ _ _ _ _ = false from by simp only [pgW]; rw [decide_eq_false (by omega)]; simp]; rfl, HB.out.bl⟩
  have h2' : node ≤ 5 := by omega
  clear h1 h2
  go_wp2_with fail
  cases hs : decide (0 ≤ n ∧ n ≤ 255)
  · refine (PScriptTotal.script_small.calls n false _ (small_f hs)).mono ?_
    rintro e w2 ⟨rfl, hd⟩
    have HC := Lib.hid (HB.out.drawn hd)
    clear hd f0 f1 f2 f3 f4 f5
    obtain ⟨f0, f1, f2, f3, f4, f5⟩ := HC.out.bx.cells
    go_wp2
    go_ret
    exact ⟨by rw [show pgW _ _ _ _ _ _ _ _ = false from by simp only [pgW]; rw [hs]; simp]; rfl, HC.out.bl⟩
  refine (PScriptTotal.script_small.calls n true _ (small_f hs)).mono ?_
  rintro e w2 ⟨rfl, hd⟩
  have HC := Lib.hid (HB.out.drawn hd)
  clear hd f0 f1 f2 f3 f4 f5
  obtain ⟨f0, f1, f2, f3, f4, f5⟩ := HC.out.bx.cells
  by_cases h4 : ¬ (t.size ≤ 65535)
  · have h4' : 65535 < t.size := by omega
    go_wp2
    go_ret
    exact ⟨by rw [show pgW _ _ _ _ _ _ _ _ = false from by simp only [pgW]; rw [decide_eq_false h4]; simp]; rfl, HC.out.bl⟩
  have h4' : t.size ≤ 65535 := by omega
  clear h4
  by_cases h5 : ¬ (t = ⟨#[]⟩)
  · have h5' : t.toList.isEmpty = false := bytes_ne h5
    go_wp2
    go_ret
    exact ⟨by rw [show pgW _ _ _ _ _ _ _ _ = false from by simp only [pgW]; rw [decide_eq_false h5]; simp]; rfl, HC.out.bl⟩
  have h5' : t = ⟨#[]⟩ := by simpa using h5
  subst h5'
  clear h5
  have hb2 := HC.out.bl.alloc HC.out.bl.size (.cells #[.slice A0 k0 c0, .slice A1 k1 c1] 24)
  have HD := Lib.hid hb2
  clear hb2
  by_cases h6 : ¬ (k0 = k1)
  · have h6' : (((k0 : Nat) : Int) == ((k1 : Nat) : Int)) = false := by simpa using (by omega : ¬ ((k0 : Int) = (k1 : Int)))
    go_wp2
    go_ret
    exact ⟨by rw [show pgW _ _ _ _ _ _ _ _ = false from by simp only [pgW]; rw [HK0.out, HK1.out, decide_eq_false h6]; simp]; rfl, HD.out⟩
  have h6' : k0 = k1 := by omega
  subst h6'
  by_cases h7 : ¬ (k0 < 8)
  · have h7' : 8 ≤ k0 := by omega
    go_wp2
    go_ret
    exact ⟨by rw [show pgW _ _ _ _ _ _ _ _ = false from by simp only [pgW]; rw [HK0.out, decide_eq_false h7]; simp]; rfl, HD.out⟩
  have h7' : k0 < 8 := by omega
  clear h6 h7
  by_cases h8 : ¬ (k0 = 0)
  · have h8' : 0 < k0 := by omega
    go_wp2
    go_ret
    exact ⟨by rw [show pgW _ _ _ _ _ _ _ _ = false from by simp only [pgW]; rw [HK0.out, decide_eq_false h8]; simp]; rfl, HD.out⟩
  have h8' : k0 = 0 := by omega
  subst h8'
  clear h8
  go_wp2_with fail
  have hbW := below_alloc (below_alloc HC.out.bl (.cells #[.slice A0 0 c0, .slice A1 0 c1] 24)) (.cells #[.slice A0 0 c0, .slice A1 0 c1] 22)
  refine (concat_any (w2.heap.size + 1) A0 A1 c0 c1 keep torn _ (by rw [HK0.out]; exact (cell_two w2 _ _ _).1) (by rw [HK1.out]; exact (cell_two w2 _ _ _).2)
    (by rw [HK0.out]; exact Kd.C_below HX.out hbW) (by rw [HK1.out]; exact Kd.C_below HY.out hbW) (by rw [HK0.out]; omega) (by rw [HK1.out]; omega)).mono ?_
  rintro e w3 ⟨v, rfl, ho, hb⟩
  have HW := Lib.hid (below_then hbW hbW.size hb)
  clear hbW hb
  obtain ⟨A, c, rfl, hl, hC⟩ := Kd.R_reads (Own.R ho (fun _ => True) (fun _ _ => trivial))
  clear ho
  have HZ : Hid (∃ zs, zs = keep ++ torn) := Lib.hid ⟨_, rfl⟩
  generalize hz : keep ++ torn = zs at hl hC ⊢
  have HZ := Lib.hid hz
  have HC3 := Lib.hid hC
  clear hC hz
  go_wp2_with fail
  refine (contains_any A c zs _ HC3.out hl).mono ?_
  rintro e w4 ⟨rfl, rfl⟩
  go_wp2
  go_ret
  refine ⟨?_, HW.out⟩
  rw [show pgW _ _ _ _ _ _ _ _ = zs.all byteOf from by
    simp only [pgW, hs, HK0.out, HK1.out, HZ.out, h1', h2', h4']; simp]
  rfl

set_option maxHeartbeats 4000000 in
set_option maxRecDepth 100000 in
theorem plain_6 (w : World) (node n : Int) (t : ByteArray) (A0 A1 : Option Addr) (c0 c1 : Nat) (keep torn : List Int)
    (hx : Kd.C (Kd.int .i64) w A0 keep.length keep) (hy : Kd.C (Kd.int .i64) w A1 torn.length torn) :
    Calls Tryd.prog 12 #[.agg #[.int .u8 6, .int .u8 node, .int .i64 n, .string t, .slice A0 keep.length c0, .slice A1 torn.length c1]] w
      (PlainPost w (pgW (decide (1 ≤ node ∧ node ≤ 5)) true false true n t keep torn)) := by
  have HX := Lib.hid hx
  have HY := Lib.hid hy
  clear hx hy
  generalize hk0 : keep.length = k0 at *
  generalize hk1 : torn.length = k1 at *
  have HK0 := Lib.hid hk0
  have HK1 := Lib.hid hk1
  clear hk0 hk1
  have ha := PB.start w (.int .u8 6) (.int .u8 node) (.int .i64 n) (.string t) (.slice A0 k0 c0) (.slice A1 k1 c1)
  have HA := Lib.hid ha
  clear ha
  have e1 : bits .and .i64 21 1 = 1 := by decide
  have e2 : bits .and .i64 21 2 = 0 := by decide
  have e4 : bits .and .i64 21 4 = 4 := by decide
  have e8 : bits .and .i64 21 8 = 0 := by decide
  have e16 : bits .and .i64 21 16 = 16 := by decide
  go_enter Tryd.func12, Tryd.ntmps12
  go_wp2_with fail
  refine (PScriptTotal.script_takes.calls _ 21 _ rfl).mono ?_
  rintro e w1 ⟨rfl, hd⟩
  have HB := Lib.hid (HA.out.drawn hd)
  clear hd
  obtain ⟨f0, f1, f2, f3, f4, f5⟩ := HB.out.bx.cells
  by_cases h1 : ¬ (1 ≤ node)
  · have h1' : node < 1 := by omega
    go_wp2
    go_ret
    exact ⟨by rw [show pgW _ _ _ _ _ _ _ _ = false from by simp only [pgW]; rw [decide_eq_false (by omega)]; simp]; rfl, HB.out.bl⟩
  have h1' : 1 ≤ node := by omega
  by_cases h2 : ¬ (node ≤ 5)
  · have h2' : 5 < node := by omega
    go_wp2
    go_ret
    exact ⟨by rw [show pgW _ _ _ _ _ _ _ _ = false from by simp only [pgW]; rw [decide_eq_false (by omega)]; simp]; rfl, HB.out.bl⟩
  have h2' : node ≤ 5 := by omega
  clear h1 h2
  go_wp2_with fail
  cases hs : decide (0 ≤ n ∧ n ≤ 255)
  · refine (PScriptTotal.script_small.calls n false _ (small_f hs)).mono ?_
    rintro e w2 ⟨rfl, hd⟩
    have HC := Lib.hid (HB.out.drawn hd)
    clear hd f0 f1 f2 f3 f4 f5
    obtain ⟨f0, f1, f2, f3, f4, f5⟩ := HC.out.bx.cells
    go_wp2
    go_ret
    exact ⟨by rw [show pgW _ _ _ _ _ _ _ _ = false from by simp only [pgW]; rw [hs]; simp]; rfl, HC.out.bl⟩
  refine (PScriptTotal.script_small.calls n true _ (small_f hs)).mono ?_
  rintro e w2 ⟨rfl, hd⟩
  have HC := Lib.hid (HB.out.drawn hd)
  clear hd f0 f1 f2 f3 f4 f5
  obtain ⟨f0, f1, f2, f3, f4, f5⟩ := HC.out.bx.cells
  by_cases h4 : ¬ (t.size ≤ 65535)
  · have h4' : 65535 < t.size := by omega
    go_wp2
    go_ret
    exact ⟨by rw [show pgW _ _ _ _ _ _ _ _ = false from by simp only [pgW]; rw [decide_eq_false h4]; simp]; rfl, HC.out.bl⟩
  have h4' : t.size ≤ 65535 := by omega
  clear h4
  by_cases h5 : ¬ (t = ⟨#[]⟩)
  · have h5' : t.toList.isEmpty = false := bytes_ne h5
    go_wp2
    go_ret
    exact ⟨by rw [show pgW _ _ _ _ _ _ _ _ = false from by simp only [pgW]; rw [decide_eq_false h5]; simp]; rfl, HC.out.bl⟩
  have h5' : t = ⟨#[]⟩ := by simpa using h5
  subst h5'
  clear h5
  have hb2 := HC.out.bl.alloc HC.out.bl.size (.cells #[.slice A0 k0 c0, .slice A1 k1 c1] 24)
  have HD := Lib.hid hb2
  clear hb2
  by_cases h6 : ¬ (k0 = k1)
  · have h6' : (((k0 : Nat) : Int) == ((k1 : Nat) : Int)) = false := by simpa using (by omega : ¬ ((k0 : Int) = (k1 : Int)))
    go_wp2
    go_ret
    exact ⟨by rw [show pgW _ _ _ _ _ _ _ _ = false from by simp only [pgW]; rw [HK0.out, HK1.out, decide_eq_false h6]; simp]; rfl, HD.out⟩
  have h6' : k0 = k1 := by omega
  subst h6'
  by_cases h7 : ¬ (k0 < 8)
  · have h7' : 8 ≤ k0 := by omega
    go_wp2
    go_ret
    exact ⟨by rw [show pgW _ _ _ _ _ _ _ _ = false from by simp only [pgW]; rw [HK0.out, decide_eq_false h7]; simp]; rfl, HD.out⟩
  have h7' : k0 < 8 := by omega
  clear h6 h7
  go_wp2_with fail
  have hbW := below_alloc (below_alloc HC.out.bl (.cells #[.slice A0 k0 c0, .slice A1 k0 c1] 24)) (.cells #[.slice A0 k0 c0, .slice A1 k0 c1] 22)
  refine (concat_any (w2.heap.size + 1) A0 A1 c0 c1 keep torn _ (by rw [HK0.out]; exact (cell_two w2 _ _ _).1) (by rw [HK1.out]; exact (cell_two w2 _ _ _).2)
    (by rw [HK0.out]; exact Kd.C_below HX.out hbW) (by rw [HK1.out]; exact Kd.C_below HY.out hbW) (by rw [HK0.out]; omega) (by rw [HK1.out]; omega)).mono ?_
  rintro e w3 ⟨v, rfl, ho, hb⟩
  have HW := Lib.hid (below_then hbW hbW.size hb)
  clear hbW hb
  obtain ⟨A, c, rfl, hl, hC⟩ := Kd.R_reads (Own.R ho (fun _ => True) (fun _ _ => trivial))
  clear ho
  have HZ : Hid (∃ zs, zs = keep ++ torn) := Lib.hid ⟨_, rfl⟩
  generalize hz : keep ++ torn = zs at hl hC ⊢
  have HZ := Lib.hid hz
  have HC3 := Lib.hid hC
  clear hC hz
  go_wp2_with fail
  refine (contains_any A c zs _ HC3.out hl).mono ?_
  rintro e w4 ⟨rfl, rfl⟩
  go_wp2
  go_ret
  refine ⟨?_, HW.out⟩
  rw [show pgW _ _ _ _ _ _ _ _ = zs.all byteOf from by
    simp only [pgW, hs, HK0.out, HK1.out, HZ.out, h1', h2', h4', h7']; simp]
  rfl

set_option maxHeartbeats 4000000 in
set_option maxRecDepth 100000 in
theorem plain_7 (w : World) (node n : Int) (t : ByteArray) (A0 A1 : Option Addr) (c0 c1 : Nat) (keep torn : List Int)
    (hx : Kd.C (Kd.int .i64) w A0 keep.length keep) (hy : Kd.C (Kd.int .i64) w A1 torn.length torn) :
    Calls Tryd.prog 12 #[.agg #[.int .u8 7, .int .u8 node, .int .i64 n, .string t, .slice A0 keep.length c0, .slice A1 torn.length c1]] w
      (PlainPost w (pgW (decide (1 ≤ node ∧ node ≤ 5)) false false true n t keep torn)) := by
  have HX := Lib.hid hx
  have HY := Lib.hid hy
  clear hx hy
  generalize hk0 : keep.length = k0 at *
  generalize hk1 : torn.length = k1 at *
  have HK0 := Lib.hid hk0
  have HK1 := Lib.hid hk1
  clear hk0 hk1
  have ha := PB.start w (.int .u8 7) (.int .u8 node) (.int .i64 n) (.string t) (.slice A0 k0 c0) (.slice A1 k1 c1)
  have HA := Lib.hid ha
  clear ha
  have e1 : bits .and .i64 17 1 = 1 := by decide
  have e2 : bits .and .i64 17 2 = 0 := by decide
  have e4 : bits .and .i64 17 4 = 0 := by decide
  have e8 : bits .and .i64 17 8 = 0 := by decide
  have e16 : bits .and .i64 17 16 = 16 := by decide
  go_enter Tryd.func12, Tryd.ntmps12
  go_wp2_with fail
  refine (PScriptTotal.script_takes.calls _ 17 _ rfl).mono ?_
  rintro e w1 ⟨rfl, hd⟩
  have HB := Lib.hid (HA.out.drawn hd)
  clear hd
  obtain ⟨f0, f1, f2, f3, f4, f5⟩ := HB.out.bx.cells
  by_cases h1 : ¬ (1 ≤ node)
  · have h1' : node < 1 := by omega
    go_wp2
    go_ret
    exact ⟨by rw [show pgW _ _ _ _ _ _ _ _ = false from by simp only [pgW]; rw [decide_eq_false (by omega)]; simp]; rfl, HB.out.bl⟩
  have h1' : 1 ≤ node := by omega
  by_cases h2 : ¬ (node ≤ 5)
  · have h2' : 5 < node := by omega
    go_wp2
    go_ret
    exact ⟨by rw [show pgW _ _ _ _ _ _ _ _ = false from by simp only [pgW]; rw [decide_eq_false (by omega)]; simp]; rfl, HB.out.bl⟩
  have h2' : node ≤ 5 := by omega
  clear h1 h2
  go_wp2_with fail
  cases hs : decide (0 ≤ n ∧ n ≤ 255)
  · refine (PScriptTotal.script_small.calls n false _ (small_f hs)).mono ?_
    rintro e w2 ⟨rfl, hd⟩
    have HC := Lib.hid (HB.out.drawn hd)
    clear hd f0 f1 f2 f3 f4 f5
    obtain ⟨f0, f1, f2, f3, f4, f5⟩ := HC.out.bx.cells
    go_wp2
    go_ret
    exact ⟨by rw [show pgW _ _ _ _ _ _ _ _ = false from by simp only [pgW]; rw [hs]; simp]; rfl, HC.out.bl⟩
  refine (PScriptTotal.script_small.calls n true _ (small_f hs)).mono ?_
  rintro e w2 ⟨rfl, hd⟩
  have HC := Lib.hid (HB.out.drawn hd)
  clear hd f0 f1 f2 f3 f4 f5
  obtain ⟨f0, f1, f2, f3, f4, f5⟩ := HC.out.bx.cells
  by_cases h3 : ¬ (n = 0)
  · have h3' : (n == 0) = false := by simpa using h3
    go_wp2
    go_ret
    exact ⟨by rw [show pgW _ _ _ _ _ _ _ _ = false from by simp only [pgW]; rw [decide_eq_false h3]; simp]; rfl, HC.out.bl⟩
  have h3' : n = 0 := by omega
  subst h3'
  clear h3
  by_cases h4 : ¬ (t.size ≤ 65535)
  · have h4' : 65535 < t.size := by omega
    go_wp2
    go_ret
    exact ⟨by rw [show pgW _ _ _ _ _ _ _ _ = false from by simp only [pgW]; rw [decide_eq_false h4]; simp]; rfl, HC.out.bl⟩
  have h4' : t.size ≤ 65535 := by omega
  clear h4
  by_cases h5 : ¬ (t = ⟨#[]⟩)
  · have h5' : t.toList.isEmpty = false := bytes_ne h5
    go_wp2
    go_ret
    exact ⟨by rw [show pgW _ _ _ _ _ _ _ _ = false from by simp only [pgW]; rw [decide_eq_false h5]; simp]; rfl, HC.out.bl⟩
  have h5' : t = ⟨#[]⟩ := by simpa using h5
  subst h5'
  clear h5
  have hb2 := HC.out.bl.alloc HC.out.bl.size (.cells #[.slice A0 k0 c0, .slice A1 k1 c1] 24)
  have HD := Lib.hid hb2
  clear hb2
  by_cases h6 : ¬ (k0 = k1)
  · have h6' : (((k0 : Nat) : Int) == ((k1 : Nat) : Int)) = false := by simpa using (by omega : ¬ ((k0 : Int) = (k1 : Int)))
    go_wp2
    go_ret
    exact ⟨by rw [show pgW _ _ _ _ _ _ _ _ = false from by simp only [pgW]; rw [HK0.out, HK1.out, decide_eq_false h6]; simp]; rfl, HD.out⟩
  have h6' : k0 = k1 := by omega
  subst h6'
  by_cases h7 : ¬ (k0 < 8)
  · have h7' : 8 ≤ k0 := by omega
    go_wp2
    go_ret
    exact ⟨by rw [show pgW _ _ _ _ _ _ _ _ = false from by simp only [pgW]; rw [HK0.out, decide_eq_false h7]; simp]; rfl, HD.out⟩
  have h7' : k0 < 8 := by omega
  clear h6 h7
  go_wp2_with fail
  have hbW := below_alloc (below_alloc HC.out.bl (.cells #[.slice A0 k0 c0, .slice A1 k0 c1] 24)) (.cells #[.slice A0 k0 c0, .slice A1 k0 c1] 22)
  refine (concat_any (w2.heap.size + 1) A0 A1 c0 c1 keep torn _ (by rw [HK0.out]; exact (cell_two w2 _ _ _).1) (by rw [HK1.out]; exact (cell_two w2 _ _ _).2)
    (by rw [HK0.out]; exact Kd.C_below HX.out hbW) (by rw [HK1.out]; exact Kd.C_below HY.out hbW) (by rw [HK0.out]; omega) (by rw [HK1.out]; omega)).mono ?_
  rintro e w3 ⟨v, rfl, ho, hb⟩
  have HW := Lib.hid (below_then hbW hbW.size hb)
  clear hbW hb
  obtain ⟨A, c, rfl, hl, hC⟩ := Kd.R_reads (Own.R ho (fun _ => True) (fun _ _ => trivial))
  clear ho
  have HZ : Hid (∃ zs, zs = keep ++ torn) := Lib.hid ⟨_, rfl⟩
  generalize hz : keep ++ torn = zs at hl hC ⊢
  have HZ := Lib.hid hz
  have HC3 := Lib.hid hC
  clear hC hz
  go_wp2_with fail
  refine (contains_any A c zs _ HC3.out hl).mono ?_
  rintro e w4 ⟨rfl, rfl⟩
  go_wp2
  go_ret
  refine ⟨?_, HW.out⟩
  rw [show pgW _ _ _ _ _ _ _ _ = zs.all byteOf from by
    simp only [pgW, hs, HK0.out, HK1.out, HZ.out, h1', h2', h4', h7']; simp]
  rfl

set_option maxHeartbeats 4000000 in
set_option maxRecDepth 100000 in
theorem plain_8 (w : World) (node n : Int) (t : ByteArray) (A0 A1 : Option Addr) (c0 c1 : Nat) (keep torn : List Int)
    (hx : Kd.C (Kd.int .i64) w A0 keep.length keep) (hy : Kd.C (Kd.int .i64) w A1 torn.length torn) :
    Calls Tryd.prog 12 #[.agg #[.int .u8 8, .int .u8 node, .int .i64 n, .string t, .slice A0 keep.length c0, .slice A1 torn.length c1]] w
      (PlainPost w (pgW (decide (1 ≤ node ∧ node ≤ 5)) false false false n t keep torn)) := by
  have HX := Lib.hid hx
  have HY := Lib.hid hy
  clear hx hy
  generalize hk0 : keep.length = k0 at *
  generalize hk1 : torn.length = k1 at *
  have HK0 := Lib.hid hk0
  have HK1 := Lib.hid hk1
  clear hk0 hk1
  have ha := PB.start w (.int .u8 8) (.int .u8 node) (.int .i64 n) (.string t) (.slice A0 k0 c0) (.slice A1 k1 c1)
  have HA := Lib.hid ha
  clear ha
  have e1 : bits .and .i64 1 1 = 1 := by decide
  have e2 : bits .and .i64 1 2 = 0 := by decide
  have e4 : bits .and .i64 1 4 = 0 := by decide
  have e8 : bits .and .i64 1 8 = 0 := by decide
  have e16 : bits .and .i64 1 16 = 0 := by decide
  go_enter Tryd.func12, Tryd.ntmps12
  go_wp2_with fail
  refine (PScriptTotal.script_takes.calls _ 1 _ rfl).mono ?_
  rintro e w1 ⟨rfl, hd⟩
  have HB := Lib.hid (HA.out.drawn hd)
  clear hd
  obtain ⟨f0, f1, f2, f3, f4, f5⟩ := HB.out.bx.cells
  by_cases h1 : ¬ (1 ≤ node)
  · have h1' : node < 1 := by omega
    go_wp2
    go_ret
    exact ⟨by rw [show pgW _ _ _ _ _ _ _ _ = false from by simp only [pgW]; rw [decide_eq_false (by omega)]; simp]; rfl, HB.out.bl⟩
  have h1' : 1 ≤ node := by omega
  by_cases h2 : ¬ (node ≤ 5)
  · have h2' : 5 < node := by omega
    go_wp2
    go_ret
    exact ⟨by rw [show pgW _ _ _ _ _ _ _ _ = false from by simp only [pgW]; rw [decide_eq_false (by omega)]; simp]; rfl, HB.out.bl⟩
  have h2' : node ≤ 5 := by omega
  clear h1 h2
  go_wp2_with fail
  cases hs : decide (0 ≤ n ∧ n ≤ 255)
  · refine (PScriptTotal.script_small.calls n false _ (small_f hs)).mono ?_
    rintro e w2 ⟨rfl, hd⟩
    have HC := Lib.hid (HB.out.drawn hd)
    clear hd f0 f1 f2 f3 f4 f5
    obtain ⟨f0, f1, f2, f3, f4, f5⟩ := HC.out.bx.cells
    go_wp2
    go_ret
    exact ⟨by rw [show pgW _ _ _ _ _ _ _ _ = false from by simp only [pgW]; rw [hs]; simp]; rfl, HC.out.bl⟩
  refine (PScriptTotal.script_small.calls n true _ (small_f hs)).mono ?_
  rintro e w2 ⟨rfl, hd⟩
  have HC := Lib.hid (HB.out.drawn hd)
  clear hd f0 f1 f2 f3 f4 f5
  obtain ⟨f0, f1, f2, f3, f4, f5⟩ := HC.out.bx.cells
  by_cases h3 : ¬ (n = 0)
  · have h3' : (n == 0) = false := by simpa using h3
    go_wp2
    go_ret
    exact ⟨by rw [show pgW _ _ _ _ _ _ _ _ = false from by simp only [pgW]; rw [decide_eq_false h3]; simp]; rfl, HC.out.bl⟩
  have h3' : n = 0 := by omega
  subst h3'
  clear h3
  by_cases h4 : ¬ (t.size ≤ 65535)
  · have h4' : 65535 < t.size := by omega
    go_wp2
    go_ret
    exact ⟨by rw [show pgW _ _ _ _ _ _ _ _ = false from by simp only [pgW]; rw [decide_eq_false h4]; simp]; rfl, HC.out.bl⟩
  have h4' : t.size ≤ 65535 := by omega
  clear h4
  by_cases h5 : ¬ (t = ⟨#[]⟩)
  · have h5' : t.toList.isEmpty = false := bytes_ne h5
    go_wp2
    go_ret
    exact ⟨by rw [show pgW _ _ _ _ _ _ _ _ = false from by simp only [pgW]; rw [decide_eq_false h5]; simp]; rfl, HC.out.bl⟩
  have h5' : t = ⟨#[]⟩ := by simpa using h5
  subst h5'
  clear h5
  have hb2 := HC.out.bl.alloc HC.out.bl.size (.cells #[.slice A0 k0 c0, .slice A1 k1 c1] 24)
  have HD := Lib.hid hb2
  clear hb2
  by_cases h6 : ¬ (k0 = k1)
  · have h6' : (((k0 : Nat) : Int) == ((k1 : Nat) : Int)) = false := by simpa using (by omega : ¬ ((k0 : Int) = (k1 : Int)))
    go_wp2
    go_ret
    exact ⟨by rw [show pgW _ _ _ _ _ _ _ _ = false from by simp only [pgW]; rw [HK0.out, HK1.out, decide_eq_false h6]; simp]; rfl, HD.out⟩
  have h6' : k0 = k1 := by omega
  subst h6'
  by_cases h7 : ¬ (k0 < 8)
  · have h7' : 8 ≤ k0 := by omega
    go_wp2
    go_ret
    exact ⟨by rw [show pgW _ _ _ _ _ _ _ _ = false from by simp only [pgW]; rw [HK0.out, decide_eq_false h7]; simp]; rfl, HD.out⟩
  have h7' : k0 < 8 := by omega
  clear h6 h7
  by_cases h8 : ¬ (k0 = 0)
  · have h8' : 0 < k0 := by omega
    go_wp2
    go_ret
    exact ⟨by rw [show pgW _ _ _ _ _ _ _ _ = false from by simp only [pgW]; rw [HK0.out, decide_eq_false h8]; simp]; rfl, HD.out⟩
  have h8' : k0 = 0 := by omega
  subst h8'
  clear h8
  go_wp2_with fail
  have hbW := below_alloc (below_alloc HC.out.bl (.cells #[.slice A0 0 c0, .slice A1 0 c1] 24)) (.cells #[.slice A0 0 c0, .slice A1 0 c1] 22)
  refine (concat_any (w2.heap.size + 1) A0 A1 c0 c1 keep torn _ (by rw [HK0.out]; exact (cell_two w2 _ _ _).1) (by rw [HK1.out]; exact (cell_two w2 _ _ _).2)
    (by rw [HK0.out]; exact Kd.C_below HX.out hbW) (by rw [HK1.out]; exact Kd.C_below HY.out hbW) (by rw [HK0.out]; omega) (by rw [HK1.out]; omega)).mono ?_
  rintro e w3 ⟨v, rfl, ho, hb⟩
  have HW := Lib.hid (below_then hbW hbW.size hb)
  clear hbW hb
  obtain ⟨A, c, rfl, hl, hC⟩ := Kd.R_reads (Own.R ho (fun _ => True) (fun _ _ => trivial))
  clear ho
  have HZ : Hid (∃ zs, zs = keep ++ torn) := Lib.hid ⟨_, rfl⟩
  generalize hz : keep ++ torn = zs at hl hC ⊢
  have HZ := Lib.hid hz
  have HC3 := Lib.hid hC
  clear hC hz
  go_wp2_with fail
  refine (contains_any A c zs _ HC3.out hl).mono ?_
  rintro e w4 ⟨rfl, rfl⟩
  go_wp2
  go_ret
  refine ⟨?_, HW.out⟩
  rw [show pgW _ _ _ _ _ _ _ _ = zs.all byteOf from by
    simp only [pgW, hs, HK0.out, HK1.out, HZ.out, h1', h2', h4']; simp]
  rfl

set_option maxHeartbeats 4000000 in
set_option maxRecDepth 100000 in
theorem plain_9 (w : World) (node n : Int) (t : ByteArray) (A0 A1 : Option Addr) (c0 c1 : Nat) (keep torn : List Int)
    (hx : Kd.C (Kd.int .i64) w A0 keep.length keep) (hy : Kd.C (Kd.int .i64) w A1 torn.length torn) :
    Calls Tryd.prog 12 #[.agg #[.int .u8 9, .int .u8 node, .int .i64 n, .string t, .slice A0 keep.length c0, .slice A1 torn.length c1]] w
      (PlainPost w (pgW (decide (node < 32)) true false false n t keep torn)) := by
  have HX := Lib.hid hx
  have HY := Lib.hid hy
  clear hx hy
  generalize hk0 : keep.length = k0 at *
  generalize hk1 : torn.length = k1 at *
  have HK0 := Lib.hid hk0
  have HK1 := Lib.hid hk1
  clear hk0 hk1
  have ha := PB.start w (.int .u8 9) (.int .u8 node) (.int .i64 n) (.string t) (.slice A0 k0 c0) (.slice A1 k1 c1)
  have HA := Lib.hid ha
  clear ha
  have e1 : bits .and .i64 6 1 = 0 := by decide
  have e2 : bits .and .i64 6 2 = 2 := by decide
  have e4 : bits .and .i64 6 4 = 4 := by decide
  have e8 : bits .and .i64 6 8 = 0 := by decide
  have e16 : bits .and .i64 6 16 = 0 := by decide
  go_enter Tryd.func12, Tryd.ntmps12
  go_wp2_with fail
  refine (PScriptTotal.script_takes.calls _ 6 _ rfl).mono ?_
  rintro e w1 ⟨rfl, hd⟩
  have HB := Lib.hid (HA.out.drawn hd)
  clear hd
  obtain ⟨f0, f1, f2, f3, f4, f5⟩ := HB.out.bx.cells
  by_cases h2 : ¬ (node < 32)
  · have h2' : 32 ≤ node := by omega
    go_wp2
    go_ret
    exact ⟨by rw [show pgW _ _ _ _ _ _ _ _ = false from by simp only [pgW]; rw [decide_eq_false (by omega)]; simp]; rfl, HB.out.bl⟩
  have h2' : node < 32 := by omega
  clear h2
  go_wp2_with fail
  cases hs : decide (0 ≤ n ∧ n ≤ 255)
  · refine (PScriptTotal.script_small.calls n false _ (small_f hs)).mono ?_
    rintro e w2 ⟨rfl, hd⟩
    have HC := Lib.hid (HB.out.drawn hd)
    clear hd f0 f1 f2 f3 f4 f5
    obtain ⟨f0, f1, f2, f3, f4, f5⟩ := HC.out.bx.cells
    go_wp2
    go_ret
    exact ⟨by rw [show pgW _ _ _ _ _ _ _ _ = false from by simp only [pgW]; rw [hs]; simp]; rfl, HC.out.bl⟩
  refine (PScriptTotal.script_small.calls n true _ (small_f hs)).mono ?_
  rintro e w2 ⟨rfl, hd⟩
  have HC := Lib.hid (HB.out.drawn hd)
  clear hd f0 f1 f2 f3 f4 f5
  obtain ⟨f0, f1, f2, f3, f4, f5⟩ := HC.out.bx.cells
  by_cases h4 : ¬ (t.size ≤ 65535)
  · have h4' : 65535 < t.size := by omega
    go_wp2
    go_ret
    exact ⟨by rw [show pgW _ _ _ _ _ _ _ _ = false from by simp only [pgW]; rw [decide_eq_false h4]; simp]; rfl, HC.out.bl⟩
  have h4' : t.size ≤ 65535 := by omega
  clear h4
  by_cases h5 : ¬ (t = ⟨#[]⟩)
  · have h5' : t.toList.isEmpty = false := bytes_ne h5
    go_wp2
    go_ret
    exact ⟨by rw [show pgW _ _ _ _ _ _ _ _ = false from by simp only [pgW]; rw [decide_eq_false h5]; simp]; rfl, HC.out.bl⟩
  have h5' : t = ⟨#[]⟩ := by simpa using h5
  subst h5'
  clear h5
  have hb2 := HC.out.bl.alloc HC.out.bl.size (.cells #[.slice A0 k0 c0, .slice A1 k1 c1] 24)
  have HD := Lib.hid hb2
  clear hb2
  by_cases h6 : ¬ (k0 = k1)
  · have h6' : (((k0 : Nat) : Int) == ((k1 : Nat) : Int)) = false := by simpa using (by omega : ¬ ((k0 : Int) = (k1 : Int)))
    go_wp2
    go_ret
    exact ⟨by rw [show pgW _ _ _ _ _ _ _ _ = false from by simp only [pgW]; rw [HK0.out, HK1.out, decide_eq_false h6]; simp]; rfl, HD.out⟩
  have h6' : k0 = k1 := by omega
  subst h6'
  by_cases h7 : ¬ (k0 < 8)
  · have h7' : 8 ≤ k0 := by omega
    go_wp2
    go_ret
    exact ⟨by rw [show pgW _ _ _ _ _ _ _ _ = false from by simp only [pgW]; rw [HK0.out, decide_eq_false h7]; simp]; rfl, HD.out⟩
  have h7' : k0 < 8 := by omega
  clear h6 h7
  by_cases h8 : ¬ (k0 = 0)
  · have h8' : 0 < k0 := by omega
    go_wp2
    go_ret
    exact ⟨by rw [show pgW _ _ _ _ _ _ _ _ = false from by simp only [pgW]; rw [HK0.out, decide_eq_false h8]; simp]; rfl, HD.out⟩
  have h8' : k0 = 0 := by omega
  subst h8'
  clear h8
  go_wp2_with fail
  have hbW := below_alloc (below_alloc HC.out.bl (.cells #[.slice A0 0 c0, .slice A1 0 c1] 24)) (.cells #[.slice A0 0 c0, .slice A1 0 c1] 22)
  refine (concat_any (w2.heap.size + 1) A0 A1 c0 c1 keep torn _ (by rw [HK0.out]; exact (cell_two w2 _ _ _).1) (by rw [HK1.out]; exact (cell_two w2 _ _ _).2)
    (by rw [HK0.out]; exact Kd.C_below HX.out hbW) (by rw [HK1.out]; exact Kd.C_below HY.out hbW) (by rw [HK0.out]; omega) (by rw [HK1.out]; omega)).mono ?_
  rintro e w3 ⟨v, rfl, ho, hb⟩
  have HW := Lib.hid (below_then hbW hbW.size hb)
  clear hbW hb
  obtain ⟨A, c, rfl, hl, hC⟩ := Kd.R_reads (Own.R ho (fun _ => True) (fun _ _ => trivial))
  clear ho
  have HZ : Hid (∃ zs, zs = keep ++ torn) := Lib.hid ⟨_, rfl⟩
  generalize hz : keep ++ torn = zs at hl hC ⊢
  have HZ := Lib.hid hz
  have HC3 := Lib.hid hC
  clear hC hz
  go_wp2_with fail
  refine (contains_any A c zs _ HC3.out hl).mono ?_
  rintro e w4 ⟨rfl, rfl⟩
  go_wp2
  go_ret
  refine ⟨?_, HW.out⟩
  rw [show pgW _ _ _ _ _ _ _ _ = zs.all byteOf from by
    simp only [pgW, hs, HK0.out, HK1.out, HZ.out, h2', h4']; simp]
  rfl
end Go.Proofs.YtjipfdabkncnmaaDoor.S

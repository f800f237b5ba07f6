/- script.put, walked kind by kind: it puts the act's bytes behind the others, for a plain act. -/
import Derived.Test.YtjipfdabkncnmaaDoorSn
namespace Go.Proofs.YtjipfdabkncnmaaDoor.S
open Go.RowKit Go.Proofs.YtjipfdabkncnmaaDoorW.PrintWords Go.Proofs.YtjipfdabkncnmaaDoorW.PrintLast Go.Proofs.YtjipfdabkncnmaaDoorW.PrintMore
set_option linter.unusedVariables false
set_option linter.unusedSimpArgs false

/-- what put comes to: the act's bytes stand behind what was there. -/
def PutPost (w0 : World) (b : Nat) (l : List UInt8) (e : Ending) (w' : World) : Prop := (∃ v, e = .returned v) ∧ Lib.IsBuffer 50 5 w0.heap.size b (bv l) w' ∧ Below w0.heap.size w0 w'
theorem PS.start {w0 w : World} {b : Nat} {l : List UInt8} (hb : Lib.IsBuffer 50 5 w0.heap.size b (bv l) w) (hl : Below w0.heap.size w0 w) (c d e f g h : Value) : PS w0 (w.alloc (.cells #[c, d, e, f, g, h] 26)) b w.heap.size l c d e f g h :=
  ⟨by
    obtain ⟨h1, v, lr, h2, h3, h4⟩ := hb
    refine ⟨h1, v, lr, ?_, h3.alloc _, h4⟩
    rw [Below.heap_alloc w _ b (by rcases Nat.lt_or_ge b w.heap.size with h' | h'
                                   · exact h'
                                   · simp [Array.getElem?_eq_none h'] at h2)]
    exact h2, hl.alloc hl.size _, heap_alloc_new w _, by have := hb.lt; omega⟩
theorem PS.drawn {w0 W W' : World} {b gb : Nat} {l : List UInt8} {c d e f g h : Value} (s : PS w0 W b gb l c d e f g h) (hd : Drawn0 W W') : PS w0 W' b gb l c d e f g h := by
  obtain ⟨n, rfl⟩ := hd
  exact ⟨s.bf, pw_below_drewN s.bl n, s.bx, s.ne⟩


theorem PS.alloc {w0 W : World} {b gb : Nat} {l : List UInt8} {c d e f g h : Value} (s : PS w0 W b gb l c d e f g h) (o : Obj) : PS w0 (W.alloc o) b gb l c d e f g h :=
  ⟨by
    obtain ⟨h1, v, lr, h2, h3, h4⟩ := s.bf
    refine ⟨h1, v, lr, ?_, h3.alloc _, h4⟩
    rw [Below.heap_alloc W _ b s.bf.lt]
    exact h2, s.bl.alloc s.bl.size _, by
    have := s.bx
    rw [Below.heap_alloc W _ gb (by rcases Nat.lt_or_ge gb W.heap.size with h' | h'
                                    · exact h'
                                    · simp [Array.getElem?_eq_none h'] at this)]
    exact this, s.ne⟩
theorem two_cells (W : World) (x y : Value) : (W.alloc (.cells #[x, y] 5)).cell? ⟨W.heap.size, 0, none⟩ = some x ∧ (W.alloc (.cells #[x, y] 5)).cell? ⟨W.heap.size, 1, none⟩ = some y := by
  have h := heap_alloc_new W (.cells #[x, y] 5)
  constructor <;> simp only [World.cell?, h] <;> rfl


set_option maxHeartbeats 4000000 in
set_option maxRecDepth 100000 in
theorem put_2 (w0 w : World) (b : Nat) (l : List UInt8) (node n : Int) (t : ByteArray) (u v : Value) (hb : Lib.IsBuffer 50 5 w0.heap.size b (bv l) w) (hl : Below w0.heap.size w0 w) (hlen : l.length ≤ 90000000) (hm0 : 0 ≤ n) (hm1 : n < 256) :
    Calls Tryd.prog 19 #[.pointer (some ⟨b, 0, none⟩), .agg #[.int .u8 2, .int .u8 node, .int .i64 n, .string t, u, v]] w (PutPost w0 b (l ++ [u8 1, u8 n])) := by
  have hs := PS.start hb hl (.int .u8 2) (.int .u8 node) (.int .i64 n) (.string t) u v
  have HA := Lib.hid hs
  clear hs hb hl
  have e1 : bits .and .i64 4 1 = 0 := by decide
  have e2 : bits .and .i64 4 2 = 0 := by decide
  have e4 : bits .and .i64 4 4 = 4 := by decide
  have e8 : bits .and .i64 4 8 = 0 := by decide
  have e16 : bits .and .i64 4 16 = 0 := by decide
  go_enter Tryd.func19, Tryd.ntmps19
  go_wp2_with fail
  refine (PScriptTotal.script_takes.calls _ 4 _ rfl).mono ?_
  rintro e w1 ⟨rfl, hd⟩
  have H0 := Lib.hid (HA.out.drawn hd)
  clear hd
  obtain ⟨f0, f1, f2, f3, f4, f5⟩ := H0.out.cells
  go_wp2_with fail
  refine (put_byte H0.out (1) (by omega) (by omega) (by first | omega | (simp; omega))).mono ?_
  rintro e w' ⟨rfl, s2⟩
  have H1 := Lib.hid s2
  clear s2 f0 f1 f2 f3 f4 f5
  obtain ⟨f0, f1, f2, f3, f4, f5⟩ := H1.out.cells
  go_wp2_with fail
  refine (put_byte H1.out (n) (by omega) (by omega) (by first | omega | (simp; omega))).mono ?_
  rintro e w' ⟨rfl, s2⟩
  have H2 := Lib.hid s2
  clear s2 f0 f1 f2 f3 f4 f5
  obtain ⟨f0, f1, f2, f3, f4, f5⟩ := H2.out.cells
  go_wp2
  refine bodyPost_ret (v := .tuple #[]) (by simp [results, Tryd.f19]) rfl ?_
  exact ⟨⟨_, rfl⟩, by simpa using H2.out.bf, H2.out.bl⟩

set_option maxHeartbeats 4000000 in
set_option maxRecDepth 100000 in
theorem put_3 (w0 w : World) (b : Nat) (l : List UInt8) (node n : Int) (t : ByteArray) (u v : Value) (hb : Lib.IsBuffer 50 5 w0.heap.size b (bv l) w) (hl : Below w0.heap.size w0 w) (hlen : l.length ≤ 90000000) (hm0 : 0 ≤ n) (hm1 : n < 256) :
    Calls Tryd.prog 19 #[.pointer (some ⟨b, 0, none⟩), .agg #[.int .u8 3, .int .u8 node, .int .i64 n, .string t, u, v]] w (PutPost w0 b (l ++ [u8 2, u8 n])) := by
  have hs := PS.start hb hl (.int .u8 3) (.int .u8 node) (.int .i64 n) (.string t) u v
  have HA := Lib.hid hs
  clear hs hb hl
  have e1 : bits .and .i64 4 1 = 0 := by decide
  have e2 : bits .and .i64 4 2 = 0 := by decide
  have e4 : bits .and .i64 4 4 = 4 := by decide
  have e8 : bits .and .i64 4 8 = 0 := by decide
  have e16 : bits .and .i64 4 16 = 0 := by decide
  go_enter Tryd.func19, Tryd.ntmps19
  go_wp2_with fail
  refine (PScriptTotal.script_takes.calls _ 4 _ rfl).mono ?_
  rintro e w1 ⟨rfl, hd⟩
  have H0 := Lib.hid (HA.out.drawn hd)
  clear hd
  obtain ⟨f0, f1, f2, f3, f4, f5⟩ := H0.out.cells
  go_wp2_with fail
  refine (put_byte H0.out (2) (by omega) (by omega) (by first | omega | (simp; omega))).mono ?_
  rintro e w' ⟨rfl, s2⟩
  have H1 := Lib.hid s2
  clear s2 f0 f1 f2 f3 f4 f5
  obtain ⟨f0, f1, f2, f3, f4, f5⟩ := H1.out.cells
  go_wp2_with fail
  refine (put_byte H1.out (n) (by omega) (by omega) (by first | omega | (simp; omega))).mono ?_
  rintro e w' ⟨rfl, s2⟩
  have H2 := Lib.hid s2
  clear s2 f0 f1 f2 f3 f4 f5
  obtain ⟨f0, f1, f2, f3, f4, f5⟩ := H2.out.cells
  go_wp2
  refine bodyPost_ret (v := .tuple #[]) (by simp [results, Tryd.f19]) rfl ?_
  exact ⟨⟨_, rfl⟩, by simpa using H2.out.bf, H2.out.bl⟩

set_option maxHeartbeats 4000000 in
set_option maxRecDepth 100000 in
theorem put_4 (w0 w : World) (b : Nat) (l : List UInt8) (node n : Int) (t : ByteArray) (u v : Value) (hb : Lib.IsBuffer 50 5 w0.heap.size b (bv l) w) (hl : Below w0.heap.size w0 w) (hlen : l.length ≤ 90000000) (hm0 : 0 ≤ n) (hm1 : n < 256) :
    Calls Tryd.prog 19 #[.pointer (some ⟨b, 0, none⟩), .agg #[.int .u8 4, .int .u8 node, .int .i64 n, .string t, u, v]] w (PutPost w0 b (l ++ [u8 3, u8 n])) := by
  have hs := PS.start hb hl (.int .u8 4) (.int .u8 node) (.int .i64 n) (.string t) u v
  have HA := Lib.hid hs
  clear hs hb hl
  have e1 : bits .and .i64 4 1 = 0 := by decide
  have e2 : bits .and .i64 4 2 = 0 := by decide
  have e4 : bits .and .i64 4 4 = 4 := by decide
  have e8 : bits .and .i64 4 8 = 0 := by decide
  have e16 : bits .and .i64 4 16 = 0 := by decide
  go_enter Tryd.func19, Tryd.ntmps19
  go_wp2_with fail
  refine (PScriptTotal.script_takes.calls _ 4 _ rfl).mono ?_
  rintro e w1 ⟨rfl, hd⟩
  have H0 := Lib.hid (HA.out.drawn hd)
  clear hd
  obtain ⟨f0, f1, f2, f3, f4, f5⟩ := H0.out.cells
  go_wp2_with fail
  refine (put_byte H0.out (3) (by omega) (by omega) (by first | omega | (simp; omega))).mono ?_
  rintro e w' ⟨rfl, s2⟩
  have H1 := Lib.hid s2
  clear s2 f0 f1 f2 f3 f4 f5
  obtain ⟨f0, f1, f2, f3, f4, f5⟩ := H1.out.cells
  go_wp2_with fail
  refine (put_byte H1.out (n) (by omega) (by omega) (by first | omega | (simp; omega))).mono ?_
  rintro e w' ⟨rfl, s2⟩
  have H2 := Lib.hid s2
  clear s2 f0 f1 f2 f3 f4 f5
  obtain ⟨f0, f1, f2, f3, f4, f5⟩ := H2.out.cells
  go_wp2
  refine bodyPost_ret (v := .tuple #[]) (by simp [results, Tryd.f19]) rfl ?_
  exact ⟨⟨_, rfl⟩, by simpa using H2.out.bf, H2.out.bl⟩

set_option maxHeartbeats 4000000 in
set_option maxRecDepth 100000 in
theorem put_5 (w0 w : World) (b : Nat) (l : List UInt8) (node n : Int) (t : ByteArray) (u v : Value) (hb : Lib.IsBuffer 50 5 w0.heap.size b (bv l) w) (hl : Below w0.heap.size w0 w) (hlen : l.length ≤ 90000000) (hn1 : 1 ≤ node) (hn5 : node ≤ 5) (hm0 : 0 ≤ n) (hm1 : n < 256) :
    Calls Tryd.prog 19 #[.pointer (some ⟨b, 0, none⟩), .agg #[.int .u8 5, .int .u8 node, .int .i64 n, .string t, u, v]] w (PutPost w0 b (l ++ [u8 4, u8 (node - 1), u8 n])) := by
  have hs := PS.start hb hl (.int .u8 5) (.int .u8 node) (.int .i64 n) (.string t) u v
  have HA := Lib.hid hs
  clear hs hb hl
  have e1 : bits .and .i64 5 1 = 1 := by decide
  have e2 : bits .and .i64 5 2 = 0 := by decide
  have e4 : bits .and .i64 5 4 = 4 := by decide
  have e8 : bits .and .i64 5 8 = 0 := by decide
  have e16 : bits .and .i64 5 16 = 0 := by decide
  go_enter Tryd.func19, Tryd.ntmps19
  go_wp2_with fail
  refine (PScriptTotal.script_takes.calls _ 5 _ rfl).mono ?_
  rintro e w1 ⟨rfl, hd⟩
  have H0 := Lib.hid (HA.out.drawn hd)
  clear hd
  obtain ⟨f0, f1, f2, f3, f4, f5⟩ := H0.out.cells
  go_wp2_with fail
  refine (put_byte H0.out (4) (by omega) (by omega) (by first | omega | (simp; omega))).mono ?_
  rintro e w' ⟨rfl, s2⟩
  have H1 := Lib.hid s2
  clear s2 f0 f1 f2 f3 f4 f5
  obtain ⟨f0, f1, f2, f3, f4, f5⟩ := H1.out.cells
  go_wp2_with fail
  refine (put_byte H1.out (node - 1) (by omega) (by omega) (by first | omega | (simp; omega))).mono ?_
  rintro e w' ⟨rfl, s2⟩
  have H2 := Lib.hid s2
  clear s2 f0 f1 f2 f3 f4 f5
  obtain ⟨f0, f1, f2, f3, f4, f5⟩ := H2.out.cells
  go_wp2_with fail
  refine (put_byte H2.out (n) (by omega) (by omega) (by first | omega | (simp; omega))).mono ?_
  rintro e w' ⟨rfl, s2⟩
  have H3 := Lib.hid s2
  clear s2 f0 f1 f2 f3 f4 f5
  obtain ⟨f0, f1, f2, f3, f4, f5⟩ := H3.out.cells
  go_wp2
  refine bodyPost_ret (v := .tuple #[]) (by simp [results, Tryd.f19]) rfl ?_
  exact ⟨⟨_, rfl⟩, by simpa using H3.out.bf, H3.out.bl⟩

set_option maxHeartbeats 4000000 in
set_option maxRecDepth 100000 in
theorem put_8 (w0 w : World) (b : Nat) (l : List UInt8) (node n : Int) (t : ByteArray) (u v : Value) (hb : Lib.IsBuffer 50 5 w0.heap.size b (bv l) w) (hl : Below w0.heap.size w0 w) (hlen : l.length ≤ 90000000) (hn1 : 1 ≤ node) (hn5 : node ≤ 5) :
    Calls Tryd.prog 19 #[.pointer (some ⟨b, 0, none⟩), .agg #[.int .u8 8, .int .u8 node, .int .i64 n, .string t, u, v]] w (PutPost w0 b (l ++ [u8 7, u8 (node - 1)])) := by
  have hs := PS.start hb hl (.int .u8 8) (.int .u8 node) (.int .i64 n) (.string t) u v
  have HA := Lib.hid hs
  clear hs hb hl
  have e1 : bits .and .i64 1 1 = 1 := by decide
  have e2 : bits .and .i64 1 2 = 0 := by decide
  have e4 : bits .and .i64 1 4 = 0 := by decide
  have e8 : bits .and .i64 1 8 = 0 := by decide
  have e16 : bits .and .i64 1 16 = 0 := by decide
  go_enter Tryd.func19, Tryd.ntmps19
  go_wp2_with fail
  refine (PScriptTotal.script_takes.calls _ 1 _ rfl).mono ?_
  rintro e w1 ⟨rfl, hd⟩
  have H0 := Lib.hid (HA.out.drawn hd)
  clear hd
  obtain ⟨f0, f1, f2, f3, f4, f5⟩ := H0.out.cells
  go_wp2_with fail
  refine (put_byte H0.out (7) (by omega) (by omega) (by first | omega | (simp; omega))).mono ?_
  rintro e w' ⟨rfl, s2⟩
  have H1 := Lib.hid s2
  clear s2 f0 f1 f2 f3 f4 f5
  obtain ⟨f0, f1, f2, f3, f4, f5⟩ := H1.out.cells
  go_wp2_with fail
  refine (put_byte H1.out (node - 1) (by omega) (by omega) (by first | omega | (simp; omega))).mono ?_
  rintro e w' ⟨rfl, s2⟩
  have H2 := Lib.hid s2
  clear s2 f0 f1 f2 f3 f4 f5
  obtain ⟨f0, f1, f2, f3, f4, f5⟩ := H2.out.cells
  go_wp2
  refine bodyPost_ret (v := .tuple #[]) (by simp [results, Tryd.f19]) rfl ?_
  exact ⟨⟨_, rfl⟩, by simpa using H2.out.bf, H2.out.bl⟩

set_option maxHeartbeats 4000000 in
set_option maxRecDepth 100000 in
theorem put_9 (w0 w : World) (b : Nat) (l : List UInt8) (node n : Int) (t : ByteArray) (u v : Value) (hb : Lib.IsBuffer 50 5 w0.heap.size b (bv l) w) (hl : Below w0.heap.size w0 w) (hlen : l.length ≤ 90000000) (hn1 : 0 ≤ node) (hn5 : node < 32) (hm0 : 0 ≤ n) (hm1 : n < 256) :
    Calls Tryd.prog 19 #[.pointer (some ⟨b, 0, none⟩), .agg #[.int .u8 9, .int .u8 node, .int .i64 n, .string t, u, v]] w (PutPost w0 b (l ++ [u8 8, u8 node, u8 n])) := by
  have hs := PS.start hb hl (.int .u8 9) (.int .u8 node) (.int .i64 n) (.string t) u v
  have HA := Lib.hid hs
  clear hs hb hl
  have e1 : bits .and .i64 6 1 = 0 := by decide
  have e2 : bits .and .i64 6 2 = 2 := by decide
  have e4 : bits .and .i64 6 4 = 4 := by decide
  have e8 : bits .and .i64 6 8 = 0 := by decide
  have e16 : bits .and .i64 6 16 = 0 := by decide
  go_enter Tryd.func19, Tryd.ntmps19
  go_wp2_with fail
  refine (PScriptTotal.script_takes.calls _ 6 _ rfl).mono ?_
  rintro e w1 ⟨rfl, hd⟩
  have H0 := Lib.hid (HA.out.drawn hd)
  clear hd
  obtain ⟨f0, f1, f2, f3, f4, f5⟩ := H0.out.cells
  go_wp2_with fail
  refine (put_byte H0.out (8) (by omega) (by omega) (by first | omega | (simp; omega))).mono ?_
  rintro e w' ⟨rfl, s2⟩
  have H1 := Lib.hid s2
  clear s2 f0 f1 f2 f3 f4 f5
  obtain ⟨f0, f1, f2, f3, f4, f5⟩ := H1.out.cells
  go_wp2_with fail
  refine (put_byte H1.out (node) (by omega) (by omega) (by first | omega | (simp; omega))).mono ?_
  rintro e w' ⟨rfl, s2⟩
  have H2 := Lib.hid s2
  clear s2 f0 f1 f2 f3 f4 f5
  obtain ⟨f0, f1, f2, f3, f4, f5⟩ := H2.out.cells
  go_wp2_with fail
  refine (put_byte H2.out (n) (by omega) (by omega) (by first | omega | (simp; omega))).mono ?_
  rintro e w' ⟨rfl, s2⟩
  have H3 := Lib.hid s2
  clear s2 f0 f1 f2 f3 f4 f5
  obtain ⟨f0, f1, f2, f3, f4, f5⟩ := H3.out.cells
  go_wp2
  refine bodyPost_ret (v := .tuple #[]) (by simp [results, Tryd.f19]) rfl ?_
  exact ⟨⟨_, rfl⟩, by simpa using H3.out.bf, H3.out.bl⟩

set_option maxHeartbeats 4000000 in
set_option maxRecDepth 100000 in
theorem put_1 (w0 w : World) (b : Nat) (l : List UInt8) (node n : Int) (t : List UInt8) (u v : Value) (hb : Lib.IsBuffer 50 5 w0.heap.size b (bv l) w) (hl : Below w0.heap.size w0 w) (hlen : l.length ≤ 90000000) (hn1 : 1 ≤ node) (hn5 : node ≤ 5) (ht : t.length < 65536) :
    Calls Tryd.prog 19 #[.pointer (some ⟨b, 0, none⟩), .agg #[.int .u8 1, .int .u8 node, .int .i64 n, .string ⟨t.toArray⟩, u, v]] w (PutPost w0 b (l ++ [u8 0, u8 (node - 1), u8 (t.length / 256 : Nat), u8 (t.length % 256 : Nat)] ++ t)) := by
  have hs := PS.start hb hl (.int .u8 1) (.int .u8 node) (.int .i64 n) (.string ⟨t.toArray⟩) u v
  have HA := Lib.hid hs
  clear hs hb hl
  have e1 : bits .and .i64 9 1 = 1 := by decide
  have e2 : bits .and .i64 9 2 = 0 := by decide
  have e4 : bits .and .i64 9 4 = 0 := by decide
  have e8 : bits .and .i64 9 8 = 8 := by decide
  have e16 : bits .and .i64 9 16 = 0 := by decide
  go_enter Tryd.func19, Tryd.ntmps19
  go_wp2_with fail
  refine (PScriptTotal.script_takes.calls _ 9 _ rfl).mono ?_
  rintro e w1 ⟨rfl, hd⟩
  have H0 := Lib.hid (HA.out.drawn hd)
  clear hd
  obtain ⟨f0, f1, f2, f3, f4, f5⟩ := H0.out.cells
  go_wp2_with fail
  refine (put_byte H0.out (0) (by omega) (by omega) (by first | omega | (simp; omega))).mono ?_
  rintro e w' ⟨rfl, s2⟩
  have H1 := Lib.hid s2
  clear s2 f0 f1 f2 f3 f4 f5
  obtain ⟨f0, f1, f2, f3, f4, f5⟩ := H1.out.cells
  go_wp2_with fail
  refine (put_byte H1.out (node - 1) (by omega) (by omega) (by first | omega | (simp; omega))).mono ?_
  rintro e w' ⟨rfl, s2⟩
  have H2 := Lib.hid s2
  clear s2 f0 f1 f2 f3 f4 f5
  obtain ⟨f0, f1, f2, f3, f4, f5⟩ := H2.out.cells
  go_wp2_with fail
  refine (put_two (H2.out.alloc _) (t.length / 256 : Nat) (t.length % 256 : Nat) (by omega) (by omega) (by omega) (by omega) (by first | omega | (simp; omega)) w'.heap.size 2 (by have := H2.out.bf.lt; omega) (two_cells _ _ _).1 (two_cells _ _ _).2).mono ?_
  rintro e w2 ⟨⟨v2, rfl⟩, s2⟩
  have H8 := Lib.hid s2
  clear s2 f0 f1 f2 f3 f4 f5
  obtain ⟨f0, f1, f2, f3, f4, f5⟩ := H8.out.cells
  go_wp2_with fail
  refine (put_text H8.out t ht (by first | omega | (simp; omega))).mono ?_
  rintro e w3 ⟨⟨v3, rfl⟩, s3⟩
  have H9 := Lib.hid s3
  clear s3 f0 f1 f2 f3 f4 f5
  go_wp2
  refine bodyPost_ret (v := .tuple #[]) (by simp [results, Tryd.f19]) rfl ?_
  exact ⟨⟨_, rfl⟩, by simpa using H9.out.bf, H9.out.bl⟩

theorem cell_of_C {w W : World} {A : Option Addr} {n : Nat} {xs : List Int} (h : Kd.C (Kd.int .i64) w A n xs) (hn : xs.length = n) (hb : Below w.heap.size w W) (k : Nat) (hk : k < n) : ∃ ad, A = some ad ∧ W.cell? (ad.add k) = some (.int .i64 (xs.getD k 0)) := by
  subst hn
  obtain ⟨ad, hA, hcell⟩ := (Kd.C_below h hb).2.2 (by omega)
  obtain ⟨cs, h1, h2, h3⟩ := hcell k (xs.getD k 0) (by simp [List.getD_eq_getElem?_getD, List.getElem?_eq_getElem hk])
  have hcs : cs = [.int .i64 (xs.getD k 0)] := h2
  refine ⟨ad, hA, ?_⟩
  have := h3 0 (.int .i64 (xs.getD k 0)) (by rw [hcs]; rfl)
  simpa [Kd.int, Kd.scalar] using this
theorem pairs_succ (xs ys : List Int) (k : Nat) (hx : k < xs.length) (hy : k < ys.length) : pairs (xs.take (k + 1)) (ys.take (k + 1)) = pairs (xs.take k) (ys.take k) ++ [u8 (xs.getD k 0), u8 (ys.getD k 0)] := by
  induction k generalizing xs ys with
  | zero =>
    cases xs with
    | nil => simp at hx
    | cons a r => cases ys with
      | nil => simp at hy
      | cons b q => simp [pairs]
  | succ k ih =>
    cases xs with
    | nil => simp at hx
    | cons a r => cases ys with
      | nil => simp at hy
      | cons b q =>
        have := ih r q (by simpa using hx) (by simpa using hy)
        simp [pairs] at this ⊢
        exact this
theorem all_get {xs : List Int} (h : xs.all byteOf = true) (k : Nat) (hk : k < xs.length) : 0 ≤ xs.getD k 0 ∧ xs.getD k 0 < 256 := by
  rw [List.all_eq_true] at h
  have := h (xs.getD k 0) (by rw [List.getD_eq_getElem?_getD, List.getElem?_eq_getElem hk]; simp)
  simpa [byteOf] using this
theorem pairs_len (xs ys : List Int) : (pairs xs ys).length ≤ 2 * xs.length := by
  induction xs generalizing ys with
  | nil => simp [pairs]
  | cons a r ih => cases ys with
    | nil => simp [pairs]
    | cons b q => have := ih q; simp [pairs]; omega
def PutRel (w0 : World) (b gb : Nat) (l : List UInt8) (c d e f g h : Value) (keep torn : List Int) (m : Nat) (i : Value) (wr : World) : Prop :=
  ∃ k : Nat, k ≤ m ∧ i = .int .i64 k ∧ PS w0 wr b gb (l ++ pairs (keep.take k) (torn.take k)) c d e f g h


set_option maxHeartbeats 4000000 in
set_option maxRecDepth 100000 in
theorem put_7 (w0 w : World) (b : Nat) (l : List UInt8) (node n : Int) (t : ByteArray) (A0 A1 : Option Addr) (c0 c1 : Nat) (keep torn : List Int) (hb : Lib.IsBuffer 50 5 w0.heap.size b (bv l) w) (hl : Below w0.heap.size w0 w) (hlen : l.length ≤ 90000000) (hn1 : 1 ≤ node) (hn5 : node ≤ 5)
    (hx : Kd.C (Kd.int .i64) w0 A0 keep.length keep) (hy : Kd.C (Kd.int .i64) w0 A1 torn.length torn) (h8 : keep.length < 8) (heq : keep.length = torn.length) (hbx : keep.all byteOf = true) (hby : torn.all byteOf = true) :
    Calls Tryd.prog 19 #[.pointer (some ⟨b, 0, none⟩), .agg #[.int .u8 7, .int .u8 node, .int .i64 n, .string t, .slice A0 keep.length c0, .slice A1 torn.length c1]] w (PutPost w0 b (l ++ [u8 6, u8 (node - 1)] ++ [u8 keep.length] ++ pairs keep torn)) := by
  obtain ⟨m0, hm0⟩ : ∃ m0, keep.length = m0 := ⟨_, rfl⟩
  have hm1 : torn.length = m0 := by omega
  rw [hm0] at hx h8 ⊢
  rw [hm1] at hy ⊢
  have HX := Lib.hid hx
  have HY := Lib.hid hy
  have HBX := Lib.hid hbx
  have HBY := Lib.hid hby
  have HK0 := Lib.hid hm0
  have HK1 := Lib.hid hm1
  clear hx hy hbx hby heq hm0 hm1
  have hs := PS.start hb hl (.int .u8 7) (.int .u8 node) (.int .i64 n) (.string t) (.slice A0 m0 c0) (.slice A1 m0 c1)
  have HA := Lib.hid hs
  clear hs hb hl
  have e1 : bits .and .i64 17 1 = 1 := by decide
  have e2 : bits .and .i64 17 2 = 0 := by decide
  have e4 : bits .and .i64 17 4 = 0 := by decide
  have e8 : bits .and .i64 17 8 = 0 := by decide
  have e16 : bits .and .i64 17 16 = 16 := by decide
  go_enter Tryd.func19, Tryd.ntmps19
  go_wp2_with fail
  refine (PScriptTotal.script_takes.calls _ 17 _ rfl).mono ?_
  rintro e w1 ⟨rfl, hd⟩
  have H0 := Lib.hid (HA.out.drawn hd)
  clear hd
  obtain ⟨f0, f1, f2, f3, f4, f5⟩ := H0.out.cells
  go_wp2_with fail
  refine (put_byte H0.out (6) (by omega) (by omega) (by first | omega | (simp; omega))).mono ?_
  rintro e w' ⟨rfl, s2⟩
  have H1 := Lib.hid s2
  clear s2 f0 f1 f2 f3 f4 f5
  obtain ⟨f0, f1, f2, f3, f4, f5⟩ := H1.out.cells
  go_wp2_with fail
  refine (put_byte H1.out (node - 1) (by omega) (by omega) (by first | omega | (simp; omega))).mono ?_
  rintro e w' ⟨rfl, s2⟩
  have H2 := Lib.hid s2
  clear s2 f0 f1 f2 f3 f4 f5
  obtain ⟨f0, f1, f2, f3, f4, f5⟩ := H2.out.cells
  go_wp2_with fail
  refine (put_byte H2.out ((m0 : Nat)) (by omega) (by omega) (by first | omega | (simp; omega))).mono ?_
  rintro e w' ⟨rfl, s2⟩
  have H3 := Lib.hid s2
  clear s2 f0 f1 f2 f3 f4 f5
  obtain ⟨f0, f1, f2, f3, f4, f5⟩ := H3.out.cells
  go_wp2
  go_loopw [5, 6, 71] (fun _ _ i wr => PutRel w0 b w.heap.size (l ++ [u8 6, u8 (node - 1)] ++ [u8 m0]) (.int .u8 7) (.int .u8 node) (.int .i64 n) (.string t) (.slice A0 m0 c0) (.slice A1 m0 c1) keep torn m0 i wr) (fun _ _ i _ => m0 - (intOf i).toNat)
  case atStart => exact ⟨0, Nat.zero_le _, rfl, by simpa [pairs] using H3.out⟩
  case round =>
    obtain ⟨k, hk, rfl, hp⟩ := hrel
    have HP := Lib.hid hp
    clear hp
    obtain ⟨f0, f1, f2, f3, f4, f5⟩ := HP.out.cells
    by_cases hlt : k < m0
    · obtain ⟨ax, hAx, hcx⟩ := cell_of_C HX.out HK0.out HP.out.bl k hlt
      obtain ⟨ay, hAy, hcy⟩ := cell_of_C HY.out HK1.out HP.out.bl k hlt
      obtain ⟨bx0, bx1⟩ := all_get HBX.out k (by rw [HK0.out]; exact hlt)
      obtain ⟨by0, by1⟩ := all_get HBY.out k (by rw [HK1.out]; exact hlt)
      have hps := Lib.hid (pairs_succ keep torn k (by rw [HK0.out]; exact hlt) (by rw [HK1.out]; exact hlt))
      have hpl := pairs_len (keep.take k) (torn.take k)
      rw [List.length_take, HK0.out] at hpl
      subst hAx hAy
      generalize keep.getD k 0 = x at *
      generalize torn.getD k 0 = y at *
      generalize hpp : pairs (keep.take k) (torn.take k) = pp at *
      have HPP := Lib.hid hpp
      clear hpp
      go_wp2_with fail
      refine (put_two (HP.out.alloc _) x y (by omega) (by omega) (by omega) (by omega) (by first | omega | (simp; omega)) wr.heap.size 2 (by have := HP.out.bf.lt; omega) (two_cells _ _ _).1 (two_cells _ _ _).2).mono ?_
      rintro e w2 ⟨⟨v2, rfl⟩, s2⟩
      have HQ := Lib.hid s2
      clear s2 f0 f1 f2 f3 f4 f5
      go_wp2
      go_roundw
      case rel => exact ⟨k + 1, by omega, by go_num, by rw [hps.out, ← List.append_assoc]; exact HQ.out⟩
      case measure => simp [intOf]; omega
    · have hkm : k = m0 := by omega
      subst hkm
      go_wp2
      refine bodyPost_ret (v := .tuple #[]) (by simp [results, Tryd.f19]) rfl ?_
      have hq := HP.out
      rw [← HK0.out, List.take_length, HK0.out, ← HK1.out, List.take_length, HK1.out] at hq
      exact ⟨⟨_, rfl⟩, by simpa using hq.bf, hq.bl⟩

set_option maxHeartbeats 4000000 in
set_option maxRecDepth 100000 in
theorem put_6 (w0 w : World) (b : Nat) (l : List UInt8) (node n : Int) (t : ByteArray) (A0 A1 : Option Addr) (c0 c1 : Nat) (keep torn : List Int) (hb : Lib.IsBuffer 50 5 w0.heap.size b (bv l) w) (hl : Below w0.heap.size w0 w) (hlen : l.length ≤ 90000000) (hn1 : 1 ≤ node) (hn5 : node ≤ 5) (hm0 : 0 ≤ n) (hm1 : n < 256)
    (hx : Kd.C (Kd.int .i64) w0 A0 keep.length keep) (hy : Kd.C (Kd.int .i64) w0 A1 torn.length torn) (h8 : keep.length < 8) (heq : keep.length = torn.length) (hbx : keep.all byteOf = true) (hby : torn.all byteOf = true) :
    Calls Tryd.prog 19 #[.pointer (some ⟨b, 0, none⟩), .agg #[.int .u8 6, .int .u8 node, .int .i64 n, .string t, .slice A0 keep.length c0, .slice A1 torn.length c1]] w (PutPost w0 b (l ++ [u8 5, u8 (node - 1), u8 n] ++ [u8 keep.length] ++ pairs keep torn)) := by
  obtain ⟨m0, hm0⟩ : ∃ m0, keep.length = m0 := ⟨_, rfl⟩
  have hm1 : torn.length = m0 := by omega
  rw [hm0] at hx h8 ⊢
  rw [hm1] at hy ⊢
  have HX := Lib.hid hx
  have HY := Lib.hid hy
  have HBX := Lib.hid hbx
  have HBY := Lib.hid hby
  have HK0 := Lib.hid hm0
  have HK1 := Lib.hid hm1
  clear hx hy hbx hby heq hm0 hm1
  have hs := PS.start hb hl (.int .u8 6) (.int .u8 node) (.int .i64 n) (.string t) (.slice A0 m0 c0) (.slice A1 m0 c1)
  have HA := Lib.hid hs
  clear hs hb hl
  have e1 : bits .and .i64 21 1 = 1 := by decide
  have e2 : bits .and .i64 21 2 = 0 := by decide
  have e4 : bits .and .i64 21 4 = 4 := by decide
  have e8 : bits .and .i64 21 8 = 0 := by decide
  have e16 : bits .and .i64 21 16 = 16 := by decide
  go_enter Tryd.func19, Tryd.ntmps19
  go_wp2_with fail
  refine (PScriptTotal.script_takes.calls _ 21 _ rfl).mono ?_
  rintro e w1 ⟨rfl, hd⟩
  have H0 := Lib.hid (HA.out.drawn hd)
  clear hd
  obtain ⟨f0, f1, f2, f3, f4, f5⟩ := H0.out.cells
  go_wp2_with fail
  refine (put_byte H0.out (5) (by omega) (by omega) (by first | omega | (simp; omega))).mono ?_
  rintro e w' ⟨rfl, s2⟩
  have H1 := Lib.hid s2
  clear s2 f0 f1 f2 f3 f4 f5
  obtain ⟨f0, f1, f2, f3, f4, f5⟩ := H1.out.cells
  go_wp2_with fail
  refine (put_byte H1.out (node - 1) (by omega) (by omega) (by first | omega | (simp; omega))).mono ?_
  rintro e w' ⟨rfl, s2⟩
  have H2 := Lib.hid s2
  clear s2 f0 f1 f2 f3 f4 f5
  obtain ⟨f0, f1, f2, f3, f4, f5⟩ := H2.out.cells
  go_wp2_with fail
  refine (put_byte H2.out (n) (by omega) (by omega) (by first | omega | (simp; omega))).mono ?_
  rintro e w' ⟨rfl, s2⟩
  have H3 := Lib.hid s2
  clear s2 f0 f1 f2 f3 f4 f5
  obtain ⟨f0, f1, f2, f3, f4, f5⟩ := H3.out.cells
  go_wp2_with fail
  refine (put_byte H3.out ((m0 : Nat)) (by omega) (by omega) (by first | omega | (simp; omega))).mono ?_
  rintro e w' ⟨rfl, s2⟩
  have H4 := Lib.hid s2
  clear s2 f0 f1 f2 f3 f4 f5
  obtain ⟨f0, f1, f2, f3, f4, f5⟩ := H4.out.cells
  go_wp2
  go_loopw [5, 6, 71] (fun _ _ i wr => PutRel w0 b w.heap.size (l ++ [u8 5, u8 (node - 1), u8 n] ++ [u8 m0]) (.int .u8 6) (.int .u8 node) (.int .i64 n) (.string t) (.slice A0 m0 c0) (.slice A1 m0 c1) keep torn m0 i wr) (fun _ _ i _ => m0 - (intOf i).toNat)
  case atStart => exact ⟨0, Nat.zero_le _, rfl, by simpa [pairs] using H4.out⟩
  case round =>
    obtain ⟨k, hk, rfl, hp⟩ := hrel
    have HP := Lib.hid hp
    clear hp
    obtain ⟨f0, f1, f2, f3, f4, f5⟩ := HP.out.cells
    by_cases hlt : k < m0
    · obtain ⟨ax, hAx, hcx⟩ := cell_of_C HX.out HK0.out HP.out.bl k hlt
      obtain ⟨ay, hAy, hcy⟩ := cell_of_C HY.out HK1.out HP.out.bl k hlt
      obtain ⟨bx0, bx1⟩ := all_get HBX.out k (by rw [HK0.out]; exact hlt)
      obtain ⟨by0, by1⟩ := all_get HBY.out k (by rw [HK1.out]; exact hlt)
      have hps := Lib.hid (pairs_succ keep torn k (by rw [HK0.out]; exact hlt) (by rw [HK1.out]; exact hlt))
      have hpl := pairs_len (keep.take k) (torn.take k)
      rw [List.length_take, HK0.out] at hpl
      subst hAx hAy
      generalize keep.getD k 0 = x at *
      generalize torn.getD k 0 = y at *
      generalize hpp : pairs (keep.take k) (torn.take k) = pp at *
      have HPP := Lib.hid hpp
      clear hpp
      go_wp2_with fail
      refine (put_two (HP.out.alloc _) x y (by omega) (by omega) (by omega) (by omega) (by first | omega | (simp; omega)) wr.heap.size 2 (by have := HP.out.bf.lt; omega) (two_cells _ _ _).1 (two_cells _ _ _).2).mono ?_
      rintro e w2 ⟨⟨v2, rfl⟩, s2⟩
      have HQ := Lib.hid s2
      clear s2 f0 f1 f2 f3 f4 f5
      go_wp2
      go_roundw
      case rel => exact ⟨k + 1, by omega, by go_num, by rw [hps.out, ← List.append_assoc]; exact HQ.out⟩
      case measure => simp [intOf]; omega
    · have hkm : k = m0 := by omega
      subst hkm
      go_wp2
      refine bodyPost_ret (v := .tuple #[]) (by simp [results, Tryd.f19]) rfl ?_
      have hq := HP.out
      rw [← HK0.out, List.take_length, HK0.out, ← HK1.out, List.take_length, HK1.out] at hq
      exact ⟨⟨_, rfl⟩, by simpa using hq.bf, hq.bl⟩
end Go.Proofs.YtjipfdabkncnmaaDoor.S

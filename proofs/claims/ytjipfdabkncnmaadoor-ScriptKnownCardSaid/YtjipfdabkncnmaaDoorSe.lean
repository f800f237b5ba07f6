/- The reader's act, walked kind by kind: the act it hands back is the plain model's, for any bytes that a row holds. -/
import Derived.Test.YtjipfdabkncnmaaDoorSb2
namespace Go.Proofs.YtjipfdabkncnmaaDoor.S
open Go.RowKit Go.Proofs.YtjipfdabkncnmaaDoorW.PrintWords Go.Proofs.YtjipfdabkncnmaaDoorW.PrintLast Go.Proofs.YtjipfdabkncnmaaDoorW.PrintMore
set_option linter.unusedVariables false
set_option linter.unusedSimpArgs false

/-- the box of an act under way. -/
structure Box (w W : World) (gb : Nat) (a b c d e f : Value) : Prop where
  h : W.heap[gb]? = some (.cells #[a, b, c, d, e, f] 26 (0, 0))
theorem Box.keep {w W W' : World} {g gb : Nat} {a b c d e f : Value} (h : Box w W gb a b c d e f) (k : KeepBut W W' g none) (hne : gb ≠ g) : Box w W' gb a b c d e f := ⟨k.blk h.h hne (by simp)⟩
theorem Box.cells {w W : World} {gb : Nat} {a b c d e f : Value} (h : Box w W gb a b c d e f) :
    W.cell? ⟨gb, 0, none⟩ = some a ∧ W.cell? ⟨gb, 1, none⟩ = some b ∧ W.cell? ⟨gb, 2, none⟩ = some c ∧ W.cell? ⟨gb, 3, none⟩ = some d ∧ W.cell? ⟨gb, 4, none⟩ = some e ∧ W.cell? ⟨gb, 5, none⟩ = some f := by
  have hh := h.h
  refine ⟨?_, ?_, ?_, ?_, ?_, ?_⟩ <;> simp [World.cell?, hh]
theorem Box.free {w W : World} {gb : Nat} {a b c d e f : Value} (h : Box w W gb a b c d e f) (j : Nat) : W.frozen? ⟨gb, j, none⟩ = false := by
  have hh := h.h
  simp [World.frozen?, hh]
theorem Box.set0 {w W : World} {gb : Nat} {a b c d e f : Value} (h : Box w W gb a b c d e f) (u : Value) : Box w (W.setCell ⟨gb, 0, none⟩ u) gb u b c d e f := ⟨by have hh := h.h; simp [World.setCell, Array.getElem?_modify, hh]⟩
theorem Box.set1 {w W : World} {gb : Nat} {a b c d e f : Value} (h : Box w W gb a b c d e f) (u : Value) : Box w (W.setCell ⟨gb, 1, none⟩ u) gb a u c d e f := ⟨by have hh := h.h; simp [World.setCell, Array.getElem?_modify, hh]⟩
theorem Box.set2 {w W : World} {gb : Nat} {a b c d e f : Value} (h : Box w W gb a b c d e f) (u : Value) : Box w (W.setCell ⟨gb, 2, none⟩ u) gb a b u d e f := ⟨by have hh := h.h; simp [World.setCell, Array.getElem?_modify, hh]⟩
theorem Box.set3 {w W : World} {gb : Nat} {a b c d e f : Value} (h : Box w W gb a b c d e f) (u : Value) : Box w (W.setCell ⟨gb, 3, none⟩ u) gb a b c u e f := ⟨by have hh := h.h; simp [World.setCell, Array.getElem?_modify, hh]⟩

/-- what the call comes to. -/
def ActPost (w0 w : World) (g : Nat) (a : SAct) (r : List UInt8) (e : Ending) (w' : World) : Prop :=
  ∃ u0 u1, e = .returned (.agg #[.int .u8 a.kind, .int .u8 a.node, .int .i64 a.n, .string ⟨a.text.toArray⟩, u0, u1]) ∧ Own w' w.heap.size u0 a.keep ∧ Own w' w.heap.size u1 a.torn ∧ Rd w0 w' g r ∧ KeepBut w w' g none ∧
    (u0.ownBlock = none ∨ u0.ownBlock ≠ u1.ownBlock)

/-- the state after a call or a store: what the walk goes on with. -/
structure At (w0 w W : World) (g gb : Nat) (l : List UInt8) (a b c d e f : Value) : Prop where
  rd : Rd w0 W g l
  kp : KeepBut w W g none
  bx : Box w W gb a b c d e f
theorem At.call {w0 w W W' : World} {g gb : Nat} {l r : List UInt8} {a b c d e f : Value} (h : At w0 w W g gb l a b c d e f) (hr : Rd w0 W' g r) (k : KeepBut W W' g none) (hne : gb ≠ g) : At w0 w W' g gb r a b c d e f :=
  ⟨hr, h.kp.trans k (.inl rfl), h.bx.keep k hne⟩
theorem At.set0 {w0 w W : World} {g gb : Nat} {l : List UInt8} {a b c d e f : Value} (h : At w0 w W g gb l a b c d e f) (hne : gb ≠ g) (hw : w0.heap.size ≤ gb) (hw2 : w.heap.size ≤ gb) (u : Value) : At w0 w (W.setCell ⟨gb, 0, none⟩ u) g gb l u b c d e f :=
  ⟨rd_far h.rd hw hne 0 u, keep_new h.kp hw2 0 u, h.bx.set0 u⟩
theorem At.set1 {w0 w W : World} {g gb : Nat} {l : List UInt8} {a b c d e f : Value} (h : At w0 w W g gb l a b c d e f) (hne : gb ≠ g) (hw : w0.heap.size ≤ gb) (hw2 : w.heap.size ≤ gb) (u : Value) : At w0 w (W.setCell ⟨gb, 1, none⟩ u) g gb l a u c d e f :=
  ⟨rd_far h.rd hw hne 1 u, keep_new h.kp hw2 1 u, h.bx.set1 u⟩
theorem At.set2 {w0 w W : World} {g gb : Nat} {l : List UInt8} {a b c d e f : Value} (h : At w0 w W g gb l a b c d e f) (hne : gb ≠ g) (hw : w0.heap.size ≤ gb) (hw2 : w.heap.size ≤ gb) (u : Value) : At w0 w (W.setCell ⟨gb, 2, none⟩ u) g gb l a b u d e f :=
  ⟨rd_far h.rd hw hne 2 u, keep_new h.kp hw2 2 u, h.bx.set2 u⟩
theorem At.set3 {w0 w W : World} {g gb : Nat} {l : List UInt8} {a b c d e f : Value} (h : At w0 w W g gb l a b c d e f) (hne : gb ≠ g) (hw : w0.heap.size ≤ gb) (hw2 : w.heap.size ≤ gb) (u : Value) : At w0 w (W.setCell ⟨gb, 3, none⟩ u) g gb l a b c u e f :=
  ⟨rd_far h.rd hw hne 3 u, keep_new h.kp hw2 3 u, h.bx.set3 u⟩

theorem At.drawn {w0 w W W' : World} {g gb : Nat} {l : List UInt8} {a b c d e f : Value} (h : At w0 w W g gb l a b c d e f) (hd : Drawn0 W W') : At w0 w W' g gb l a b c d e f := by
  obtain ⟨n, rfl⟩ := hd
  exact ⟨⟨h.rd.out, pw_below_drewN h.rd.below n⟩, h.kp, ⟨h.bx.h⟩⟩
theorem Box.set4 {w W : World} {gb : Nat} {a b c d e f : Value} (h : Box w W gb a b c d e f) (u : Value) : Box w (W.setCell ⟨gb, 4, none⟩ u) gb a b c d u f := ⟨by have hh := h.h; simp [World.setCell, Array.getElem?_modify, hh]⟩
theorem Box.set5 {w W : World} {gb : Nat} {a b c d e f : Value} (h : Box w W gb a b c d e f) (u : Value) : Box w (W.setCell ⟨gb, 5, none⟩ u) gb a b c d e u := ⟨by have hh := h.h; simp [World.setCell, Array.getElem?_modify, hh]⟩
theorem At.set4 {w0 w W : World} {g gb : Nat} {l : List UInt8} {a b c d e f : Value} (h : At w0 w W g gb l a b c d e f) (hne : gb ≠ g) (hw : w0.heap.size ≤ gb) (hw2 : w.heap.size ≤ gb) (u : Value) : At w0 w (W.setCell ⟨gb, 4, none⟩ u) g gb l a b c d u f :=
  ⟨rd_far h.rd hw hne 4 u, keep_new h.kp hw2 4 u, h.bx.set4 u⟩
theorem At.set5 {w0 w W : World} {g gb : Nat} {l : List UInt8} {a b c d e f : Value} (h : At w0 w W g gb l a b c d e f) (hne : gb ≠ g) (hw : w0.heap.size ≤ gb) (hw2 : w.heap.size ≤ gb) (u : Value) : At w0 w (W.setCell ⟨gb, 5, none⟩ u) g gb l a b c d e u :=
  ⟨rd_far h.rd hw hne 5 u, keep_new h.kp hw2 5 u, h.bx.set5 u⟩
def six (W : World) (gb : Nat) (a b c d e f : Value) : World := (((((W.setCell ⟨gb, 0, none⟩ a).setCell ⟨gb, 1, none⟩ b).setCell ⟨gb, 2, none⟩ c).setCell ⟨gb, 3, none⟩ d).setCell ⟨gb, 4, none⟩ e).setCell ⟨gb, 5, none⟩ f
theorem At.fin {w0 w W : World} {g gb : Nat} {l : List UInt8} {a b c d e f : Value} (h : At w0 w W g gb l a b c d e f) (hne : gb ≠ g) (hw : w0.heap.size ≤ gb) (hw2 : w.heap.size ≤ gb) : At w0 w (six W gb a b c d e f) g gb l a b c d e f :=
  (((((h.set0 hne hw hw2 a).set1 hne hw hw2 b).set2 hne hw hw2 c).set3 hne hw hw2 d).set4 hne hw hw2 e).set5 hne hw hw2 f
theorem Own.fin {W : World} {B gb : Nat} {v : Value} {xs : List Int} (h : Own W B v xs) (hne : v.ownBlock ≠ some gb) (a b c d e f : Value) : Own (six W gb a b c d e f) B v xs :=
  (((((h.far hne 0 a).far hne 1 b).far hne 2 c).far hne 3 d).far hne 4 e).far hne 5 f
theorem Own.low {W : World} {B B' : Nat} {v : Value} {xs : List Int} (h : Own W B v xs) (hb : B' ≤ B) : Own W B' v xs := own_weaken h hb
theorem Own.nil (w : World) (B : Nat) : Own w B (.slice none 0 0) [] := own_nil _ _ _ _
theorem Own.draw {w w' : World} {B : Nat} {u : Value} {xs : List Int} (h : Own w B u xs) (k : KeepBut w w' B none) : True := trivial

set_option maxHeartbeats 4000000 in
set_option maxRecDepth 100000 in
theorem act_1 (w0 w : World) (g : Nat) (l : List UInt8) (h : Rd w0 w g l) (hk : hd l % 9 = 0) :
    Calls Tryd.prog 18 #[.pointer (some ⟨g, 0, none⟩)] w (ActPost w0 w g ⟨1 + hd l % 9, 1 + hd l.tail % 5, 0, txt (l.tail.tail), [], []⟩ (txtRest (l.tail.tail))) := by
  have hx := hd_bd l
  have hglt := h.lt
  have hge := h.ge
  have hgg : w.heap.size ≠ g := by omega
  have hww : w0.heap.size ≤ w.heap.size := by omega
  have hT : PScriptTotal.script_takes.f (1 + hd l % 9) = some 9 := by rw [hk]; rfl
  have HT := Lib.hid hT
  clear hT hk
  have ha : At w0 w (w.alloc (.cells #[.int .u8 0, .int .u8 0, .int .i64 0, .string ⟨#[]⟩, .slice none 0 0, .slice none 0 0] 26)) g w.heap.size l (.int .u8 0) (.int .u8 0) (.int .i64 0) (.string ⟨#[]⟩) (.slice none 0 0) (.slice none 0 0) :=
    ⟨h.old (Below.heap_alloc w _ g hglt) (h.below.alloc h.below.size _), KeepBut.of_below ((Below.refl _ _).alloc (Nat.le_refl _) _) g none, ⟨heap_alloc_new w _⟩⟩
  have HA := Lib.hid ha
  clear ha
  go_enter Tryd.func18, Tryd.ntmps18
  go_wp2_with fail
  refine (byte_any w0 _ g l HA.out.rd).mono ?_
  rintro e w1 ⟨rfl, h1, k1, z1⟩
  have HA1 := Lib.hid (HA.out.call h1 k1 hgg)
  clear h1 k1 z1
  obtain ⟨c0, c1, c2, c3, c4, c5⟩ := HA1.out.bx.cells
  have f0 := HA1.out.bx.free 0
  go_wp2_with fail
  refine (PScriptTotal.script_takes.calls _ 9 _ HT.out).mono ?_
  rintro e w2 ⟨rfl, hdr⟩
  have HA2 := Lib.hid ((HA1.out.set0 hgg hww (Nat.le_refl _) (.int .u8 (1 + hd l % 9))).drawn hdr)
  clear hdr c0 c1 c2 c3 c4 c5 f0
  have b3 := hd_bd (l.tail)
  go_wp2_with fail
  refine (byte_any w0 _ g (l.tail) HA2.out.rd).mono ?_
  rintro e w3 ⟨rfl, h1, k1, z1⟩
  have HB3 := Lib.hid (HA2.out.call h1 k1 hgg)
  clear h1 k1 z1
  obtain ⟨c0, c1, c2, c3, c4, c5⟩ := HB3.out.bx.cells
  have f1 := HB3.out.bx.free 1
  have HA3 := Lib.hid (HB3.out.set1 hgg hww (Nat.le_refl _) (.int .u8 (1 + hd l.tail % 5)))
  go_wp2_with fail
  refine (text_any w0 _ g (l.tail.tail) HA3.out.rd).mono ?_
  rintro e w4 ⟨rfl, h1, k1, z1⟩
  have HB4 := Lib.hid (HA3.out.call h1 k1 hgg)
  clear h1 k1 z1
  obtain ⟨c0, c1, c2, c3, c4, c5⟩ := HB4.out.bx.cells
  have f3 := HB4.out.bx.free 3
  have HA4 := Lib.hid (HB4.out.set3 hgg hww (Nat.le_refl _) (.string ⟨(txt (l.tail.tail)).toArray⟩))
  obtain ⟨c0, c1, c2, c3, c4, c5⟩ := HA4.out.bx.cells
  have f0 := HA4.out.bx.free 0
  have f1 := HA4.out.bx.free 1
  have f2 := HA4.out.bx.free 2
  have f3 := HA4.out.bx.free 3
  have f4 := HA4.out.bx.free 4
  have f5 := HA4.out.bx.free 5
  have HS := Lib.hid (HA4.out.fin hgg hww (Nat.le_refl _))
  go_wp2
  refine bodyPost_ret (v := .agg #[.int .u8 (1 + hd l % 9), .int .u8 (1 + hd l.tail % 5), .int .i64 (0), .string ⟨(txt (l.tail.tail)).toArray⟩, .slice none 0 0, .slice none 0 0]) (by simp [results, Tryd.results18, go_sem, *]) rfl ⟨_, _, rfl, Own.nil _ _, Own.nil _ _, HS.out.rd, HS.out.kp, .inl rfl⟩

set_option maxHeartbeats 4000000 in
set_option maxRecDepth 100000 in
theorem act_2 (w0 w : World) (g : Nat) (l : List UInt8) (h : Rd w0 w g l) (hk : hd l % 9 = 1) :
    Calls Tryd.prog 18 #[.pointer (some ⟨g, 0, none⟩)] w (ActPost w0 w g ⟨1 + hd l % 9, 0, hd (l.tail), [], [], []⟩ (l.tail.tail)) := by
  have hx := hd_bd l
  have hglt := h.lt
  have hge := h.ge
  have hgg : w.heap.size ≠ g := by omega
  have hww : w0.heap.size ≤ w.heap.size := by omega
  have hT : PScriptTotal.script_takes.f (1 + hd l % 9) = some 4 := by rw [hk]; rfl
  have HT := Lib.hid hT
  clear hT hk
  have ha : At w0 w (w.alloc (.cells #[.int .u8 0, .int .u8 0, .int .i64 0, .string ⟨#[]⟩, .slice none 0 0, .slice none 0 0] 26)) g w.heap.size l (.int .u8 0) (.int .u8 0) (.int .i64 0) (.string ⟨#[]⟩) (.slice none 0 0) (.slice none 0 0) :=
    ⟨h.old (Below.heap_alloc w _ g hglt) (h.below.alloc h.below.size _), KeepBut.of_below ((Below.refl _ _).alloc (Nat.le_refl _) _) g none, ⟨heap_alloc_new w _⟩⟩
  have HA := Lib.hid ha
  clear ha
  go_enter Tryd.func18, Tryd.ntmps18
  go_wp2_with fail
  refine (byte_any w0 _ g l HA.out.rd).mono ?_
  rintro e w1 ⟨rfl, h1, k1, z1⟩
  have HA1 := Lib.hid (HA.out.call h1 k1 hgg)
  clear h1 k1 z1
  obtain ⟨c0, c1, c2, c3, c4, c5⟩ := HA1.out.bx.cells
  have f0 := HA1.out.bx.free 0
  go_wp2_with fail
  refine (PScriptTotal.script_takes.calls _ 4 _ HT.out).mono ?_
  rintro e w2 ⟨rfl, hdr⟩
  have HA2 := Lib.hid ((HA1.out.set0 hgg hww (Nat.le_refl _) (.int .u8 (1 + hd l % 9))).drawn hdr)
  clear hdr c0 c1 c2 c3 c4 c5 f0
  have b3 := hd_bd (l.tail)
  go_wp2_with fail
  refine (byte_any w0 _ g (l.tail) HA2.out.rd).mono ?_
  rintro e w3 ⟨rfl, h1, k1, z1⟩
  have HB3 := Lib.hid (HA2.out.call h1 k1 hgg)
  clear h1 k1 z1
  obtain ⟨c0, c1, c2, c3, c4, c5⟩ := HB3.out.bx.cells
  have f2 := HB3.out.bx.free 2
  have HA3 := Lib.hid (HB3.out.set2 hgg hww (Nat.le_refl _) (.int .i64 (hd (l.tail))))
  obtain ⟨c0, c1, c2, c3, c4, c5⟩ := HA3.out.bx.cells
  have f0 := HA3.out.bx.free 0
  have f1 := HA3.out.bx.free 1
  have f2 := HA3.out.bx.free 2
  have f3 := HA3.out.bx.free 3
  have f4 := HA3.out.bx.free 4
  have f5 := HA3.out.bx.free 5
  have HS := Lib.hid (HA3.out.fin hgg hww (Nat.le_refl _))
  go_wp2
  refine bodyPost_ret (v := .agg #[.int .u8 (1 + hd l % 9), .int .u8 (0), .int .i64 (hd (l.tail)), .string ⟨#[]⟩, .slice none 0 0, .slice none 0 0]) (by simp [results, Tryd.results18, go_sem, *]) rfl ⟨_, _, rfl, Own.nil _ _, Own.nil _ _, HS.out.rd, HS.out.kp, .inl rfl⟩

set_option maxHeartbeats 4000000 in
set_option maxRecDepth 100000 in
theorem act_3 (w0 w : World) (g : Nat) (l : List UInt8) (h : Rd w0 w g l) (hk : hd l % 9 = 2) :
    Calls Tryd.prog 18 #[.pointer (some ⟨g, 0, none⟩)] w (ActPost w0 w g ⟨1 + hd l % 9, 0, hd (l.tail), [], [], []⟩ (l.tail.tail)) := by
  have hx := hd_bd l
  have hglt := h.lt
  have hge := h.ge
  have hgg : w.heap.size ≠ g := by omega
  have hww : w0.heap.size ≤ w.heap.size := by omega
  have hT : PScriptTotal.script_takes.f (1 + hd l % 9) = some 4 := by rw [hk]; rfl
  have HT := Lib.hid hT
  clear hT hk
  have ha : At w0 w (w.alloc (.cells #[.int .u8 0, .int .u8 0, .int .i64 0, .string ⟨#[]⟩, .slice none 0 0, .slice none 0 0] 26)) g w.heap.size l (.int .u8 0) (.int .u8 0) (.int .i64 0) (.string ⟨#[]⟩) (.slice none 0 0) (.slice none 0 0) :=
    ⟨h.old (Below.heap_alloc w _ g hglt) (h.below.alloc h.below.size _), KeepBut.of_below ((Below.refl _ _).alloc (Nat.le_refl _) _) g none, ⟨heap_alloc_new w _⟩⟩
  have HA := Lib.hid ha
  clear ha
  go_enter Tryd.func18, Tryd.ntmps18
  go_wp2_with fail
  refine (byte_any w0 _ g l HA.out.rd).mono ?_
  rintro e w1 ⟨rfl, h1, k1, z1⟩
  have HA1 := Lib.hid (HA.out.call h1 k1 hgg)
  clear h1 k1 z1
  obtain ⟨c0, c1, c2, c3, c4, c5⟩ := HA1.out.bx.cells
  have f0 := HA1.out.bx.free 0
  go_wp2_with fail
  refine (PScriptTotal.script_takes.calls _ 4 _ HT.out).mono ?_
  rintro e w2 ⟨rfl, hdr⟩
  have HA2 := Lib.hid ((HA1.out.set0 hgg hww (Nat.le_refl _) (.int .u8 (1 + hd l % 9))).drawn hdr)
  clear hdr c0 c1 c2 c3 c4 c5 f0
  have b3 := hd_bd (l.tail)
  go_wp2_with fail
  refine (byte_any w0 _ g (l.tail) HA2.out.rd).mono ?_
  rintro e w3 ⟨rfl, h1, k1, z1⟩
  have HB3 := Lib.hid (HA2.out.call h1 k1 hgg)
  clear h1 k1 z1
  obtain ⟨c0, c1, c2, c3, c4, c5⟩ := HB3.out.bx.cells
  have f2 := HB3.out.bx.free 2
  have HA3 := Lib.hid (HB3.out.set2 hgg hww (Nat.le_refl _) (.int .i64 (hd (l.tail))))
  obtain ⟨c0, c1, c2, c3, c4, c5⟩ := HA3.out.bx.cells
  have f0 := HA3.out.bx.free 0
  have f1 := HA3.out.bx.free 1
  have f2 := HA3.out.bx.free 2
  have f3 := HA3.out.bx.free 3
  have f4 := HA3.out.bx.free 4
  have f5 := HA3.out.bx.free 5
  have HS := Lib.hid (HA3.out.fin hgg hww (Nat.le_refl _))
  go_wp2
  refine bodyPost_ret (v := .agg #[.int .u8 (1 + hd l % 9), .int .u8 (0), .int .i64 (hd (l.tail)), .string ⟨#[]⟩, .slice none 0 0, .slice none 0 0]) (by simp [results, Tryd.results18, go_sem, *]) rfl ⟨_, _, rfl, Own.nil _ _, Own.nil _ _, HS.out.rd, HS.out.kp, .inl rfl⟩

set_option maxHeartbeats 4000000 in
set_option maxRecDepth 100000 in
theorem act_4 (w0 w : World) (g : Nat) (l : List UInt8) (h : Rd w0 w g l) (hk : hd l % 9 = 3) :
    Calls Tryd.prog 18 #[.pointer (some ⟨g, 0, none⟩)] w (ActPost w0 w g ⟨1 + hd l % 9, 0, hd (l.tail), [], [], []⟩ (l.tail.tail)) := by
  have hx := hd_bd l
  have hglt := h.lt
  have hge := h.ge
  have hgg : w.heap.size ≠ g := by omega
  have hww : w0.heap.size ≤ w.heap.size := by omega
  have hT : PScriptTotal.script_takes.f (1 + hd l % 9) = some 4 := by rw [hk]; rfl
  have HT := Lib.hid hT
  clear hT hk
  have ha : At w0 w (w.alloc (.cells #[.int .u8 0, .int .u8 0, .int .i64 0, .string ⟨#[]⟩, .slice none 0 0, .slice none 0 0] 26)) g w.heap.size l (.int .u8 0) (.int .u8 0) (.int .i64 0) (.string ⟨#[]⟩) (.slice none 0 0) (.slice none 0 0) :=
    ⟨h.old (Below.heap_alloc w _ g hglt) (h.below.alloc h.below.size _), KeepBut.of_below ((Below.refl _ _).alloc (Nat.le_refl _) _) g none, ⟨heap_alloc_new w _⟩⟩
  have HA := Lib.hid ha
  clear ha
  go_enter Tryd.func18, Tryd.ntmps18
  go_wp2_with fail
  refine (byte_any w0 _ g l HA.out.rd).mono ?_
  rintro e w1 ⟨rfl, h1, k1, z1⟩
  have HA1 := Lib.hid (HA.out.call h1 k1 hgg)
  clear h1 k1 z1
  obtain ⟨c0, c1, c2, c3, c4, c5⟩ := HA1.out.bx.cells
  have f0 := HA1.out.bx.free 0
  go_wp2_with fail
  refine (PScriptTotal.script_takes.calls _ 4 _ HT.out).mono ?_
  rintro e w2 ⟨rfl, hdr⟩
  have HA2 := Lib.hid ((HA1.out.set0 hgg hww (Nat.le_refl _) (.int .u8 (1 + hd l % 9))).drawn hdr)
  clear hdr c0 c1 c2 c3 c4 c5 f0
  have b3 := hd_bd (l.tail)
  go_wp2_with fail
  refine (byte_any w0 _ g (l.tail) HA2.out.rd).mono ?_
  rintro e w3 ⟨rfl, h1, k1, z1⟩
  have HB3 := Lib.hid (HA2.out.call h1 k1 hgg)
  clear h1 k1 z1
  obtain ⟨c0, c1, c2, c3, c4, c5⟩ := HB3.out.bx.cells
  have f2 := HB3.out.bx.free 2
  have HA3 := Lib.hid (HB3.out.set2 hgg hww (Nat.le_refl _) (.int .i64 (hd (l.tail))))
  obtain ⟨c0, c1, c2, c3, c4, c5⟩ := HA3.out.bx.cells
  have f0 := HA3.out.bx.free 0
  have f1 := HA3.out.bx.free 1
  have f2 := HA3.out.bx.free 2
  have f3 := HA3.out.bx.free 3
  have f4 := HA3.out.bx.free 4
  have f5 := HA3.out.bx.free 5
  have HS := Lib.hid (HA3.out.fin hgg hww (Nat.le_refl _))
  go_wp2
  refine bodyPost_ret (v := .agg #[.int .u8 (1 + hd l % 9), .int .u8 (0), .int .i64 (hd (l.tail)), .string ⟨#[]⟩, .slice none 0 0, .slice none 0 0]) (by simp [results, Tryd.results18, go_sem, *]) rfl ⟨_, _, rfl, Own.nil _ _, Own.nil _ _, HS.out.rd, HS.out.kp, .inl rfl⟩

set_option maxHeartbeats 4000000 in
set_option maxRecDepth 100000 in
theorem act_5 (w0 w : World) (g : Nat) (l : List UInt8) (h : Rd w0 w g l) (hk : hd l % 9 = 4) :
    Calls Tryd.prog 18 #[.pointer (some ⟨g, 0, none⟩)] w (ActPost w0 w g ⟨1 + hd l % 9, 1 + hd l.tail % 5, hd (l.tail.tail), [], [], []⟩ (l.tail.tail.tail)) := by
  have hx := hd_bd l
  have hglt := h.lt
  have hge := h.ge
  have hgg : w.heap.size ≠ g := by omega
  have hww : w0.heap.size ≤ w.heap.size := by omega
  have hT : PScriptTotal.script_takes.f (1 + hd l % 9) = some 5 := by rw [hk]; rfl
  have HT := Lib.hid hT
  clear hT hk
  have ha : At w0 w (w.alloc (.cells #[.int .u8 0, .int .u8 0, .int .i64 0, .string ⟨#[]⟩, .slice none 0 0, .slice none 0 0] 26)) g w.heap.size l (.int .u8 0) (.int .u8 0) (.int .i64 0) (.string ⟨#[]⟩) (.slice none 0 0) (.slice none 0 0) :=
    ⟨h.old (Below.heap_alloc w _ g hglt) (h.below.alloc h.below.size _), KeepBut.of_below ((Below.refl _ _).alloc (Nat.le_refl _) _) g none, ⟨heap_alloc_new w _⟩⟩
  have HA := Lib.hid ha
  clear ha
  go_enter Tryd.func18, Tryd.ntmps18
  go_wp2_with fail
  refine (byte_any w0 _ g l HA.out.rd).mono ?_
  rintro e w1 ⟨rfl, h1, k1, z1⟩
  have HA1 := Lib.hid (HA.out.call h1 k1 hgg)
  clear h1 k1 z1
  obtain ⟨c0, c1, c2, c3, c4, c5⟩ := HA1.out.bx.cells
  have f0 := HA1.out.bx.free 0
  go_wp2_with fail
  refine (PScriptTotal.script_takes.calls _ 5 _ HT.out).mono ?_
  rintro e w2 ⟨rfl, hdr⟩
  have HA2 := Lib.hid ((HA1.out.set0 hgg hww (Nat.le_refl _) (.int .u8 (1 + hd l % 9))).drawn hdr)
  clear hdr c0 c1 c2 c3 c4 c5 f0
  have b3 := hd_bd (l.tail)
  go_wp2_with fail
  refine (byte_any w0 _ g (l.tail) HA2.out.rd).mono ?_
  rintro e w3 ⟨rfl, h1, k1, z1⟩
  have HB3 := Lib.hid (HA2.out.call h1 k1 hgg)
  clear h1 k1 z1
  obtain ⟨c0, c1, c2, c3, c4, c5⟩ := HB3.out.bx.cells
  have f1 := HB3.out.bx.free 1
  have HA3 := Lib.hid (HB3.out.set1 hgg hww (Nat.le_refl _) (.int .u8 (1 + hd l.tail % 5)))
  have b4 := hd_bd (l.tail.tail)
  go_wp2_with fail
  refine (byte_any w0 _ g (l.tail.tail) HA3.out.rd).mono ?_
  rintro e w4 ⟨rfl, h1, k1, z1⟩
  have HB4 := Lib.hid (HA3.out.call h1 k1 hgg)
  clear h1 k1 z1
  obtain ⟨c0, c1, c2, c3, c4, c5⟩ := HB4.out.bx.cells
  have f2 := HB4.out.bx.free 2
  have HA4 := Lib.hid (HB4.out.set2 hgg hww (Nat.le_refl _) (.int .i64 (hd (l.tail.tail))))
  obtain ⟨c0, c1, c2, c3, c4, c5⟩ := HA4.out.bx.cells
  have f0 := HA4.out.bx.free 0
  have f1 := HA4.out.bx.free 1
  have f2 := HA4.out.bx.free 2
  have f3 := HA4.out.bx.free 3
  have f4 := HA4.out.bx.free 4
  have f5 := HA4.out.bx.free 5
  have HS := Lib.hid (HA4.out.fin hgg hww (Nat.le_refl _))
  go_wp2
  refine bodyPost_ret (v := .agg #[.int .u8 (1 + hd l % 9), .int .u8 (1 + hd l.tail % 5), .int .i64 (hd (l.tail.tail)), .string ⟨#[]⟩, .slice none 0 0, .slice none 0 0]) (by simp [results, Tryd.results18, go_sem, *]) rfl ⟨_, _, rfl, Own.nil _ _, Own.nil _ _, HS.out.rd, HS.out.kp, .inl rfl⟩

set_option maxHeartbeats 4000000 in
set_option maxRecDepth 100000 in
theorem act_6 (w0 w : World) (g : Nat) (l : List UInt8) (h : Rd w0 w g l) (hk : hd l % 9 = 5) :
    Calls Tryd.prog 18 #[.pointer (some ⟨g, 0, none⟩)] w (ActPost w0 w g ⟨1 + hd l % 9, 1 + hd l.tail % 5, hd (l.tail.tail), [], (crashRd (l.tail.tail.tail)).1, (crashRd (l.tail.tail.tail)).2.1⟩ ((crashRd (l.tail.tail.tail)).2.2)) := by
  have hx := hd_bd l
  have hglt := h.lt
  have hge := h.ge
  have hgg : w.heap.size ≠ g := by omega
  have hww : w0.heap.size ≤ w.heap.size := by omega
  have hT : PScriptTotal.script_takes.f (1 + hd l % 9) = some 21 := by rw [hk]; rfl
  have HT := Lib.hid hT
  clear hT hk
  have ha : At w0 w (w.alloc (.cells #[.int .u8 0, .int .u8 0, .int .i64 0, .string ⟨#[]⟩, .slice none 0 0, .slice none 0 0] 26)) g w.heap.size l (.int .u8 0) (.int .u8 0) (.int .i64 0) (.string ⟨#[]⟩) (.slice none 0 0) (.slice none 0 0) :=
    ⟨h.old (Below.heap_alloc w _ g hglt) (h.below.alloc h.below.size _), KeepBut.of_below ((Below.refl _ _).alloc (Nat.le_refl _) _) g none, ⟨heap_alloc_new w _⟩⟩
  have HA := Lib.hid ha
  clear ha
  go_enter Tryd.func18, Tryd.ntmps18
  go_wp2_with fail
  refine (byte_any w0 _ g l HA.out.rd).mono ?_
  rintro e w1 ⟨rfl, h1, k1, z1⟩
  have HA1 := Lib.hid (HA.out.call h1 k1 hgg)
  clear h1 k1 z1
  obtain ⟨c0, c1, c2, c3, c4, c5⟩ := HA1.out.bx.cells
  have f0 := HA1.out.bx.free 0
  go_wp2_with fail
  refine (PScriptTotal.script_takes.calls _ 21 _ HT.out).mono ?_
  rintro e w2 ⟨rfl, hdr⟩
  have HA2 := Lib.hid ((HA1.out.set0 hgg hww (Nat.le_refl _) (.int .u8 (1 + hd l % 9))).drawn hdr)
  clear hdr c0 c1 c2 c3 c4 c5 f0
  have b3 := hd_bd (l.tail)
  go_wp2_with fail
  refine (byte_any w0 _ g (l.tail) HA2.out.rd).mono ?_
  rintro e w3 ⟨rfl, h1, k1, z1⟩
  have HB3 := Lib.hid (HA2.out.call h1 k1 hgg)
  clear h1 k1 z1
  obtain ⟨c0, c1, c2, c3, c4, c5⟩ := HB3.out.bx.cells
  have f1 := HB3.out.bx.free 1
  have HA3 := Lib.hid (HB3.out.set1 hgg hww (Nat.le_refl _) (.int .u8 (1 + hd l.tail % 5)))
  have b4 := hd_bd (l.tail.tail)
  go_wp2_with fail
  refine (byte_any w0 _ g (l.tail.tail) HA3.out.rd).mono ?_
  rintro e w4 ⟨rfl, h1, k1, z1⟩
  have HB4 := Lib.hid (HA3.out.call h1 k1 hgg)
  clear h1 k1 z1
  obtain ⟨c0, c1, c2, c3, c4, c5⟩ := HB4.out.bx.cells
  have f2 := HB4.out.bx.free 2
  have HA4 := Lib.hid (HB4.out.set2 hgg hww (Nat.le_refl _) (.int .i64 (hd (l.tail.tail))))
  go_wp2_with fail
  refine (crash_any w0 _ g (l.tail.tail.tail) HA4.out.rd).mono ?_
  rintro e w5 ⟨u0, u1, rfl, o0, o1, h1, k1, ne⟩
  have HO0 := Lib.hid o0
  have HO1 := Lib.hid o1
  have HNE := Lib.hid ne
  clear o0 o1 ne
  have HB5 := Lib.hid (HA4.out.call h1 k1 hgg)
  clear h1 k1
  obtain ⟨c0, c1, c2, c3, c4, c5⟩ := HB5.out.bx.cells
  have f0 := HB5.out.bx.free 0
  have f1 := HB5.out.bx.free 1
  have f2 := HB5.out.bx.free 2
  have f3 := HB5.out.bx.free 3
  have f4 := HB5.out.bx.free 4
  have f5 := HB5.out.bx.free 5
  obtain ⟨A0, q0, e0⟩ := own_slice HO0.out
  obtain ⟨A1, q1, e1⟩ := own_slice HO1.out
  subst e0 e1
  have n0 := HO0.out.ne_blk HB5.out.bx.h (by decide)
  have n1 := HO1.out.ne_blk HB5.out.bx.h (by decide)
  have HS := Lib.hid (((HB5.out.set4 hgg hww (Nat.le_refl _) (.slice A0 ((crashRd (l.tail.tail.tail)).1).length q0)).set5 hgg hww (Nat.le_refl _) (.slice A1 ((crashRd (l.tail.tail.tail)).2.1).length q1)).fin hgg hww (Nat.le_refl _))
  have HO2 := Lib.hid (((((HO0.out.far n0 4 (.slice A0 ((crashRd (l.tail.tail.tail)).1).length q0)).far n0 5 (.slice A1 ((crashRd (l.tail.tail.tail)).2.1).length q1)).fin n0 (.int .u8 (1 + hd l % 9)) (.int .u8 (1 + hd l.tail % 5)) (.int .i64 (hd (l.tail.tail))) (.string ⟨#[]⟩) (.slice A0 ((crashRd (l.tail.tail.tail)).1).length q0) (.slice A1 ((crashRd (l.tail.tail.tail)).2.1).length q1))).low HA4.out.kp.1)
  have HO3 := Lib.hid (((((HO1.out.far n1 4 (.slice A0 ((crashRd (l.tail.tail.tail)).1).length q0)).far n1 5 (.slice A1 ((crashRd (l.tail.tail.tail)).2.1).length q1)).fin n1 (.int .u8 (1 + hd l % 9)) (.int .u8 (1 + hd l.tail % 5)) (.int .i64 (hd (l.tail.tail))) (.string ⟨#[]⟩) (.slice A0 ((crashRd (l.tail.tail.tail)).1).length q0) (.slice A1 ((crashRd (l.tail.tail.tail)).2.1).length q1))).low HA4.out.kp.1)
  clear n0 n1
  go_wp2
  obtain ⟨s0, s1, s2, s3, s4, s5⟩ := HS.out.bx.cells
  simp only [six] at s0 s1 s2 s3 s4 s5
  clear c0 c1 c2 c3 c4 c5
  refine bodyPost_ret (v := .agg #[.int .u8 (1 + hd l % 9), .int .u8 (1 + hd l.tail % 5), .int .i64 (hd (l.tail.tail)), .string ⟨#[]⟩, .slice A0 ((crashRd (l.tail.tail.tail)).1).length q0, .slice A1 ((crashRd (l.tail.tail.tail)).2.1).length q1]) (by simp only [results, Tryd.results18]; simp [go_sem, s0, s1, s2, s3, s4, s5]) rfl ⟨_, _, rfl, HO2.out, HO3.out, HS.out.rd, HS.out.kp, HNE.out⟩

set_option maxHeartbeats 4000000 in
set_option maxRecDepth 100000 in
theorem act_7 (w0 w : World) (g : Nat) (l : List UInt8) (h : Rd w0 w g l) (hk : hd l % 9 = 6) :
    Calls Tryd.prog 18 #[.pointer (some ⟨g, 0, none⟩)] w (ActPost w0 w g ⟨1 + hd l % 9, 1 + hd l.tail % 5, 0, [], (crashRd (l.tail.tail)).1, (crashRd (l.tail.tail)).2.1⟩ ((crashRd (l.tail.tail)).2.2)) := by
  have hx := hd_bd l
  have hglt := h.lt
  have hge := h.ge
  have hgg : w.heap.size ≠ g := by omega
  have hww : w0.heap.size ≤ w.heap.size := by omega
  have hT : PScriptTotal.script_takes.f (1 + hd l % 9) = some 17 := by rw [hk]; rfl
  have HT := Lib.hid hT
  clear hT hk
  have ha : At w0 w (w.alloc (.cells #[.int .u8 0, .int .u8 0, .int .i64 0, .string ⟨#[]⟩, .slice none 0 0, .slice none 0 0] 26)) g w.heap.size l (.int .u8 0) (.int .u8 0) (.int .i64 0) (.string ⟨#[]⟩) (.slice none 0 0) (.slice none 0 0) :=
    ⟨h.old (Below.heap_alloc w _ g hglt) (h.below.alloc h.below.size _), KeepBut.of_below ((Below.refl _ _).alloc (Nat.le_refl _) _) g none, ⟨heap_alloc_new w _⟩⟩
  have HA := Lib.hid ha
  clear ha
  go_enter Tryd.func18, Tryd.ntmps18
  go_wp2_with fail
  refine (byte_any w0 _ g l HA.out.rd).mono ?_
  rintro e w1 ⟨rfl, h1, k1, z1⟩
  have HA1 := Lib.hid (HA.out.call h1 k1 hgg)
  clear h1 k1 z1
  obtain ⟨c0, c1, c2, c3, c4, c5⟩ := HA1.out.bx.cells
  have f0 := HA1.out.bx.free 0
  go_wp2_with fail
  refine (PScriptTotal.script_takes.calls _ 17 _ HT.out).mono ?_
  rintro e w2 ⟨rfl, hdr⟩
  have HA2 := Lib.hid ((HA1.out.set0 hgg hww (Nat.le_refl _) (.int .u8 (1 + hd l % 9))).drawn hdr)
  clear hdr c0 c1 c2 c3 c4 c5 f0
  have b3 := hd_bd (l.tail)
  go_wp2_with fail
  refine (byte_any w0 _ g (l.tail) HA2.out.rd).mono ?_
  rintro e w3 ⟨rfl, h1, k1, z1⟩
  have HB3 := Lib.hid (HA2.out.call h1 k1 hgg)
  clear h1 k1 z1
  obtain ⟨c0, c1, c2, c3, c4, c5⟩ := HB3.out.bx.cells
  have f1 := HB3.out.bx.free 1
  have HA3 := Lib.hid (HB3.out.set1 hgg hww (Nat.le_refl _) (.int .u8 (1 + hd l.tail % 5)))
  go_wp2_with fail
  refine (crash_any w0 _ g (l.tail.tail) HA3.out.rd).mono ?_
  rintro e w4 ⟨u0, u1, rfl, o0, o1, h1, k1, ne⟩
  have HO0 := Lib.hid o0
  have HO1 := Lib.hid o1
  have HNE := Lib.hid ne
  clear o0 o1 ne
  have HB4 := Lib.hid (HA3.out.call h1 k1 hgg)
  clear h1 k1
  obtain ⟨c0, c1, c2, c3, c4, c5⟩ := HB4.out.bx.cells
  have f0 := HB4.out.bx.free 0
  have f1 := HB4.out.bx.free 1
  have f2 := HB4.out.bx.free 2
  have f3 := HB4.out.bx.free 3
  have f4 := HB4.out.bx.free 4
  have f5 := HB4.out.bx.free 5
  obtain ⟨A0, q0, e0⟩ := own_slice HO0.out
  obtain ⟨A1, q1, e1⟩ := own_slice HO1.out
  subst e0 e1
  have n0 := HO0.out.ne_blk HB4.out.bx.h (by decide)
  have n1 := HO1.out.ne_blk HB4.out.bx.h (by decide)
  have HS := Lib.hid (((HB4.out.set4 hgg hww (Nat.le_refl _) (.slice A0 ((crashRd (l.tail.tail)).1).length q0)).set5 hgg hww (Nat.le_refl _) (.slice A1 ((crashRd (l.tail.tail)).2.1).length q1)).fin hgg hww (Nat.le_refl _))
  have HO2 := Lib.hid (((((HO0.out.far n0 4 (.slice A0 ((crashRd (l.tail.tail)).1).length q0)).far n0 5 (.slice A1 ((crashRd (l.tail.tail)).2.1).length q1)).fin n0 (.int .u8 (1 + hd l % 9)) (.int .u8 (1 + hd l.tail % 5)) (.int .i64 (0)) (.string ⟨#[]⟩) (.slice A0 ((crashRd (l.tail.tail)).1).length q0) (.slice A1 ((crashRd (l.tail.tail)).2.1).length q1))).low HA3.out.kp.1)
  have HO3 := Lib.hid (((((HO1.out.far n1 4 (.slice A0 ((crashRd (l.tail.tail)).1).length q0)).far n1 5 (.slice A1 ((crashRd (l.tail.tail)).2.1).length q1)).fin n1 (.int .u8 (1 + hd l % 9)) (.int .u8 (1 + hd l.tail % 5)) (.int .i64 (0)) (.string ⟨#[]⟩) (.slice A0 ((crashRd (l.tail.tail)).1).length q0) (.slice A1 ((crashRd (l.tail.tail)).2.1).length q1))).low HA3.out.kp.1)
  clear n0 n1
  go_wp2
  obtain ⟨s0, s1, s2, s3, s4, s5⟩ := HS.out.bx.cells
  simp only [six] at s0 s1 s2 s3 s4 s5
  clear c0 c1 c2 c3 c4 c5
  refine bodyPost_ret (v := .agg #[.int .u8 (1 + hd l % 9), .int .u8 (1 + hd l.tail % 5), .int .i64 (0), .string ⟨#[]⟩, .slice A0 ((crashRd (l.tail.tail)).1).length q0, .slice A1 ((crashRd (l.tail.tail)).2.1).length q1]) (by simp only [results, Tryd.results18]; simp [go_sem, s0, s1, s2, s3, s4, s5]) rfl ⟨_, _, rfl, HO2.out, HO3.out, HS.out.rd, HS.out.kp, HNE.out⟩

set_option maxHeartbeats 4000000 in
set_option maxRecDepth 100000 in
theorem act_8 (w0 w : World) (g : Nat) (l : List UInt8) (h : Rd w0 w g l) (hk : hd l % 9 = 7) :
    Calls Tryd.prog 18 #[.pointer (some ⟨g, 0, none⟩)] w (ActPost w0 w g ⟨1 + hd l % 9, 1 + hd l.tail % 5, 0, [], [], []⟩ (l.tail.tail)) := by
  have hx := hd_bd l
  have hglt := h.lt
  have hge := h.ge
  have hgg : w.heap.size ≠ g := by omega
  have hww : w0.heap.size ≤ w.heap.size := by omega
  have hT : PScriptTotal.script_takes.f (1 + hd l % 9) = some 1 := by rw [hk]; rfl
  have HT := Lib.hid hT
  clear hT hk
  have ha : At w0 w (w.alloc (.cells #[.int .u8 0, .int .u8 0, .int .i64 0, .string ⟨#[]⟩, .slice none 0 0, .slice none 0 0] 26)) g w.heap.size l (.int .u8 0) (.int .u8 0) (.int .i64 0) (.string ⟨#[]⟩) (.slice none 0 0) (.slice none 0 0) :=
    ⟨h.old (Below.heap_alloc w _ g hglt) (h.below.alloc h.below.size _), KeepBut.of_below ((Below.refl _ _).alloc (Nat.le_refl _) _) g none, ⟨heap_alloc_new w _⟩⟩
  have HA := Lib.hid ha
  clear ha
  go_enter Tryd.func18, Tryd.ntmps18
  go_wp2_with fail
  refine (byte_any w0 _ g l HA.out.rd).mono ?_
  rintro e w1 ⟨rfl, h1, k1, z1⟩
  have HA1 := Lib.hid (HA.out.call h1 k1 hgg)
  clear h1 k1 z1
  obtain ⟨c0, c1, c2, c3, c4, c5⟩ := HA1.out.bx.cells
  have f0 := HA1.out.bx.free 0
  go_wp2_with fail
  refine (PScriptTotal.script_takes.calls _ 1 _ HT.out).mono ?_
  rintro e w2 ⟨rfl, hdr⟩
  have HA2 := Lib.hid ((HA1.out.set0 hgg hww (Nat.le_refl _) (.int .u8 (1 + hd l % 9))).drawn hdr)
  clear hdr c0 c1 c2 c3 c4 c5 f0
  have b3 := hd_bd (l.tail)
  go_wp2_with fail
  refine (byte_any w0 _ g (l.tail) HA2.out.rd).mono ?_
  rintro e w3 ⟨rfl, h1, k1, z1⟩
  have HB3 := Lib.hid (HA2.out.call h1 k1 hgg)
  clear h1 k1 z1
  obtain ⟨c0, c1, c2, c3, c4, c5⟩ := HB3.out.bx.cells
  have f1 := HB3.out.bx.free 1
  have HA3 := Lib.hid (HB3.out.set1 hgg hww (Nat.le_refl _) (.int .u8 (1 + hd l.tail % 5)))
  obtain ⟨c0, c1, c2, c3, c4, c5⟩ := HA3.out.bx.cells
  have f0 := HA3.out.bx.free 0
  have f1 := HA3.out.bx.free 1
  have f2 := HA3.out.bx.free 2
  have f3 := HA3.out.bx.free 3
  have f4 := HA3.out.bx.free 4
  have f5 := HA3.out.bx.free 5
  have HS := Lib.hid (HA3.out.fin hgg hww (Nat.le_refl _))
  go_wp2
  refine bodyPost_ret (v := .agg #[.int .u8 (1 + hd l % 9), .int .u8 (1 + hd l.tail % 5), .int .i64 (0), .string ⟨#[]⟩, .slice none 0 0, .slice none 0 0]) (by simp [results, Tryd.results18, go_sem, *]) rfl ⟨_, _, rfl, Own.nil _ _, Own.nil _ _, HS.out.rd, HS.out.kp, .inl rfl⟩

set_option maxHeartbeats 4000000 in
set_option maxRecDepth 100000 in
theorem act_9 (w0 w : World) (g : Nat) (l : List UInt8) (h : Rd w0 w g l) (hk : hd l % 9 = 8) :
    Calls Tryd.prog 18 #[.pointer (some ⟨g, 0, none⟩)] w (ActPost w0 w g ⟨1 + hd l % 9, hd l.tail % 32, hd (l.tail.tail), [], [], []⟩ (l.tail.tail.tail)) := by
  have hx := hd_bd l
  have hglt := h.lt
  have hge := h.ge
  have hgg : w.heap.size ≠ g := by omega
  have hww : w0.heap.size ≤ w.heap.size := by omega
  have hT : PScriptTotal.script_takes.f (1 + hd l % 9) = some 6 := by rw [hk]; rfl
  have HT := Lib.hid hT
  clear hT hk
  have ha : At w0 w (w.alloc (.cells #[.int .u8 0, .int .u8 0, .int .i64 0, .string ⟨#[]⟩, .slice none 0 0, .slice none 0 0] 26)) g w.heap.size l (.int .u8 0) (.int .u8 0) (.int .i64 0) (.string ⟨#[]⟩) (.slice none 0 0) (.slice none 0 0) :=
    ⟨h.old (Below.heap_alloc w _ g hglt) (h.below.alloc h.below.size _), KeepBut.of_below ((Below.refl _ _).alloc (Nat.le_refl _) _) g none, ⟨heap_alloc_new w _⟩⟩
  have HA := Lib.hid ha
  clear ha
  go_enter Tryd.func18, Tryd.ntmps18
  go_wp2_with fail
  refine (byte_any w0 _ g l HA.out.rd).mono ?_
  rintro e w1 ⟨rfl, h1, k1, z1⟩
  have HA1 := Lib.hid (HA.out.call h1 k1 hgg)
  clear h1 k1 z1
  obtain ⟨c0, c1, c2, c3, c4, c5⟩ := HA1.out.bx.cells
  have f0 := HA1.out.bx.free 0
  go_wp2_with fail
  refine (PScriptTotal.script_takes.calls _ 6 _ HT.out).mono ?_
  rintro e w2 ⟨rfl, hdr⟩
  have HA2 := Lib.hid ((HA1.out.set0 hgg hww (Nat.le_refl _) (.int .u8 (1 + hd l % 9))).drawn hdr)
  clear hdr c0 c1 c2 c3 c4 c5 f0
  have b3 := hd_bd (l.tail)
  go_wp2_with fail
  refine (byte_any w0 _ g (l.tail) HA2.out.rd).mono ?_
  rintro e w3 ⟨rfl, h1, k1, z1⟩
  have HB3 := Lib.hid (HA2.out.call h1 k1 hgg)
  clear h1 k1 z1
  obtain ⟨c0, c1, c2, c3, c4, c5⟩ := HB3.out.bx.cells
  have f1 := HB3.out.bx.free 1
  have HA3 := Lib.hid (HB3.out.set1 hgg hww (Nat.le_refl _) (.int .u8 (hd l.tail % 32)))
  have b4 := hd_bd (l.tail.tail)
  go_wp2_with fail
  refine (byte_any w0 _ g (l.tail.tail) HA3.out.rd).mono ?_
  rintro e w4 ⟨rfl, h1, k1, z1⟩
  have HB4 := Lib.hid (HA3.out.call h1 k1 hgg)
  clear h1 k1 z1
  obtain ⟨c0, c1, c2, c3, c4, c5⟩ := HB4.out.bx.cells
  have f2 := HB4.out.bx.free 2
  have HA4 := Lib.hid (HB4.out.set2 hgg hww (Nat.le_refl _) (.int .i64 (hd (l.tail.tail))))
  obtain ⟨c0, c1, c2, c3, c4, c5⟩ := HA4.out.bx.cells
  have f0 := HA4.out.bx.free 0
  have f1 := HA4.out.bx.free 1
  have f2 := HA4.out.bx.free 2
  have f3 := HA4.out.bx.free 3
  have f4 := HA4.out.bx.free 4
  have f5 := HA4.out.bx.free 5
  have HS := Lib.hid (HA4.out.fin hgg hww (Nat.le_refl _))
  go_wp2
  refine bodyPost_ret (v := .agg #[.int .u8 (1 + hd l % 9), .int .u8 (hd l.tail % 32), .int .i64 (hd (l.tail.tail)), .string ⟨#[]⟩, .slice none 0 0, .slice none 0 0]) (by simp [results, Tryd.results18, go_sem, *]) rfl ⟨_, _, rfl, Own.nil _ _, Own.nil _ _, HS.out.rd, HS.out.kp, .inl rfl⟩

end Go.Proofs.YtjipfdabkncnmaaDoor.S

/- The crash's two lists as the reader grows them: rows of the call's own, kept apart from what was there. -/
import Derived.Test.YtjipfdabkncnmaaDoorSc
import Derived.Deep.RegionHeld3
import Derived.Deep.RegionWith
import Derived.Deep.LoopGhost
namespace Go.Proofs.YtjipfdabkncnmaaDoor.S
open Go.RowKit Go.Proofs.YtjipfdabkncnmaaDoorW.PrintWords Go.Proofs.YtjipfdabkncnmaaDoorW.PrintLast Go.Proofs.YtjipfdabkncnmaaDoorW.PrintMore
set_option linter.unusedVariables false
set_option linter.unusedSimpArgs false

theorem readCrash_succ (n : Nat) : ∀ (l : List UInt8) (k t ks ts : List Int) (r : List UInt8), readCrash n l k t = (ks, ts, r) →
    readCrash (n + 1) l k t = (ks ++ [hd r], ts ++ [hd r.tail], r.tail.tail) := by
  induction n with
  | zero => intro l k t ks ts r h; simp only [readCrash, Prod.mk.injEq] at h; obtain ⟨rfl, rfl, rfl⟩ := h; rfl
  | succ n ih => intro l k t ks ts r h; rw [readCrash] at h; rw [readCrash, ih _ _ _ _ _ _ h]
/-- a row of the call's own of numbers. -/
def Own (w : World) (B : Nat) (u : Value) (xs : List Int) : Prop := w.ownsRow B 3 1 u xs.length (nums .i64 xs)
theorem Own.keep {w w' : World} {B g : Nat} {u : Value} {xs : List Int} (h : Own w B u xs) (k : KeepBut w w' g none) (hne : u.ownBlock ≠ some g) : Own w' B u xs :=
  k.own h hne (by cases u.ownBlock <;> simp)

theorem Own.drew {w : World} {B : Nat} {u : Value} {xs : List Int} (h : Own w B u xs) : Own w.drew B u xs := World.ownsRow.drew h
/-- the state of the loop. -/
structure CrashAt (w0 w wr : World) (g gb : Nat) (u0 u1 : Value) (ks ts : List Int) (r : List UInt8) : Prop where
  rd : Rd w0 wr g r
  kp : KeepBut w wr g none
  box : wr.heap[gb]? = some (.cells #[u0, u1] 24 (0, 0))
  o0 : Own wr w.heap.size u0 ks
  o1 : Own wr w.heap.size u1 ts
  ne : u0.ownBlock = none ∨ u0.ownBlock ≠ u1.ownBlock
  gbk : w.heap.size ≤ gb

theorem int_info : (Tryd.prog.info? 3).map (fun i => (i.zero, i.size, i.bytes)) = some (some (.int .i64 0), 1, 8) := by kernel_rfl


theorem keep_cell {w w1 : World} {g gb j : Nat} {u : Value} (k : KeepBut w w1 g none) (h : w.cell? ⟨gb, j, none⟩ = some u) (hne : gb ≠ g) : w1.cell? ⟨gb, j, none⟩ = some u := by
  have hlt := World.block_lt_of_cell? w _ h
  have := k.2 gb hlt hne (by simp)
  simp only [World.cell?, this]
  simpa [World.cell?] using h
theorem Rd.drew {w0 w : World} {g : Nat} {l : List UInt8} (h : Rd w0 w g l) : Rd w0 w.drew g l := ⟨h.out, h.below.drew⟩
theorem Rd.old {w0 w w1 : World} {g : Nat} {l : List UInt8} (h : Rd w0 w g l) (hb : w1.heap[g]? = w.heap[g]?) (hB : Below w0.heap.size w0 w1) : Rd w0 w1 g l := by
  obtain ⟨⟨A, c, h1, h2, h3, h4⟩, _⟩ := h
  exact ⟨⟨A, c, by rw [hb]; exact h1, h2, h3, h4⟩, hB⟩
theorem Rd.ge {w0 w : World} {g : Nat} {l : List UInt8} (h : Rd w0 w g l) : w0.heap.size ≤ g := by
  obtain ⟨⟨A, c, h1, h2, h3, h4⟩, _⟩ := h
  exact h2
theorem Rd.lt {w0 w : World} {g : Nat} {l : List UInt8} (h : Rd w0 w g l) : g < w.heap.size := by
  obtain ⟨⟨A, c, h1, h2, h3, h4⟩, _⟩ := h
  exact blk_lt h1
theorem Rd.blk {w0 w : World} {g : Nat} {l : List UInt8} (h : Rd w0 w g l) : ∃ cs, w.heap[g]? = some (.cells cs 45 (0, 0)) := by
  obtain ⟨⟨A, c, h1, h2, h3, h4⟩, _⟩ := h
  exact ⟨_, h1⟩
theorem Own.ne_blk {w : World} {B g t : Nat} {u : Value} {xs : List Int} {cs : Array Value} (h : Own w B u xs) (hb : w.heap[g]? = some (.cells cs t (0, 0))) (ht : t ≠ 3) : u.ownBlock ≠ some g := by
  rcases h.2 with ⟨rfl, _⟩ | ⟨b, cap, cur, rfl, _, hh, _⟩
  · simp [Value.ownBlock]
  · intro e
    have : b = g := by simpa [Value.ownBlock] using e
    subst this
    rw [hb] at hh
    injection hh with hh
    injection hh with _ hh
    exact ht hh

theorem keep_box {w w1 : World} {g gb j : Nat} {u : Value} (k : KeepBut w w1 g none) (h : w.cell? ⟨gb, j, none⟩ = some u) (hf : w.frozen? ⟨gb, j, none⟩ = false) (hne : gb ≠ g) :
    w1.cell? ⟨gb, j, none⟩ = some u ∧ w1.frozen? ⟨gb, j, none⟩ = false := by
  have hlt := World.block_lt_of_cell? w _ h
  have := k.2 gb hlt hne (by simp)
  simp only [World.cell?, World.frozen?, this]
  exact ⟨by simpa [World.cell?] using h, by simpa [World.frozen?] using hf⟩
theorem alloc_box {w : World} {gb j : Nat} {u : Value} (o : Obj) (h : w.cell? ⟨gb, j, none⟩ = some u) (hf : w.frozen? ⟨gb, j, none⟩ = false) :
    (w.alloc o).cell? ⟨gb, j, none⟩ = some u ∧ (w.alloc o).frozen? ⟨gb, j, none⟩ = false := by
  have hlt := World.block_lt_of_cell? w _ h
  have := Below.heap_alloc w o gb hlt
  simp only [World.cell?, World.frozen?, this]
  exact ⟨by simpa [World.cell?] using h, by simpa [World.frozen?] using hf⟩
theorem grow_box {w w1 : World} {gb j : Nat} {u v : Value} (k : w.grownBy w1 v.ownBlock) (hlt : gb < w.heap.size) (hne : v.ownBlock ≠ some gb) (h : w.cell? ⟨gb, j, none⟩ = some u) (hf : w.frozen? ⟨gb, j, none⟩ = false) :
    w1.cell? ⟨gb, j, none⟩ = some u ∧ w1.frozen? ⟨gb, j, none⟩ = false := by
  have := k.block gb hlt (Ne.symm hne)
  simp only [World.cell?, World.frozen?, this]
  exact ⟨by simpa [World.cell?] using h, by simpa [World.frozen?] using hf⟩

theorem ne_swap {a b : Option Nat} (h : a = none ∨ a ≠ b) : b = none ∨ b ≠ a := by
  rcases h with rfl | h
  · cases b <;> simp
  · exact .inr (Ne.symm h)
theorem below_grown {B : Nat} {w w1 : World} {row : Option Nat} (hB : B ≤ w.heap.size) (h : w.grownBy w1 row) (hr : ∀ k, row = some k → B ≤ k) {w0 : World} (hb : Below B w0 w) : Below B w0 w1 := hb.grown h hB hr
theorem half0 {w0 w wr wb wa : World} {g gb gg cap : Nat} {u0 u1 : Value} {ks ts : List Int} {r : List UInt8} {x : Int} (HA : CrashAt w0 w wr g gb u0 u1 ks ts r) (hrb : Rd w0 wb g r.tail) (kb : KeepBut wr.drew wb g none)
    (hown1 : wa.ownsRow w.heap.size 3 1 (.slice (some ⟨gg, 0, none⟩) (ks.length + 1) cap) (ks.length + 1) (nums .i64 ks ++ [.int .i64 x])) (hgrow : (wb.alloc (.cells #[.int .i64 x] 3)).grownBy wa u0.ownBlock) (hat1 : u0.ownBlock = some gg ∨ gg = wb.heap.size + 1) (hgg : gb ≠ g) (hww : w0.heap.size ≤ w.heap.size) :
    CrashAt w0 w (wa.setCell ⟨gb, 0, none⟩ (.slice (some ⟨gg, 0, none⟩) (ks.length + 1) cap)) g gb (.slice (some ⟨gg, 0, none⟩) (ks.length + 1) cap) u1 (ks ++ [x]) ts r.tail := by
  obtain ⟨hrd, hkp, hbox, h0, h1, hne, hgbk⟩ := HA
  obtain ⟨csg, hgblk⟩ := hrd.blk
  have hu0g : u0.ownBlock ≠ some g := h0.ne_blk hgblk (by decide)
  have hu1g : u1.ownBlock ≠ some g := h1.ne_blk hgblk (by decide)
  have hu0b : u0.ownBlock ≠ some gb := h0.ne_blk hbox (by decide)
  have hu1b : u1.ownBlock ≠ some gb := h1.ne_blk hbox (by decide)
  have hsz : wr.heap.size ≤ wb.heap.size := kb.1
  have hglt : g < wr.heap.size := blk_lt hgblk
  have hblt : gb < wr.heap.size := blk_lt hbox
  have hboxb : wb.heap[gb]? = some (.cells #[u0, u1] 24 (0, 0)) := kb.blk hbox hgg (by simp)
  have hboxc : (wb.alloc (.cells #[.int .i64 x] 3)).heap[gb]? = some (.cells #[u0, u1] 24 (0, 0)) := (Below.heap_alloc wb _ gb (by omega)).trans hboxb
  have hboxa : wa.heap[gb]? = some (.cells #[u0, u1] 24 (0, 0)) := (hgrow.block gb (by simp; omega) (fun e => hu0b e.symm)).trans hboxc
  have hga : wa.heap[g]? = wb.heap[g]? := (hgrow.block g (by simp; omega) (fun e => hu0g e.symm)).trans (Below.heap_alloc wb _ g (by omega))
  have hOb : Own wb w.heap.size u1 ts := (h1.drew).keep kb hu1g
  have hOc : (wb.alloc (.cells #[.int .i64 x] 3)).ownsRow w.heap.size 3 1 u1 ts.length (nums .i64 ts) := World.ownsRow.alloc hOb _
  have hOa : Own wa w.heap.size u1 ts := World.ownsRow.kept hOc hgrow ((ne_swap hne))
  have hlo : ∀ k, u0.ownBlock = some k → w.heap.size ≤ k := fun k hk => own_base h0 k hk
  have hBa : Below w0.heap.size w0 wa := (hrb.below.alloc hrb.below.size _).grown hgrow (by have := hrb.below.size; simp; omega) (fun k hk => by have := hlo k hk; omega)
  have hgblt : gb < wa.heap.size := blk_lt hboxa
  have hrow : ∀ k, (Value.slice (some ⟨gg, 0, none⟩) (ks.length + 1) cap).ownBlock = some k → k = gg := by intro k hk; simpa [Value.ownBlock] using hk.symm
  have hggb : gg ≠ gb := by
    have := Own.ne_blk (u := Value.slice (some ⟨gg, 0, none⟩) (ks.length + 1) cap) (xs := ks ++ [x]) (w := wa) (B := w.heap.size) (by unfold Own; rw [nums_append, List.length_append]; exact hown1) hboxa (by decide)
    simpa [Value.ownBlock] using this
  refine ⟨hrb.old ?_ (hBa.setCell (by simp; omega) _), ?_, ?_, ?_, ?_, ?_, hgbk⟩
  · exact (Below.heap_setCell wa ⟨gb, 0, none⟩ _ g (Ne.symm hgg)).trans hga
  · refine ⟨?_, fun i hi hg hr => ?_⟩
    · have := hkp.1; have := hgrow.size; simp at this; simp [World.setCell]; omega
    · have hi2 : i < wr.heap.size := Nat.lt_of_lt_of_le hi hkp.1
      rw [Below.heap_setCell wa ⟨gb, 0, none⟩ _ i (by simp; omega), hgrow.block i (by simp; omega) (fun e => by have := hlo i e.symm; omega), Below.heap_alloc wb _ i (by omega), kb.2 i hi2 hg (by simp)]
      exact hkp.2 i hi hg hr
  · simp [World.setCell, Array.getElem?_modify, hboxa]
  · unfold Own; rw [nums_append, List.length_append]; exact own_setCell hown1 (p := ⟨gb, _, none⟩) (by simp [Value.ownBlock]; omega) _
  · exact own_setCell hOa (p := ⟨gb, _, none⟩) (Ne.symm hu1b) _
  · right
    intro e
    rcases hat1 with e1 | e1
    · rcases hne with e2 | e2
      · rw [e2] at e1; cases e1
      · exact e2 (e1.trans e)
    · have := own_lt hOb gg (e.symm)
      omega
theorem below_grown1 {B : Nat} {w w1 : World} {row : Option Nat} (hB : B ≤ w.heap.size) (h : w.grownBy w1 row) (hr : ∀ k, row = some k → B ≤ k) {w0 : World} (hb : Below B w0 w) : Below B w0 w1 := hb.grown h hB hr
theorem half1 {w0 w wr wb wa : World} {g gb gg cap : Nat} {u0 u1 : Value} {ks ts : List Int} {r : List UInt8} {x : Int} (HA : CrashAt w0 w wr g gb u0 u1 ks ts r) (hrb : Rd w0 wb g r.tail) (kb : KeepBut wr.drew wb g none)
    (hown1 : wa.ownsRow w.heap.size 3 1 (.slice (some ⟨gg, 0, none⟩) (ts.length + 1) cap) (ts.length + 1) (nums .i64 ts ++ [.int .i64 x])) (hgrow : (wb.alloc (.cells #[.int .i64 x] 3)).grownBy wa u1.ownBlock) (hat1 : u1.ownBlock = some gg ∨ gg = wb.heap.size + 1) (hgg : gb ≠ g) (hww : w0.heap.size ≤ w.heap.size) :
    CrashAt w0 w (wa.setCell ⟨gb, 1, none⟩ (.slice (some ⟨gg, 0, none⟩) (ts.length + 1) cap)) g gb u0 (.slice (some ⟨gg, 0, none⟩) (ts.length + 1) cap) ks (ts ++ [x]) r.tail := by
  obtain ⟨hrd, hkp, hbox, h0, h1, hne, hgbk⟩ := HA
  obtain ⟨csg, hgblk⟩ := hrd.blk
  have hu0g : u0.ownBlock ≠ some g := h0.ne_blk hgblk (by decide)
  have hu1g : u1.ownBlock ≠ some g := h1.ne_blk hgblk (by decide)
  have hu0b : u0.ownBlock ≠ some gb := h0.ne_blk hbox (by decide)
  have hu1b : u1.ownBlock ≠ some gb := h1.ne_blk hbox (by decide)
  have hsz : wr.heap.size ≤ wb.heap.size := kb.1
  have hglt : g < wr.heap.size := blk_lt hgblk
  have hblt : gb < wr.heap.size := blk_lt hbox
  have hboxb : wb.heap[gb]? = some (.cells #[u0, u1] 24 (0, 0)) := kb.blk hbox hgg (by simp)
  have hboxc : (wb.alloc (.cells #[.int .i64 x] 3)).heap[gb]? = some (.cells #[u0, u1] 24 (0, 0)) := (Below.heap_alloc wb _ gb (by omega)).trans hboxb
  have hboxa : wa.heap[gb]? = some (.cells #[u0, u1] 24 (0, 0)) := (hgrow.block gb (by simp; omega) (fun e => hu1b e.symm)).trans hboxc
  have hga : wa.heap[g]? = wb.heap[g]? := (hgrow.block g (by simp; omega) (fun e => hu1g e.symm)).trans (Below.heap_alloc wb _ g (by omega))
  have hOb : Own wb w.heap.size u0 ks := (h0.drew).keep kb hu0g
  have hOc : (wb.alloc (.cells #[.int .i64 x] 3)).ownsRow w.heap.size 3 1 u0 ks.length (nums .i64 ks) := World.ownsRow.alloc hOb _
  have hOa : Own wa w.heap.size u0 ks := World.ownsRow.kept hOc hgrow (hne)
  have hlo : ∀ k, u1.ownBlock = some k → w.heap.size ≤ k := fun k hk => own_base h1 k hk
  have hBa : Below w0.heap.size w0 wa := (hrb.below.alloc hrb.below.size _).grown hgrow (by have := hrb.below.size; simp; omega) (fun k hk => by have := hlo k hk; omega)
  have hgblt : gb < wa.heap.size := blk_lt hboxa
  have hrow : ∀ k, (Value.slice (some ⟨gg, 0, none⟩) (ts.length + 1) cap).ownBlock = some k → k = gg := by intro k hk; simpa [Value.ownBlock] using hk.symm
  have hggb : gg ≠ gb := by
    have := Own.ne_blk (u := Value.slice (some ⟨gg, 0, none⟩) (ts.length + 1) cap) (xs := ts ++ [x]) (w := wa) (B := w.heap.size) (by unfold Own; rw [nums_append, List.length_append]; exact hown1) hboxa (by decide)
    simpa [Value.ownBlock] using this
  refine ⟨hrb.old ?_ (hBa.setCell (by simp; omega) _), ?_, ?_, ?_, ?_, ?_, hgbk⟩
  · exact (Below.heap_setCell wa ⟨gb, 1, none⟩ _ g (Ne.symm hgg)).trans hga
  · refine ⟨?_, fun i hi hg hr => ?_⟩
    · have := hkp.1; have := hgrow.size; simp at this; simp [World.setCell]; omega
    · have hi2 : i < wr.heap.size := Nat.lt_of_lt_of_le hi hkp.1
      rw [Below.heap_setCell wa ⟨gb, 1, none⟩ _ i (by simp; omega), hgrow.block i (by simp; omega) (fun e => by have := hlo i e.symm; omega), Below.heap_alloc wb _ i (by omega), kb.2 i hi2 hg (by simp)]
      exact hkp.2 i hi hg hr
  · simp [World.setCell, Array.getElem?_modify, hboxa]
  · exact own_setCell hOa (p := ⟨gb, _, none⟩) (Ne.symm hu0b) _
  · unfold Own; rw [nums_append, List.length_append]; exact own_setCell hown1 (p := ⟨gb, _, none⟩) (by simp [Value.ownBlock]; omega) _
  · right
    intro e
    rcases hat1 with e1 | e1
    · rcases hne with e2 | e2
      · rw [e2] at e; cases e
      · exact e2 (e.trans e1.symm)
    · have := own_lt hOb gg e
      omega

end Go.Proofs.YtjipfdabkncnmaaDoor.S

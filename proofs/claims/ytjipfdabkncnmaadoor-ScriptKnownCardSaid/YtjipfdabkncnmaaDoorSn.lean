/- One byte, two bytes, a text put behind a buffer's bytes: for a buffer of the call's own. -/
import Derived.Test.YtjipfdabkncnmaaDoorSl
import Derived.Test.YtjipfdabkncnmaaDoorShelf
namespace Go.Proofs.YtjipfdabkncnmaaDoor.S
open Go.RowKit Go.Proofs.YtjipfdabkncnmaaDoorW.PrintWords Go.Proofs.YtjipfdabkncnmaaDoorW.PrintLast Go.Proofs.YtjipfdabkncnmaaDoorW.PrintMore
set_option linter.unusedVariables false
set_option linter.unusedSimpArgs false

/-- bytes as the buffer's cells. -/
def bv (l : List UInt8) : List Value := l.map (fun c => Value.int .u8 (c.toNat : Int))
theorem bv_app (l m : List UInt8) : bv (l ++ m) = bv l ++ bv m := by simp [bv]
theorem bv_one (l : List UInt8) : ∀ v ∈ bv l, v.oneCell' = true := by
  intro v hv
  obtain ⟨c, _, rfl⟩ := List.mem_map.1 hv
  rfl
theorem bv_len (l : List UInt8) : (bv l).length = l.length := by simp [bv]
theorem bv_u8 (n : Int) (h : 0 ≤ n) (h2 : n < 256) : bv [u8 n] = [.int .u8 n] := by
  simp only [bv, u8, List.map]
  congr 2
  rw [Int.emod_eq_of_lt h h2]
  have : n.toNat < 256 := by omega
  simp [UInt8.toNat_ofNat, Nat.mod_eq_of_lt this]; omega

/-- the state of put: base w0, the buffer b, the act's box gb. -/
structure PS (w0 W : World) (b gb : Nat) (l : List UInt8) (c d e f g h : Value) : Prop where
  bf : Lib.IsBuffer 50 5 w0.heap.size b (bv l) W
  bl : Below w0.heap.size w0 W
  bx : W.heap[gb]? = some (.cells #[c, d, e, f, g, h] 26 (0, 0))
  ne : gb ≠ b
theorem PS.step {w0 W W' : World} {b gb : Nat} {l m : List UInt8} {c d e f g h : Value} (s : PS w0 W b gb l c d e f g h) (hb : Lib.IsBuffer 50 5 w0.heap.size b (bv l ++ bv m) W') (hl : Below w0.heap.size W W') (ho : Lib.OthersKept 5 (some b) W W') :
    PS w0 W' b gb (l ++ m) c d e f g h :=
  ⟨by rw [bv_app]; exact hb, s.bl.trans hl, ho gb _ s.bx (fun hh => s.ne (by injection hh)) (fun _ _ hh => by injection hh with _ h2; cases h2), s.ne⟩
theorem PS.cells {w0 W : World} {b gb : Nat} {l : List UInt8} {c d e f g h : Value} (s : PS w0 W b gb l c d e f g h) :
    W.cell? ⟨gb, 0, none⟩ = some c ∧ W.cell? ⟨gb, 1, none⟩ = some d ∧ W.cell? ⟨gb, 2, none⟩ = some e ∧ W.cell? ⟨gb, 3, none⟩ = some f ∧ W.cell? ⟨gb, 4, none⟩ = some g ∧ W.cell? ⟨gb, 5, none⟩ = some h := by
  have hh := s.bx
  refine ⟨?_, ?_, ?_, ?_, ?_, ?_⟩ <;> simp [World.cell?, hh]

theorem put_byte {w0 W : World} {b gb : Nat} {l : List UInt8} {c d e f g h : Value} (s : PS w0 W b gb l c d e f g h) (x : Int) (h0 : 0 ≤ x) (h1 : x < 256) (hl : l.length ≤ 100000000) :
    Calls Tryd.prog 35 #[.pointer (some ⟨b, 0, none⟩), .int .u8 x] W fun o w' => o = .returned .nilIface ∧ PS w0 w' b gb (l ++ [u8 x]) c d e f g h := by
  refine (Tryd.Buffer_WriteByte_k w0.heap.size b (bv l) x W s.bf s.bl.size (bv_one l) (by rw [bv_len]; omega)).mono ?_
  rintro o w' ⟨rfl, hb, hl, ho⟩
  exact ⟨rfl, s.step (by rw [bv_u8 x h0 h1]; exact hb) hl ho⟩
theorem byteCells_bv (l : List UInt8) : Lib.byteCells l = bv l := by
  simp [Lib.byteCells, bv]
theorem put_text {w0 W : World} {b gb : Nat} {l : List UInt8} {c d e f g h : Value} (s : PS w0 W b gb l c d e f g h) (t : List UInt8) (ht : t.length < 65536) (hl : l.length ≤ 100000000) :
    Calls Tryd.prog 37 #[.pointer (some ⟨b, 0, none⟩), .string ⟨t.toArray⟩] W fun o w' => (∃ v, o = .returned v) ∧ PS w0 w' b gb (l ++ t) c d e f g h := by
  refine (Tryd.Buffer_WriteString_k w0.heap.size b (bv l) ⟨t.toArray⟩ W s.bf s.bl.size (bv_one l) (by rw [bv_len, size_mk]; omega)).mono ?_
  rintro o w' ⟨rfl, hb, hl, ho⟩
  exact ⟨⟨_, rfl⟩, s.step (by simpa [byteCells_bv] using hb) hl ho⟩
/-- two bytes out of a fresh row. -/
theorem put_two {w0 W : World} {b gb : Nat} {l : List UInt8} {c d e f g h : Value} (s : PS w0 W b gb l c d e f g h) (x y : Int) (h0 : 0 ≤ x) (h1 : x < 256) (k0 : 0 ≤ y) (k1 : y < 256) (hl : l.length ≤ 100000000) (a : Nat) (cap : Nat)
    (hab : a ≠ b) (c0 : W.cell? ⟨a, 0, none⟩ = some (.int .u8 x)) (c1 : W.cell? ⟨a, 1, none⟩ = some (.int .u8 y)) :
    Calls Tryd.prog 36 #[.pointer (some ⟨b, 0, none⟩), .slice (some ⟨a, 0, none⟩) 2 cap] W fun o w' => (∃ v, o = .returned v) ∧ PS w0 w' b gb (l ++ [u8 x, u8 y]) c d e f g h := by
  refine (Tryd.Buffer_Write_any w0.heap.size b (bv l) [.int .u8 x, .int .u8 y] ⟨a, 0, none⟩ 2 cap W s.bf s.bl.size (bv_one l) rfl hab ?_ ?_ (by rw [bv_len]; omega)).mono ?_
  · intro j v hj
    rcases j with _ | _ | j
    · simp at hj; subst hj; simpa [Addr.add] using c0
    · simp at hj; subst hj; simpa [Addr.add] using c1
    · simp at hj
  · intro v hv; simp at hv; rcases hv with rfl | rfl <;> rfl
  · rintro o w' ⟨rfl, hb, hl, ho⟩
    have : bv [u8 x, u8 y] = [.int .u8 x, .int .u8 y] := by
      rw [show [u8 x, u8 y] = [u8 x] ++ [u8 y] from rfl, bv_app, bv_u8 x h0 h1, bv_u8 y k0 k1]; rfl
    exact ⟨⟨_, rfl⟩, s.step (by rw [this]; exact hb) hl ho⟩
end Go.Proofs.YtjipfdabkncnmaaDoor.S

/- script.Encode, walked: bytes and error are the plain model's, for any row of acts that is read. -/
import Derived.Test.YtjipfdabkncnmaaDoorSq
namespace Go.Proofs.YtjipfdabkncnmaaDoor.S
open Go.RowKit Go.Proofs.YtjipfdabkncnmaaDoorW.PrintWords Go.Proofs.YtjipfdabkncnmaaDoorW.PrintLast Go.Proofs.YtjipfdabkncnmaaDoorW.PrintMore
open PScriptTotal (S24 S26 k26 k24 z26)
set_option linter.unusedVariables false
set_option linter.unusedSimpArgs false

theorem buf_old {B b : Nat} {bs : List Value} {w w' : World} (h : Lib.IsBuffer 50 5 B b bs w) (hb : Below w.heap.size w w') : Lib.IsBuffer 50 5 B b bs w' := by
  obtain ⟨h1, v, lr, h2, h3, h4⟩ := h
  have hlt : b < w.heap.size := by
    rcases Nat.lt_or_ge b w.heap.size with h' | h'
    · exact h'
    · simp [Array.getElem?_eq_none h'] at h2
  exact ⟨h1, v, lr, (hb.block b hlt).trans h2, own_move h3 (fun k hk => hb.block k (own_lt h3 k hk)), h4⟩

/-- an act as it is read out of a row. -/
theorem act_at {w : World} {A : Option Addr} {xs : List SAct} (h : Kd.C k26 w A xs.length (xs.map toS)) (i : Nat) (hi : i < xs.length) :
    ∃ ad A4 c4 A5 c5 a, A = some ad ∧ xs[i]? = some a ∧ w.cell? (ad.add (i * 6)) = some (.int .u8 a.kind) ∧ w.cell? ⟨(ad.add (i * 6)).block, (ad.add (i * 6)).off + 1, none⟩ = some (.int .u8 a.node) ∧
      w.cell? ⟨(ad.add (i * 6)).block, (ad.add (i * 6)).off + 2, none⟩ = some (.int .i64 a.n) ∧ w.cell? ⟨(ad.add (i * 6)).block, (ad.add (i * 6)).off + 3, none⟩ = some (.string ⟨a.text.toArray⟩) ∧
      w.cell? ⟨(ad.add (i * 6)).block, (ad.add (i * 6)).off + 4, none⟩ = some (.slice A4 a.keep.length c4) ∧ w.cell? ⟨(ad.add (i * 6)).block, (ad.add (i * 6)).off + 5, none⟩ = some (.slice A5 a.torn.length c5) ∧
      (Kd.int .i64).C w A4 a.keep.length a.keep ∧ (Kd.int .i64).C w A5 a.torn.length a.torn := by
  obtain ⟨ad, A4, c4, A5, c5, e, h0, h1, h2, h3, h4, h5, l4, g4, l5, g5⟩ := PScriptTotal.at_T26 h (i : Int) (by omega) (by omega)
  have hg : xs[i]? = some xs[i] := List.getElem?_eq_getElem hi
  have hr : PScriptTotal.rd_T26 (xs.map toS) (i : Int) = toS xs[i] := by
    simp [PScriptTotal.rd_T26, List.getD, List.getElem?_map, hg]
  rw [hr] at h0 h1 h2 h3 h4 h5 l4 g4 l5 g5
  simp only [Int.toNat_natCast, toS] at h0 h1 h2 h3 h4 h5 g4 g5
  exact ⟨ad, A4, c4, A5, c5, xs[i], e, hg, h0, h1, h2, h3, h4, h5, g4, g5⟩

theorem sz_alloc (w : World) (o : Obj) : w.heap.size < (w.alloc o).heap.size := by
  show w.heap.size < (w.heap.push o).size
  rw [Array.size_push]; omega
/-- what Encode comes to. -/
def EncPost (w : World) (xs : List SAct) (e : Ending) (w' : World) : Prop :=
  ∃ v, e = .returned (.tuple #[v, .int .i64 (encode xs).2]) ∧ (Kd.int .u8).R 5 w' w.heap.size (fun _ => True) v (bi (encode xs).1) ∧ Below w.heap.size w w'
def EncRel (w : World) (xs : List SAct) (gk : Nat) (v : Value) (wr : World) : Prop :=
  ∃ i : Nat, v = .int .i64 (i : Int) ∧ gk + i = xs.length ∧ (∀ a ∈ xs.take i, plain a = true) ∧ Lib.IsBuffer 50 5 w.heap.size w.heap.size (bv (encAll (xs.take i))) wr ∧ Below w.heap.size w wr
theorem take_one {xs : List SAct} {i : Nat} {a : SAct} (h : xs[i]? = some a) : xs.take (i + 1) = xs.take i ++ [a] := by
  rw [List.take_add_one, h]; rfl
theorem encAll_app (l m : List SAct) : encAll (l ++ m) = encAll l ++ encAll m := by simp [encAll]
theorem encode_long (xs : List SAct) (h : 400 < xs.length) : encode xs = ([], 3) := by simp [encode, h]
theorem encode_not (xs : List SAct) (h : xs.length ≤ 400) (i : Nat) (a : SAct) (hi : xs[i]? = some a) (hp : plain a = false) : encode xs = ([], 1) := by
  have : xs.all plain = false := by
    rw [Bool.eq_false_iff]
    intro hh
    rw [List.all_eq_true] at hh
    have := hh a (List.mem_of_getElem? hi)
    rw [hp] at this; cases this
  simp [encode, this, show ¬ 400 < xs.length by omega]
theorem encode_all (xs : List SAct) (h : xs.length ≤ 400) (hp : ∀ a ∈ xs, plain a = true) : encode xs = (encAll xs, 0) := by
  have : xs.all plain = true := by rw [List.all_eq_true]; exact hp
  simp only [encode, this, if_true]
  rw [if_neg (by omega)]
theorem bytes_R {w : World} {B : Nat} {v : Value} {l : List UInt8} (h : w.ownsRow B 5 1 v (bv l).length (bv l)) : (Kd.int .u8).R 5 w B (fun _ => True) v (bi l) := by
  have e : bv l = (bi l).map (Value.int .u8) := by simp [bv, bi]
  rw [e] at h
  exact Kd.R_of_own (enc := Value.int .u8) (h1 := fun _ => rfl) (show w.ownsRow B 5 1 v (bi l).length ((bi l).map (Value.int .u8)) from by simpa using h) (fun _ _ => trivial)

set_option maxHeartbeats 4000000 in
set_option maxRecDepth 100000 in
theorem encode_any (w : World) (A : Option Addr) (c : Nat) (xs : List SAct) (hC : Kd.C k26 w A xs.length (xs.map toS)) (hc : xs.length ≤ c) (hn : ∀ a ∈ xs, 0 ≤ a.node) :
    Calls Tryd.prog 10 #[.slice A xs.length c] w (EncPost w xs) := by
  have HC := Lib.hid hC
  have HN := Lib.hid hn
  have hlen : xs.length ≤ 9223372036854775807 := by have := hC.2.1; omega
  clear hC hn hc
  go_enter Tryd.func10, Tryd.ntmps10
  by_cases h4 : 400 < xs.length
  · go_wp2
    refine bodyPost_ret (v := .tuple #[.slice none 0 0, .int .i64 3]) (by simp [results, Tryd.results10, go_sem]) rfl ?_
    rw [show EncPost w xs = fun e w' => EncPost w xs e w' from rfl]
    exact ⟨_, by rw [encode_long xs h4], by rw [encode_long xs h4]; exact Kd.R_nil _ _ _ _ _, Below.refl _ _⟩
  · have h5 : xs.length ≤ 400 := by omega
    clear h4
    have HB := Lib.hid (Lib.fresh_isBuffer 50 5 w)
    have HL : Hid (Below w.heap.size w (w.alloc (.cells #[.slice none 0 0, .int .i64 0, .int .i8 0] 50))) := Lib.hid ((Below.refl _ _).alloc (Nat.le_refl _) _)
    go_wp2
    go_loopg [12] xs.length (fun gk v wr => EncRel w xs gk v wr)
    case atStart => exact ⟨0, rfl, rfl, by simp, by simpa [encAll, bv] using HB.out, HL.out⟩
    case round =>
      obtain ⟨i, rfl, hgi, hpl, hbuf, hbel⟩ := hrel
      have HBU := Lib.hid hbuf
      have HBE := Lib.hid hbel
      have HP := Lib.hid hpl
      have HG := Lib.hid hgi
      clear hbuf hbel hpl hgi
      by_cases hi : i < xs.length
      · obtain ⟨ad, A4, c4, A5, c5, a, rfl, hg, g0, g1, g2, g3, f4, f5, g4, g5⟩ := act_at HC.out i hi
        replace g0 := (HBE.out.cell (World.block_lt_of_cell? w _ g0)).trans g0
        replace g1 := (HBE.out.cell (World.block_lt_of_cell? w _ g1)).trans g1
        replace g2 := (HBE.out.cell (World.block_lt_of_cell? w _ g2)).trans g2
        replace g3 := (HBE.out.cell (World.block_lt_of_cell? w _ g3)).trans g3
        replace f4 := (HBE.out.cell (World.block_lt_of_cell? w _ f4)).trans f4
        replace f5 := (HBE.out.cell (World.block_lt_of_cell? w _ f5)).trans f5
        have HGA := Lib.hid hg
        have H4 := Lib.hid g4
        have H5 := Lib.hid g5
        clear hg g4 g5
        have hna : 0 ≤ a.node := HN.out a (List.mem_of_getElem? HGA.out)
        go_wp2_with fail
        generalize hW2 : wr.alloc (Obj.cells #[Value.int IntKind.u8 a.kind, Value.int IntKind.u8 a.node, Value.int IntKind.i64 a.n, Value.string { data := a.text.toArray }, Value.slice A4 a.keep.length c4, Value.slice A5 a.torn.length c5] 26) = W2
        have hbe2 : Below w.heap.size w W2 := by rw [← hW2]; exact HBE.out.alloc HBE.out.size _
        have hbox : W2.heap[wr.heap.size]? = some (.cells #[Value.int IntKind.u8 a.kind, Value.int IntKind.u8 a.node, Value.int IntKind.i64 a.n, Value.string { data := a.text.toArray }, Value.slice A4 a.keep.length c4, Value.slice A5 a.torn.length c5] 26 (0, 0)) := by rw [← hW2]; exact heap_alloc_new wr _
        have hbu2 : Lib.IsBuffer 50 5 w.heap.size w.heap.size (bv (encAll (List.take i xs))) W2 := by rw [← hW2]; exact HBU.out.alloc _
        have hsz : wr.heap.size < W2.heap.size := by rw [← hW2]; exact sz_alloc _ _
        clear hW2 g0 g1 g2 g3 f4 f5
        refine (plain_any W2 a A4 A5 c4 c5 hna (Kd.C_below H4.out hbe2) (Kd.C_below H5.out hbe2)).mono ?_
        rintro e w3 ⟨rfl, hb3⟩
        have hbox3 : w3.heap[wr.heap.size]? = _ := (hb3.block _ hsz).trans hbox
        have hbu3 := buf_old hbu2 hb3
        have hbe3 : Below w.heap.size w w3 := hbe2.trans (hb3.mono hbe2.size)
        have k0 : w3.cell? ⟨wr.heap.size, 0, none⟩ = some (Value.int IntKind.u8 a.kind) := by simp [World.cell?, hbox3]
        have k1 : w3.cell? ⟨wr.heap.size, 1, none⟩ = some (Value.int IntKind.u8 a.node) := by simp [World.cell?, hbox3]
        have k2 : w3.cell? ⟨wr.heap.size, 2, none⟩ = some (Value.int IntKind.i64 a.n) := by simp [World.cell?, hbox3]
        have k3 : w3.cell? ⟨wr.heap.size, 3, none⟩ = some (Value.string { data := a.text.toArray }) := by simp [World.cell?, hbox3]
        have k4 : w3.cell? ⟨wr.heap.size, 4, none⟩ = some (Value.slice A4 a.keep.length c4) := by simp [World.cell?, hbox3]
        have k5 : w3.cell? ⟨wr.heap.size, 5, none⟩ = some (Value.slice A5 a.torn.length c5) := by simp [World.cell?, hbox3]
        have HBU3 := Lib.hid hbu3
        have HBE3 := Lib.hid hbe3
        clear hbe2 hbox hbu2 hb3 hbox3 hbu3 hbe3 hsz W2
        cases hp : plain a
        · have HPA := Lib.hid hp
          clear hp
          go_wp2
          refine bodyPost_ret (v := .tuple #[.slice none 0 0, .int .i64 1]) (by simp [results, Tryd.results10, go_sem]) rfl ?_
          exact ⟨_, by rw [encode_not xs h5 i a HGA.out HPA.out], by rw [encode_not xs h5 i a HGA.out HPA.out]; exact Kd.R_nil _ _ _ _ _, HBE3.out⟩
        · have HPA := Lib.hid hp
          clear hp
          go_wp2_with fail
          refine (put_any w w3 w.heap.size (encAll (List.take i xs)) a A4 A5 c4 c5 HBU3.out HBE3.out (by have := encAll_length _ HP.out; simp at this; omega) H4.out H5.out hna HPA.out).mono ?_
          rintro e w4 ⟨⟨v4, rfl⟩, hbu4, hbe4⟩
          have HBU4 := Lib.hid hbu4
          have HBE4 := Lib.hid hbe4
          clear hbu4 hbe4 k0 k1 k2 k3 k4 k5
          go_wp2
          go_roundg (xs.length - (i + 1))
          case measure => have := HG.out; omega
          case rel =>
            refine ⟨i + 1, by simp, by omega, ?_, ?_, HBE4.out⟩
            · rw [take_one HGA.out]
              intro b hb
              rw [List.mem_append, List.mem_singleton] at hb
              rcases hb with hb | rfl
              · exact HP.out b hb
              · exact HPA.out
            · rw [take_one HGA.out, encAll_app]
              simpa [encAll] using HBU4.out
      · have hie : i = xs.length := by have := HG.out; omega
        subst hie
        clear hi
        go_wp2_with fail
        refine (Tryd.Buffer_Bytes w.heap.size w.heap.size (bv (encAll (List.take xs.length xs))) wr HBU.out).mono ?_
        rintro e w5 ⟨v, rfl, ho, n, rfl⟩
        have HO := Lib.hid ho
        clear ho
        go_wp2
        refine bodyPost_ret (v := .tuple #[v, .int .i64 0]) (by simp [results, Tryd.results10, go_sem]) rfl ?_
        have hall : ∀ a ∈ xs, plain a = true := by have := HP.out; rwa [List.take_length] at this
        have ho := HO.out
        rw [List.take_length] at ho
        exact ⟨_, by rw [encode_all xs h5 hall], by rw [encode_all xs h5 hall]; exact bytes_R ho, pw_below_drewN HBE.out _⟩
end Go.Proofs.YtjipfdabkncnmaaDoor.S

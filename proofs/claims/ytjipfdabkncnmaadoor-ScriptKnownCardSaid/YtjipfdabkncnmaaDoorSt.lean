/- awake, walked: it comes to true. -/
import Derived.Test.YtjipfdabkncnmaaDoorSr
import Derived.Test.YtjipfdabkncnmaaDoorSs
import Derived.Lib.SlBytesConst
import Derived.Lib.ConvBytes
/- awake: the chapter's first acts are decoded, and encoded. -/
namespace Go.Proofs.YtjipfdabkncnmaaDoor.S
open Go.RowKit Go.Proofs.YtjipfdabkncnmaaDoorW.PrintWords Go.Proofs.YtjipfdabkncnmaaDoorW.PrintLast Go.Proofs.YtjipfdabkncnmaaDoorW.PrintMore
open PScriptTotal (S24 S26 k26 k24 z26)
set_option linter.unusedVariables false
set_option linter.unusedSimpArgs false

def someActs : List SAct := [⟨1, 2, 0, [97, 98], [], []⟩, ⟨2, 0, 5, [], [], []⟩, ⟨5, 1, 12, [], [], []⟩]
def AwPost (w : World) (e : Ending) (w' : World) : Prop := e = .returned (.bool true) ∧ Below w.heap.size w w'
theorem some_any (w : World) : Calls Tryd.prog 27 #[] w fun e w' => ∃ v, e = .returned v ∧ Kd.S k26 26 w' w.heap.size (fun _ => True) v (someActs.map toS) ∧ Below w.heap.size w w' :=
  PScriptTotal.wapentakelaw26_some.calls (someActs.map toS) w rfl
/-- a row of bytes is read, out of its cells. -/
theorem row_C {W : World} {g : Nat} {l : List UInt8} {cells : Array Value} {t : TypeId} {fz : Nat × Nat} (hg : W.heap[g]? = some (.cells cells t fz)) (hl : l.length ≤ 9223372036854775807) (hc : ∀ j : Nat, j < l.length → cells[j]? = some (.int .u8 ((l.getD j 0).toNat : Int))) :
    Kd.C (Kd.int .u8) W (some ⟨g, 0, none⟩) l.length (bi l) := by
  refine ⟨by simp [bi], hl, fun hn => ⟨_, rfl, fun j p hp => ⟨[.int .u8 p], rfl, ⟨rfl, ?_⟩⟩⟩⟩
  intro i u hu
  have hi : i = 0 := by rcases i with _ | i; · rfl
                        · simp at hu
  subst hi
  simp only [List.getElem?_cons_zero, Option.some.injEq] at hu
  subst hu
  have hj : j < l.length := by
    rcases Nat.lt_or_ge j l.length with h | h
    · exact h
    · simp [bi, List.getElem?_eq_none h] at hp
  have e1 := hc j hj
  have e2 : p = ((l.getD j 0).toNat : Int) := by
    simp only [bi, List.getElem?_map, List.getElem?_eq_getElem hj, Option.map_some, Option.some.injEq] at hp
    simp [← hp, List.getD, List.getElem?_eq_getElem hj]
  rw [← e2] at e1
  have e3 : (⟨g, 0, none⟩ : Addr).add (j * (Kd.int .u8).sz + 0) = ⟨g, j, none⟩ := by
    show (⟨g, 0, none⟩ : Addr).add (j * 1 + 0) = _
    unfold Addr.add
    split
    · have : j = 0 := by omega
      subst this; rfl
    · simp
  rw [e3]
  simp [World.cell?, hg, e1]
theorem const_C (W : World) (l : List UInt8) (fz : Nat × Nat) (hl : l.length ≤ 9223372036854775807) : Kd.C (Kd.int .u8) (W.alloc (.cells (bv l).toArray 5 fz)) (some ⟨W.heap.size, 0, none⟩) l.length (bi l) := by
  refine row_C (heap_alloc_new W _) hl (fun j hj => ?_)
  simp [bv, List.getD, List.getElem?_eq_getElem hj]
theorem someDec : decodeN 400 [0, 1, 0, 2, 97, 98, 1, 5, 4, 0, 12] = someActs := by rfl
theorem decode_C (w : World) (A : Option Addr) (n c : Nat) (l : List UInt8) (hn : n = l.length) (hC : Kd.C (Kd.int .u8) w A n (bi l)) (hc : n ≤ c) :
    Calls Tryd.prog 9 #[.slice A n c] w fun e w' => ∃ A' c', e = .returned (.slice A' (decodeN 400 l).length c') ∧ (decodeN 400 l).length ≤ c' ∧ Kd.C k26 w' A' (decodeN 400 l).length ((decodeN 400 l).map toS) ∧ Below w.heap.size w w' := by
  subst hn
  refine (decode_any w A c l hC hc).mono ?_
  rintro e w' ⟨v, rfl, hR, hb⟩
  obtain ⟨A', c', rfl, hc', hC'⟩ := Kd.R_reads hR
  rw [List.length_map] at hc' hC' ⊢
  exact ⟨A', c', rfl, hc', hC', hb⟩
theorem some_C (w : World) : Calls Tryd.prog 27 #[] w fun e w' => ∃ A' c', e = .returned (.slice A' someActs.length c') ∧ someActs.length ≤ c' ∧ Kd.C k26 w' A' someActs.length (someActs.map toS) ∧ Below w.heap.size w w' := by
  refine (some_any w).mono ?_
  rintro e w' ⟨v, rfl, hR, hb⟩
  obtain ⟨A', c', rfl, hc', hC'⟩ := Kd.S_reads hR
  rw [List.length_map] at hc' hC' ⊢
  exact ⟨A', c', rfl, hc', hC', hb⟩
theorem encode_C (w : World) (A : Option Addr) (n c : Nat) (xs : List SAct) (hn : n = xs.length) (hC : Kd.C k26 w A n (xs.map toS)) (hc : n ≤ c) (h0 : ∀ a ∈ xs, 0 ≤ a.node) :
    Calls Tryd.prog 10 #[.slice A n c] w fun e w' => ∃ A' c', e = .returned (.tuple #[.slice A' (encode xs).1.length c', .int .i64 (encode xs).2]) ∧ (encode xs).1.length ≤ c' ∧ Kd.C (Kd.int .u8) w' A' (encode xs).1.length (bi (encode xs).1) ∧ Below w.heap.size w w' := by
  subst hn
  refine (encode_any w A c xs hC hc h0).mono ?_
  rintro e w' ⟨v, rfl, hR, hb⟩
  obtain ⟨A', c', rfl, hc', hC'⟩ := Kd.R_reads hR
  have : (bi (encode xs).1).length = (encode xs).1.length := by simp [bi]
  rw [this] at hc' hC' ⊢
  exact ⟨A', c', rfl, hc', hC', hb⟩
set_option maxHeartbeats 4000000 in
set_option maxRecDepth 100000 in
theorem awake_any (w : World) : Calls Tryd.prog 13 #[] w (AwPost w) := by
  have kc := fun (w : World) (C : Array Value) (n c : Nat) => Lib.run_convert_bytes_const (P := Tryd.prog) w 29 5 C n c Tryd.underlying29 Tryd.underlying5
  go_enter Tryd.func13, Tryd.ntmps13
  go_wp2_with fail
  refine (some_C w).mono ?_
  rintro e w1 ⟨A1, c1, rfl, hc1, hC1, hb1⟩
  have HC1 := Lib.hid hC1
  have HB1 := Lib.hid hb1
  clear hC1 hb1
  go_wp2_with fail
  refine (encode_C w1 A1 _ c1 someActs rfl HC1.out hc1 (by decide)).mono ?_
  rintro e w2 ⟨A2, c2, rfl, hc2, hC2, hb2⟩
  have henc : encode someActs = ([0, 1, 0, 2, 97, 98, 1, 5, 4, 0, 12], 0) := by rfl
  rw [henc] at hc2 hC2 ⊢
  have HC2 := Lib.hid hC2
  have HB2 := Lib.hid (HB1.out.trans (hb2.mono HB1.out.size))
  clear hC2 hb2 HB1 HC1 henc
  go_wp2_with fail
  have hC3 := const_C w2 [0, 1, 0, 2, 97, 98, 1, 5, 4, 0, 12] (11, 12) (by decide)
  have hb3 := HB2.out.alloc HB2.out.size (Obj.cells (bv [0, 1, 0, 2, 97, 98, 1, 5, 4, 0, 12]).toArray 5 (11, 12))
  have hz3 := (Below.refl w2.heap.size w2).alloc (Nat.le_refl _) (Obj.cells (bv [0, 1, 0, 2, 97, 98, 1, 5, 4, 0, 12]).toArray 5 (11, 12))
  refine (decode_C _ _ 11 11 [0, 1, 0, 2, 97, 98, 1, 5, 4, 0, 12] rfl hC3 (by decide)).mono ?_
  rw [someDec]
  rintro e w4 ⟨A4, c4, rfl, hc4, hC4, hb4⟩
  have HC4 := Lib.hid hC4
  have HB4 := Lib.hid (hb3.trans (hb4.mono hb3.size))
  have HZ4 := Lib.hid (hz3.trans (hb4.mono hz3.size))
  clear hC4 hb4 hb3 hC3 hz3
  go_wp2_with fail
  refine (some_C w4).mono ?_
  rintro e w5 ⟨A5, c5, rfl, hc5, hC5, hb5⟩
  have HC5 := Lib.hid hC5
  have HC45 := Lib.hid (Kd.C_below HC4.out hb5)
  have HB5 := Lib.hid (HB4.out.trans (hb5.mono HB4.out.size))
  have HZ5 := Lib.hid (HZ4.out.trans (hb5.mono HZ4.out.size))
  clear hC5 hb5 HC4 HB4 HZ4
  go_wp2_with fail
  refine (same_any w5 A4 A5 c4 c5 someActs someActs _ _ rfl rfl HC45.out hc4 HC5.out hc5).mono ?_
  rintro e w6 ⟨rfl, hb6⟩
  have HB6 := Lib.hid (HB5.out.trans (hb6.mono HB5.out.size))
  have hC6 := Kd.C_below HC2.out (HZ5.out.trans (hb6.mono HZ5.out.size))
  have hcv : (convert 29 9 (.slice A2 11 c2)).run Tryd.prog w6 = .ok (.string ⟨#[0, 1, 0, 2, 97, 98, 1, 5, 4, 0, 12]⟩) w6 := by
    have := Kd.C_string (c := c2) Tryd.underlying29 Tryd.underlying5 Tryd.underlying9 hC6
    rw [strOf_bi] at this
    exact this
  clear hb6 hC6 HB5 HZ5
  rw [decide_eq_true (rfl : someActs = someActs)]
  go_wp2
  go_ret
  exact ⟨rfl, HB6.out⟩
end Go.Proofs.YtjipfdabkncnmaaDoor.S

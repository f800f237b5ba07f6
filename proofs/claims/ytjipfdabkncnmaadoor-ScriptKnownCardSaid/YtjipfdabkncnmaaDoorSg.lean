/- script.Decode, walked: the acts are the plain model's, for any bytes that a row holds. -/
import Derived.Test.YtjipfdabkncnmaaDoorSe
namespace Go.Proofs.YtjipfdabkncnmaaDoor.S
open Go.RowKit Go.Proofs.YtjipfdabkncnmaaDoorW.PrintWords Go.Proofs.YtjipfdabkncnmaaDoorW.PrintLast Go.Proofs.YtjipfdabkncnmaaDoorW.PrintMore
open PScriptTotal (S24 S26 k26 k24 z26)
set_option linter.unusedVariables false
set_option linter.unusedSimpArgs false

theorem act_any (w0 w : World) (g : Nat) (l : List UInt8) (h : Rd w0 w g l) :
    Calls Tryd.prog 18 #[.pointer (some ⟨g, 0, none⟩)] w (ActPost w0 w g (readAct l).1 (readAct l).2) := by
  have hx := hd_bd l
  have hk : hd l % 9 = 0 ∨ hd l % 9 = 1 ∨ hd l % 9 = 2 ∨ hd l % 9 = 3 ∨ hd l % 9 = 4 ∨ hd l % 9 = 5 ∨ hd l % 9 = 6 ∨ hd l % 9 = 7 ∨ hd l % 9 = 8 := by omega
  have ht : ∀ l, textLen l = (256 * hd l + hd l.tail).toNat := fun _ => rfl
  rcases hk with hk | hk | hk | hk | hk | hk | hk | hk | hk
  · have := act_1 w0 w g l h hk; rw [hk] at this; simpa [readAct, readBody, hk, txt, txtRest, ht] using this
  · have := act_2 w0 w g l h hk; rw [hk] at this; simpa [readAct, readBody, hk] using this
  · have := act_3 w0 w g l h hk; rw [hk] at this; simpa [readAct, readBody, hk] using this
  · have := act_4 w0 w g l h hk; rw [hk] at this; simpa [readAct, readBody, hk] using this
  · have := act_5 w0 w g l h hk; rw [hk] at this; simpa [readAct, readBody, hk] using this
  · have := act_6 w0 w g l h hk; rw [hk] at this; simpa [readAct, readBody, hk, crashRd] using this
  · have := act_7 w0 w g l h hk; rw [hk] at this; simpa [readAct, readBody, hk, crashRd] using this
  · have := act_8 w0 w g l h hk; rw [hk] at this; simpa [readAct, readBody, hk] using this
  · have := act_9 w0 w g l h hk; rw [hk] at this; simpa [readAct, readBody, hk] using this

def toS (a : SAct) : S26 := ⟨a.kind, a.node, a.n, ⟨a.text.toArray⟩, ⟨a.keep, a.torn⟩⟩
theorem Own.R {w : World} {B : Nat} {u : Value} {xs : List Int} (h : Own w B u xs) (ok : Nat → Prop) (hok : ∀ k, u.ownBlock = some k → ok k) : (Kd.int .i64).R 3 w B ok u xs :=
  Kd.R_of_own (enc := Value.int .i64) (h1 := fun _ => rfl) h hok
theorem info26 : (Tryd.prog.info? 26).map (fun i => (i.zero, i.size, i.bytes)) = some (some (.agg #[.int .u8 0, .int .u8 0, .int .i64 0, .string ⟨#[]⟩, .slice none 0 0, .slice none 0 0]), 6, 80) := PScriptTotal.info26

theorem dec_step {l : List UInt8} {acts : List SAct} {r rest : List UInt8} {a : SAct} (h : decodeN 400 l = acts ++ decodeN (400 - acts.length) r) (hr : 0 < r.length) (h4 : acts.length < 400) (ha : (readAct r).1 = a) (hb : (readAct r).2 = rest) :
    decodeN 400 l = (acts ++ [a]) ++ decodeN (400 - (acts ++ [a]).length) rest := by
  obtain ⟨k, hk⟩ : ∃ k, 400 - acts.length = k + 1 := ⟨400 - acts.length - 1, by omega⟩
  cases r with
  | nil => simp at hr
  | cons b t =>
    rw [h, hk, decodeN, ha, hb, List.append_assoc, List.singleton_append, List.length_append, List.length_singleton]
    congr 3
    omega
theorem rest_lt {r rest : List UInt8} (hr : 0 < r.length) (hb : (readAct r).2 = rest) : rest.length < r.length := by
  cases r with
  | nil => simp at hr
  | cons b t =>
    rw [← hb]
    have := readBody_rest (1 + hd (b :: t) % 9) t
    simp [readAct]; omega
/-- what Decode comes to. -/
def DecPost (w : World) (l : List UInt8) (e : Ending) (w' : World) : Prop :=
  ∃ v, e = .returned v ∧ k26.R 26 w' w.heap.size (fun _ => True) v ((decodeN 400 l).map toS) ∧ Below w.heap.size w w'
/-- the loop's relation: what is told already, and what is still to be read. -/
def DecRel (w : World) (l : List UInt8) (gk : Nat) (v : Value) (wr : World) : Prop :=
  ∃ (acts : List SAct) (r : List UInt8), gk = r.length ∧ acts.length ≤ 400 ∧ decodeN 400 l = acts ++ decodeN (400 - acts.length) r ∧ Rd w wr w.heap.size r ∧
    k26.R 26 wr w.heap.size (fun k => k ≠ w.heap.size) v (acts.map toS)

set_option maxHeartbeats 4000000 in
set_option maxRecDepth 100000 in
theorem decode_any (w : World) (A : Option Addr) (c : Nat) (l : List UInt8) (hC : Kd.C (Kd.int .u8) w A l.length (bi l)) (hc : l.length ≤ c) :
    Calls Tryd.prog 9 #[.slice A l.length c] w (DecPost w l) := by
  have h0 : Rd w (w.alloc (.cells #[.slice A l.length c] 45)) w.heap.size l := ⟨⟨A, c, heap_alloc_new w _, Nat.le_refl _, hc, hC⟩, (Below.refl _ _).alloc (Nat.le_refl _) _⟩
  have H0 := Lib.hid h0
  have hlen := hC.2.1
  clear h0 hC
  go_enter Tryd.func9, Tryd.ntmps9
  go_wp2
  go_loopg [3] l.length (fun gk v wr => DecRel w l gk v wr)
  case atStart => exact ⟨[], l, rfl, by simp, rfl, H0.out, Kd.R_nil _ _ _ _ _⟩
  case round =>
    obtain ⟨acts, r, rfl, hal, hdec, hrd, hR⟩ := hrel
    have HD := Lib.hid hdec
    have HRD := Lib.hid hrd
    have HR := Lib.hid hR
    obtain ⟨A', c', e1, hc1, hC1⟩ := Kd.R_reads hR
    obtain ⟨⟨Ar, cr, hr⟩, hB⟩ := hrd
    have hcell := hr.cell
    have hrl : r.length ≤ 9223372036854775807 := hr.2.2.2.2.1
    have e2 : (acts.map toS).length = acts.length := by simp
    rw [e2] at e1 hc1
    subst e1
    clear hdec hR hr hC1 hB e2
    by_cases hr0 : r.length = 0
    · have hr1 : r.length ≤ 0 := by omega
      have E := Lib.hid hr0
      clear hr0
      go_wp2
      go_ret
      have hnil : r = [] := List.eq_nil_of_length_eq_zero E.out
      have hd0 : decodeN (400 - acts.length) r = [] := by rw [hnil]; cases (400 - acts.length) <;> rfl
      exact ⟨_, rfl, by rw [HD.out, hd0, List.append_nil]; exact Kd.R_mono HR.out (fun _ _ => trivial), HRD.out.below⟩
    · have hrp : 0 < r.length := by omega
      clear hr0
      by_cases h4 : acts.length < 400
      · go_wp2_with fail
        refine (act_any w wr _ r HRD.out).mono ?_
        rintro e w1 ⟨u0, u1, rfl, o0, o1, h1, k1, ne⟩
        generalize hga : (readAct r).1 = a at *
        generalize hgr : (readAct r).2 = rest at *
        have HGA := Lib.hid hga
        have HGR := Lib.hid hgr
        have hsz : w.heap.size < wr.heap.size := HRD.out.lt
        have hsz1 : wr.heap.size ≤ w1.heap.size := k1.1
        have HO := Lib.hid (Kd.R_keep HR.out k1 (fun _ h => h))
        have HM := Lib.hid (PScriptTotal.k26_mkM w1 w.heap.size (fun k => k ≠ w.heap.size ∧ wr.heap.size ≤ k) (toS a) ((o0.low (Nat.le_of_lt hsz)).R _ (fun k hk => by have := own_base o0 k hk; omega)) ((o1.low (Nat.le_of_lt hsz)).R _ (fun k hk => by have := own_base o1 k hk; omega)))
        have HOB : Hid (∀ k, (Value.slice A' acts.length c').ownBlock = some k → k < wr.heap.size) := Lib.hid (fun k hk => by obtain ⟨inner, ho⟩ := Kd.R_own HR.out; exact own_lt ho k hk)
        have HK1 : Hid (∀ k, (k ≠ w.heap.size ∧ wr.heap.size ≤ k) → k ≠ w.heap.size ∧ some k ≠ (Value.slice A' acts.length c').ownBlock) := Lib.hid (fun k hk => ⟨hk.1, fun e => by have := HOB.out k e.symm; omega⟩)
        have HK2 : Hid (∀ k, w1.heap.size ≤ k → k ≠ w.heap.size) := Lib.hid (fun k hk => by omega)
        have HK3 : Hid (w.heap.size ≤ w1.heap.size) := Lib.hid (by omega)
        have HK4 : Hid (((acts.map toS).length + 1) * 80 ≤ 140737488355328) := Lib.hid (by rw [List.length_map]; omega)
        have HH := Lib.hid h1
        have HK := Lib.hid k1
        clear hga hgr o0 o1 ne h1 k1
        go_wp2_with (at_builtin; refine Kd.R_append k26 (w0 := w) (W := w1) w.heap.size rfl (.tmp 19) (.tmp 22) 27 26 (.agg #[.int .u8 0, .int .u8 0, .int .i64 0, .string ⟨#[]⟩, .slice none 0 0, .slice none 0 0]) 80 rfl Tryd.underlying27 info26 rfl (by decide) (by decide) (Value.slice A' acts.length c') (acts.map toS) (toS a) _ (fun k => k ≠ w.heap.size) (fun k => k ≠ w.heap.size ∧ wr.heap.size ≤ k) rfl rfl HM.out HK1.out HK2.out HO.out HH.out.below HK3.out HK4.out ?_; intro v1 w2 hR1 hB1 hg1 hat1)
        have hH2 : Rd w w2 w.heap.size rest := HH.out.old (hg1.block w.heap.size (by omega) (fun e => by have := Kd.R_ne HO.out HH.out.blk.choose_spec (by decide); exact this e)) hB1
        have HH2 := Lib.hid hH2
        have HR1 := Lib.hid hR1
        clear hH2 hR1 hB1 hg1 hat1
        go_wp2
        go_roundg rest.length
        case measure => exact rest_lt hrp HGR.out
        case rel => exact ⟨acts ++ [a], rest, rfl, by simp; omega, dec_step HD.out hrp h4 HGA.out HGR.out, HH2.out, by rw [List.map_append]; exact HR1.out⟩
      · have h4' : 400 ≤ acts.length := by omega
        clear h4
        go_wp2
        go_ret
        have hd0 : decodeN (400 - acts.length) r = [] := by rw [show 400 - acts.length = 0 from by omega]; rfl
        exact ⟨_, rfl, by rw [HD.out, hd0, List.append_nil]; exact Kd.R_mono HR.out (fun _ _ => trivial), HRD.out.below⟩
end Go.Proofs.YtjipfdabkncnmaaDoor.S

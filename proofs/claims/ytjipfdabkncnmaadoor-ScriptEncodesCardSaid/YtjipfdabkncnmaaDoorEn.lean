/- ScriptEncodes, walked: it comes to true, whatever the acts. -/
import Derived.Test.YtjipfdabkncnmaaDoorEb
import Derived.Test.YtjipfdabkncnmaaDoorTot
import Derived.Test.YtjipfdabkncnmaaDoorRo
namespace Go.Proofs.YtjipfdabkncnmaaDoor.S
open Go.RowKit Go.Proofs.YtjipfdabkncnmaaDoorW.PrintWords Go.Proofs.YtjipfdabkncnmaaDoorW.PrintLast Go.Proofs.YtjipfdabkncnmaaDoorW.PrintMore
open PScriptTotal (S24 S26 k26 k24 z26)
set_option linter.unusedVariables false
set_option linter.unusedSimpArgs false

theorem great_any (w : World) (A : Option Addr) (n c : Nat) (xs : List SAct) (hn : n = xs.length) (hC : Kd.C k26 w A n (xs.map toS)) (hc : n ≤ c) :
    Calls Tryd.prog 15 #[.slice A n c] w fun e w' => ∃ b, e = .returned (.bool b) ∧ (b = false → xs.length ≤ 450 ∧ ∀ a ∈ xs, a.text.length ≤ 12000 ∧ a.keep.length ≤ 12000) ∧ Below w.heap.size w w' := by
  subst hn
  obtain ⟨b, hf, hb⟩ := great_f xs
  have hl : (xs.map toS).length = xs.length := by simp
  have := PScriptTotal.wapentakelaw26_Great.calls 452 A c (xs.map toS) b w (by rw [hl]; exact hC) (by rw [hl]; exact hc) hf
  rw [hl] at this
  refine this.mono ?_
  rintro e w' ⟨rfl, hw⟩
  exact ⟨b, rfl, hb, hw⟩
theorem refEncode_any (w : World) (A : Option Addr) (n c : Nat) (xs : List SAct) (hn : n = xs.length) (hC : Kd.C k26 w A n (xs.map toS)) (hc : n ≤ c) (hx : ∀ a ∈ xs, ok a) (hl : xs.length ≤ 1000) :
    Calls Tryd.prog 16 #[.slice A n c] w fun e w' => e = .returned (.tuple #[.string ⟨(encode xs).1.toArray⟩, .int .i64 (encode xs).2]) ∧ Below w.heap.size w w' := by
  subst hn
  have hl : (xs.map toS).length = xs.length := by simp
  have := PScriptTotal.wapentakeref26_Encode.calls _ A c (xs.map toS) _ _ w (by rw [hl]; exact hC) (by rw [hl]; exact hc) (encode_f xs hx (by assumption) 0)
  rw [hl] at this
  exact this
theorem refPlain_any (w : World) (a : SAct) (A0 A1 : Option Addr) (c0 c1 : Nat) (hx : Kd.C (Kd.int .i64) w A0 a.keep.length a.keep) (h0 : a.keep.length ≤ c0) (hy : Kd.C (Kd.int .i64) w A1 a.torn.length a.torn) (h1 : a.torn.length ≤ c1) :
    Calls Tryd.prog 17 #[.agg #[.int .u8 a.kind, .int .u8 a.node, .int .i64 a.n, .string ⟨a.text.toArray⟩, .slice A0 a.keep.length c0, .slice A1 a.torn.length c1]] w fun e w' => e = .returned (.bool (plain a)) ∧ Below w.heap.size w w' :=
  PScriptTotal.wapentakeref26_Plain.calls _ a.kind a.node a.n ⟨a.text.toArray⟩ A0 c0 a.keep A1 c1 a.torn (plain a) w hx h0 hy h1 (plain_f a 0 hx.2.1)
/-- an act as it is read out of a row, with its rows' room. -/
theorem act_at2 {w : World} {A : Option Addr} {n : Nat} {xs : List SAct} (hn : n = xs.length) (h : Kd.C k26 w A n (xs.map toS)) (i : Nat) (hi : i < xs.length) :
    ∃ ad A4 c4 A5 c5 a, A = some ad ∧ xs[i]? = some a ∧ w.cell? (ad.add (i * 6)) = some (.int .u8 a.kind) ∧ w.cell? ⟨(ad.add (i * 6)).block, (ad.add (i * 6)).off + 1, none⟩ = some (.int .u8 a.node) ∧
      w.cell? ⟨(ad.add (i * 6)).block, (ad.add (i * 6)).off + 2, none⟩ = some (.int .i64 a.n) ∧ w.cell? ⟨(ad.add (i * 6)).block, (ad.add (i * 6)).off + 3, none⟩ = some (.string ⟨a.text.toArray⟩) ∧
      w.cell? ⟨(ad.add (i * 6)).block, (ad.add (i * 6)).off + 4, none⟩ = some (.slice A4 a.keep.length c4) ∧ w.cell? ⟨(ad.add (i * 6)).block, (ad.add (i * 6)).off + 5, none⟩ = some (.slice A5 a.torn.length c5) ∧
      a.keep.length ≤ c4 ∧ (Kd.int .i64).C w A4 a.keep.length a.keep ∧ a.torn.length ≤ c5 ∧ (Kd.int .i64).C w A5 a.torn.length a.torn := by
  subst hn
  obtain ⟨ad, A4, c4, A5, c5, e, h0, h1, h2, h3, h4, h5, l4, g4, l5, g5⟩ := PScriptTotal.at_T26 h (i : Int) (by omega) (by omega)
  have hg : xs[i]? = some xs[i] := List.getElem?_eq_getElem hi
  have hr : PScriptTotal.rd_T26 (xs.map toS) (i : Int) = toS xs[i] := by
    simp [PScriptTotal.rd_T26, List.getD, List.getElem?_map, hg]
  rw [hr] at h0 h1 h2 h3 h4 h5 l4 g4 l5 g5
  simp only [Int.toNat_natCast, toS] at h0 h1 h2 h3 h4 h5 g4 g5
  exact ⟨ad, A4, c4, A5, c5, xs[i], e, hg, h0, h1, h2, h3, h4, h5, l4, g4, l5, g5⟩
theorem f12_name : (Tryd.f12.name == "runtime.NumGoroutine") = false := by kernel_rfl
theorem f12_body : Tryd.f12.body.isNone = false := by kernel_rfl
theorem f17_name : (Tryd.f17.name == "runtime.NumGoroutine") = false := by kernel_rfl
theorem f17_body : Tryd.f17.body.isNone = false := by kernel_rfl

set_option maxHeartbeats 4000000 in
set_option maxRecDepth 100000 in
theorem encodes_walk (W : World) (A : Option Addr) (n c : Nat) (xs : List SAct) (hn : n = xs.length) (hC : Kd.C k26 W A n (xs.map toS)) (hc : n ≤ c) (hx : ∀ a ∈ xs, 0 ≤ a.node ∧ a.node < 256 ∧ 0 ≤ a.kind ∧ a.kind < 256) :
    Calls Tryd.prog 5 #[.slice A n c] W (AwPost W) := by
  have HX := Lib.hid hx
  have HC := Lib.hid hC
  have HN := Lib.hid hn
  have hnl : n ≤ 9223372036854775807 := hC.2.1
  clear hx hC hn
  go_enter Tryd.func5, Tryd.ntmps5
  go_wp2_with fail
  refine (great_any W A n c xs HN.out HC.out hc).mono ?_
  rintro e w1 ⟨b, rfl, hg, hb1⟩
  cases b with
  | true =>
    have HB1 := Lib.hid hb1
    clear hg hb1
    go_wp2_with fail
    refine (awake_any w1).mono ?_
    rintro e w2 ⟨rfl, hb2⟩
    have HB2 := Lib.hid (HB1.out.trans (hb2.mono HB1.out.size))
    clear hb2
    go_wp2
    go_ret
    exact ⟨rfl, HB2.out⟩
  | false =>
    obtain ⟨hl, hsm⟩ := hg rfl
    have hok : ∀ a ∈ xs, ok a := fun a ha => ⟨HX.out a ha, hsm a ha⟩
    have HOK := Lib.hid hok
    have HB1 := Lib.hid hb1
    have HL := Lib.hid hl
    clear hg hb1 hok hsm hl
    go_wp2_with fail
    refine (encode_C w1 A n c xs HN.out (Kd.C_below HC.out HB1.out) hc (fun a ha => (HX.out a ha).1)).mono ?_
    rintro e w2 ⟨A2, c2, rfl, hc2, hC2, hb2⟩
    have HC2 := Lib.hid hC2
    have HB2 := Lib.hid (HB1.out.trans (hb2.mono HB1.out.size))
    clear hC2 hb2
    go_wp2_with fail
    have HRE := Lib.hid (refEncode_any w2 A n c xs HN.out (Kd.C_below HC.out HB2.out) hc HOK.out (by have := HL.out; omega))
    generalize (encode xs).1 = bs at *
    generalize (encode xs).2 = er at *
    refine HRE.out.mono ?_
    rintro e w3 ⟨rfl, hb3⟩
    have HB3 := Lib.hid (HB2.out.trans (hb3.mono HB2.out.size))
    have HZ3 := Lib.hid hb3
    clear hb3 HRE
    go_wp2
    go_loopg [7] n (fun gk v wr => TotRel w3 n gk v wr)
    case atStart => exact ⟨0, rfl, rfl, Below.refl _ _⟩
    case round =>
      obtain ⟨i, rfl, hgi, hbe⟩ := hrel
      have HG := Lib.hid hgi
      have HBE := Lib.hid hbe
      have HBW := Lib.hid (HB3.out.trans (hbe.mono HB3.out.size))
      clear hgi hbe
      by_cases hi : i < n
      · obtain ⟨ad, A4, c4, A5, c5, a, rfl, hg, f0, f1, f2, f3, f4, f5, l4, g4, l5, g5⟩ := act_at2 HN.out (Kd.C_below HC.out HBW.out) i (by have := HN.out; omega)
        have H4 := Lib.hid g4
        have H5 := Lib.hid g5
        have hna : 0 ≤ a.node := (HX.out a (List.mem_of_getElem? hg)).1
        clear hg g4 g5
        go_wp2_with fail
        go_region_law
          (first
            | (refine step_call_w (by rfl) 12 [.tmp 30] _ rfl Tryd.f12 Tryd.func12 f12_name f12_body [.agg #[.int .u8 a.kind, .int .u8 a.node, .int .i64 a.n, .string ⟨a.text.toArray⟩, .slice A4 a.keep.length c4, .slice A5 a.torn.length c5]] ?_ ?_; rfl; refine (plain_any wr.drew a A4 A5 c4 c5 hna H4.out H5.out).mono ?_; rintro e wp ⟨rfl, hbp0⟩; have hbp : Below wr.heap.size wr wp := (Below.refl _ _).drew.trans hbp0; have HBP := Lib.hid hbp; have p0 := move_cell hbp f0; have p1 := move_cell hbp f1; have p2 := move_cell hbp f2; have p3 := move_cell hbp f3; have p4 := move_cell hbp f4; have p5 := move_cell hbp f5; clear hbp hbp0; refine ⟨_, rfl, ?_⟩)
            | (refine step_call_w (by rfl) 17 [.tmp 35] _ rfl Tryd.f17 Tryd.func17 f17_name f17_body [.agg #[.int .u8 a.kind, .int .u8 a.node, .int .i64 a.n, .string ⟨a.text.toArray⟩, .slice A4 a.keep.length c4, .slice A5 a.torn.length c5]] ?_ ?_; rfl; refine (refPlain_any wp a A4 A5 c4 c5 (Kd.C_below H4.out HBP.out) l4 (Kd.C_below H5.out HBP.out) l5).mono ?_; rintro e wq ⟨rfl, hbq⟩; have HBQ := Lib.hid (HBE.out.trans ((HBP.out.trans (hbq.mono HBP.out.size)).mono HBE.out.size)); clear hbq; refine ⟨_, rfl, ?_⟩))
        all_goals
          clear p0 p1 p2 p3 p4 p5 f0 f1 f2 f3 f4 f5
          go_wp2
          go_roundg (n - (i + 1))
          case measure => have := HG.out; omega
          case rel => exact ⟨i + 1, by simp, by have := HG.out; omega, HBQ.out⟩
      · have hie : i = n := by have := HG.out; omega
        subst hie
        clear hi
        have hC6 := Kd.C_below HC2.out (HZ3.out.trans (HBE.out.mono HZ3.out.size))
        have hcv : (convert 29 9 (.slice A2 bs.length c2)).run Tryd.prog wr = .ok (.string ⟨bs.toArray⟩) wr := by
          rw [← strOf_bi]; exact Kd.C_string Tryd.underlying29 Tryd.underlying5 Tryd.underlying9 hC6
        clear hC6
        go_wp2_with fail
        refine (awake_any wr).mono ?_
        rintro e w6 ⟨rfl, hb6⟩
        have HBT := Lib.hid (HBW.out.trans (hb6.mono HBW.out.size))
        clear hb6
        go_wp2
        go_ret
        exact ⟨rfl, HBT.out⟩
end Go.Proofs.YtjipfdabkncnmaaDoor.S

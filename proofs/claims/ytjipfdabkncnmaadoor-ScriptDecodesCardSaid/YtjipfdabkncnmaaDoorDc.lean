/- ScriptDecodes, walked: it comes to true, whatever the text. -/
import Derived.Test.YtjipfdabkncnmaaDoorDb
import Derived.Test.YtjipfdabkncnmaaDoorTot
namespace Go.Proofs.YtjipfdabkncnmaaDoor.S
open Go.RowKit Go.Proofs.YtjipfdabkncnmaaDoorW.PrintWords Go.Proofs.YtjipfdabkncnmaaDoorW.PrintLast Go.Proofs.YtjipfdabkncnmaaDoorW.PrintMore
open PScriptTotal (S24 S26 k26 k24 z26)
set_option linter.unusedVariables false
set_option linter.unusedSimpArgs false

/-- a row of acts whose lists' numbers may be written over: what the loops keep. -/
def HdrAt (W : World) (B : Nat) (ad : Addr) (i : Nat) : Prop :=
  ∃ A4 m c4, W.cell? ⟨(ad.add (i * 6)).block, (ad.add (i * 6)).off + 4, none⟩ = some (.slice A4 m c4) ∧ m ≤ c4 ∧ m ≤ 9223372036854775807 ∧
    ∀ k, k < m → ∃ a, A4 = some a ∧ (∃ z, W.cell? (a.add k) = some (.int .i64 z)) ∧ W.frozen? (a.add k) = false ∧ B ≤ (a.add k).block
theorem HdrAt.set {W : World} {B : Nat} {ad : Addr} {i : Nat} (h : HdrAt W B ad i) {p : Addr} {z : Int} (hp : W.cell? p = some (.int .i64 z)) (u : Int) : HdrAt (W.setCell p (.int .i64 u)) B ad i := by
  obtain ⟨A4, m, c4, h1, h2, h3, h4⟩ := h
  refine ⟨A4, m, c4, ?_, h2, h3, fun k hk => ?_⟩
  · rw [World.cell?_setCell_other]
    · exact h1
    · rintro rfl
      rw [h1] at hp; cases hp
  · obtain ⟨a, rfl, ⟨y, hy⟩, hf, hb⟩ := h4 k hk
    refine ⟨a, rfl, ?_, by rw [World.frozen?_setCell]; exact hf, hb⟩
    by_cases he : p = a.add k
    · subst he
      exact ⟨u, World.cell?_setCell_same _ _ _ hy⟩
    · exact ⟨y, by rw [World.cell?_setCell_other _ _ _ _ he]; exact hy⟩
theorem HdrAt.drawn {W : World} {B : Nat} {ad : Addr} {i : Nat} (h : HdrAt W B ad i) (n : Nat) : HdrAt (W.drewN n) B ad i := h
/-- out of an own row. -/
theorem hdr_of {W : World} {B : Nat} {okk : Nat → Prop} {A : Option Addr} {n c : Nat} {xs : List SAct} (h : k26.R 26 W B okk (.slice A n c) (xs.map toS)) (i : Nat) (hi : i < n) : ∃ ad, A = some ad ∧ HdrAt W B ad i := by
  have hn := (Kd.R_reads' h).1
  obtain ⟨ad, rfl, -⟩ := (Kd.R_reads' h).2.2.2.2 (by omega)
  refine ⟨ad, rfl, ?_⟩
  obtain ⟨c6, hcl, hM, hcell⟩ := Kd.R_get h z26 (i : Int) (by omega) (by omega)
  obtain ⟨v4, v5, rfl, hr4, hr5⟩ := PScriptTotal.k26_openM hM
  have hsz : k26.sz = 6 := rfl
  have h4 := hcell 4 v4 rfl
  rw [hsz, Int.toNat_natCast, add_field _ _ 4 (by omega)] at h4
  obtain ⟨A4, c4, rfl, hc4, hC4⟩ := Kd.R_reads hr4
  refine ⟨A4, _, c4, h4, hc4, hC4.2.1, fun k hk => ?_⟩
  obtain ⟨g, cap, e, hg, -⟩ := Kd.R_form hr4 (by omega)
  have e' := e
  injection e' with ea _ _
  subst ea
  obtain ⟨c1, hc1, hM1, hcc, hfz⟩ := Kd.R_elem hr4 0 (k : Int) (by omega) (by omega)
  have hc1' : c1 = [.int .i64 (((xs.map toS).getD (i : Int).toNat z26).f4.f0.getD (k : Int).toNat 0)] := hM1
  subst hc1'
  have ek : (⟨g, 0, none⟩ : Addr).add k = ⟨g, k, none⟩ := by
    unfold Addr.add
    split
    · rename_i h0; subst h0; rfl
    · simp
  refine ⟨_, rfl, ⟨((xs.map toS).getD (i : Int).toNat z26).f4.f0.getD (k : Int).toNat 0, ?_⟩, ?_, ?_⟩
  · rw [ek]
    have := hcc 0 _ rfl
    simpa [Kd.int, Kd.scalar] using this
  · rw [ek]
    have := hfz 0
    simpa [Kd.int, Kd.scalar] using this
  · rw [ek]; exact hg
/-- the document's Decode, as rows. -/
theorem refDecode_C (w : World) (s : ByteArray) (hs : s.size ≤ 12000) :
    Calls Tryd.prog 14 #[.string s] w fun e w' => ∃ A' c', e = .returned (.slice A' (decodeN 400 s.data.toList).length c') ∧ (decodeN 400 s.data.toList).length ≤ c' ∧ Kd.C k26 w' A' (decodeN 400 s.data.toList).length ((decodeN 400 s.data.toList).map toS) ∧ Below w.heap.size w w' := by
  refine (refDecode_any w s hs).mono ?_
  rintro e w' ⟨v, rfl, hR, hb⟩
  obtain ⟨A', c', rfl, hc', hC'⟩ := Kd.R_reads hR
  rw [List.length_map] at hc' hC' ⊢
  exact ⟨A', c', rfl, hc', hC', hb⟩
theorem decode_R2 (w : World) (A : Option Addr) (n c : Nat) (l : List UInt8) (hn : n = l.length) (hC : Kd.C (Kd.int .u8) w A n (bi l)) (hc : n ≤ c) :
    Calls Tryd.prog 9 #[.slice A n c] w fun e w' => ∃ A' m c', e = .returned (.slice A' m c') ∧ m = (decodeN 400 l).length ∧ m ≤ c' ∧ k26.R 26 w' w.heap.size (fun _ => True) (.slice A' m c') ((decodeN 400 l).map toS) ∧ Below w.heap.size w w' := by
  subst hn
  refine (decode_any w A c l hC hc).mono ?_
  rintro e w' ⟨v, rfl, hR, hb⟩
  obtain ⟨A', c', rfl, hc', hC'⟩ := Kd.R_reads hR
  rw [List.length_map] at hc' hR ⊢
  exact ⟨A', _, c', rfl, rfl, hc', hR, hb⟩
/-- what the loops keep. -/
def LoRel (wa : World) (A : Option Addr) (n : Nat) (gk : Nat) (v : Value) (wr : World) : Prop :=
  ∃ i : Nat, v = .int .i64 (i : Int) ∧ gk + i = n ∧ Below wa.heap.size wa wr ∧ ∀ j, j < n → ∃ ad, A = some ad ∧ HdrAt wr wa.heap.size ad j
def LiRel (wa : World) (ad : Addr) (n i m : Nat) (A4 : Option Addr) (c4 : Nat) (gk : Nat) (v : Value) (wr : World) : Prop :=
  ∃ k : Nat, v = .int .i64 (k : Int) ∧ gk + k = m ∧ Below wa.heap.size wa wr ∧ (∀ j, j < n → HdrAt wr wa.heap.size ad j) ∧
    wr.cell? ⟨(ad.add (i * 6)).block, (ad.add (i * 6)).off + 4, none⟩ = some (.slice A4 m c4)

set_option maxHeartbeats 4000000 in
set_option maxRecDepth 100000 in
theorem decodes_walk (W : World) (s : ByteArray) (hs : s.size ≤ maxLen) : Calls Tryd.prog 4 #[.string s] W (AwPost W) := by
  have kb := fun (w : World) (s : ByteArray) => Lib.run_convert_string_bytes (P := Tryd.prog) w 9 29 5 s Tryd.underlying9 Tryd.underlying29 Tryd.underlying5
  have hs1 : s.size ≤ 9223372036854775807 := by simpa [maxLen] using hs
  go_enter Tryd.func4, Tryd.ntmps4
  by_cases h : s.size ≤ 12000
  rotate_left
  have h' : 12000 < s.size := by omega
  all_goals go_wp2_with fail
  have e12 : (s.extract 0 12000).size = min 12000 s.size := by simp
  rw [← e12]
  have hq : (s.extract 0 12000).size ≤ 12000 := by rw [e12]; omega
  generalize s.extract 0 12000 = q at *
  clear e12 h h'
  rotate_left
  obtain ⟨q, hq⟩ : ∃ q, q = s := ⟨s, rfl⟩
  subst hq
  have hq : q.size ≤ 12000 := h
  clear h
  all_goals
    have HCB := Lib.hid (str_C W q (by omega))
    have HCAP := Lib.hid (str_cap W q)
    refine (decode_R2 _ _ _ _ q.data.toList rfl HCB.out HCAP.out).mono ?_
    have hbW := str_below W q
    have hlx := decodeN_length_le 400 q.data.toList
    obtain ⟨xs, hxs⟩ : ∃ xs, xs = decodeN 400 q.data.toList := ⟨_, rfl⟩
    rw [← hxs] at hlx ⊢
    have HXS := Lib.hid hxs
    clear hxs
    generalize hwa : Lib.bytesWorld W 5 q = wa at *
    have HBW := Lib.hid hbW
    clear hbW
    rintro e w1 ⟨A1, n, c1, rfl, hn, hc1, hR1, hb1⟩
    have HN := Lib.hid hn
    have HR1 := Lib.hid hR1
    have HB1 := Lib.hid hb1
    have hn4 : n ≤ 400 := by omega
    clear hn hR1 hb1
    go_wp2_with fail
    refine (refDecode_C w1 q hq).mono ?_
    rw [← HXS.out]
    rintro e w2 ⟨A2, c2, rfl, hc2, hC2, hb2⟩
    have HC1 := Lib.hid (Kd.C_below (Kd.R_reads' HR1.out).2.2 hb2)
    have HR2 := Lib.hid (Kd.R_below HR1.out hb2)
    have HC2 := Lib.hid hC2
    have HB2 := Lib.hid (HB1.out.trans (hb2.mono HB1.out.size))
    clear hC2 hb2
    go_wp2_with fail
    refine (same_any w2 A1 A2 c1 c2 xs xs n _ HN.out rfl (by have := HC1.out; rwa [List.length_map, ← HN.out] at this) hc1 HC2.out hc2).mono ?_
    rintro e w3 ⟨rfl, hb3⟩
    rw [decide_eq_true (rfl : xs = xs)]
    have HR3 := Lib.hid (Kd.R_below HR2.out hb3)
    have HB3 := Lib.hid (HB2.out.trans (hb3.mono HB2.out.size))
    clear hb3 hc2
    go_wp2
    go_loopg [5] n (fun gk v wr => LoRel wa A1 n gk v wr)
    case atStart => exact ⟨0, rfl, rfl, HB3.out, fun j hj => hdr_of HR3.out j hj⟩
    case round =>
      obtain ⟨i, rfl, hgi, hbe, hdr⟩ := hrel
      have HG := Lib.hid hgi
      have HBE := Lib.hid hbe
      have HDR := Lib.hid hdr
      clear hgi hbe hdr
      by_cases hi : i < n
      · obtain ⟨ad, rfl, A4, m, c4, hcell, hmc, hmm, hel⟩ := HDR.out i hi
        have HALL : Hid (∀ j, j < n → HdrAt wr wa.heap.size ad j) := Lib.hid (fun j hj => by obtain ⟨a2, e2, h2⟩ := HDR.out j hj; injection e2 with e2; subst e2; exact h2)
        have HCELL := Lib.hid hcell
        clear hel hcell HDR
        go_wp2
        go_loopg [6] m (fun gk v wr => LiRel wa ad n i m A4 c4 gk v wr)
        case atStart => exact ⟨0, rfl, rfl, HBE.out, HALL.out, HCELL.out⟩
        case round =>
          obtain ⟨k, rfl, hgk, hbe2, hall, hcell⟩ := hrel
          have HGK := Lib.hid hgk
          have HBE2 := Lib.hid hbe2
          have HALL2 := Lib.hid hall
          clear hgk hbe2 hall
          by_cases hk : k < m
          · obtain ⟨A4', m', c4', hc', _, _, hel⟩ := HALL2.out i hi
            rw [hcell] at hc'
            simp only [Option.some.injEq, Value.slice.injEq] at hc'
            obtain ⟨rfl, rfl, rfl⟩ := hc'
            obtain ⟨a, rfl, ⟨z, hz⟩, hfz, hba⟩ := hel k hk
            have HZ := Lib.hid hz
            have HALL3 : Hid (∀ u : Int, (∀ j, j < n → HdrAt (wr.setCell (a.add k) (.int .i64 u)) wa.heap.size ad j)) := Lib.hid (fun u j hj => (HALL2.out j hj).set hz u)
            have HB4 : Hid (∀ u : Int, Below wa.heap.size wa (wr.setCell (a.add k) (.int .i64 u))) := Lib.hid (fun u => HBE2.out.setCell hba _)
            have HC4 : Hid (∀ u : Int, (wr.setCell (a.add k) (.int .i64 u)).cell? ⟨(ad.add (i * 6)).block, (ad.add (i * 6)).off + 4, none⟩ = some (.slice (some a) m c4)) := Lib.hid (fun u => by
              rw [World.cell?_setCell_other]
              · exact hcell
              · intro e
                rw [← e, hz] at hcell
                cases hcell)
            clear hel
            go_wp2
            go_roundg (m - (k + 1))
            case measure => have := HGK.out; omega
            case rel => exact ⟨k + 1, by first | rfl | simp, by omega, HB4.out _, HALL3.out _, HC4.out _⟩
          · have HC5 := Lib.hid hcell
            go_wp2
            go_roundg (n - (i + 1))
            case measure => have := HG.out; omega
            case rel => exact ⟨i + 1, by first | rfl | simp, by omega, HBE2.out, fun j hj => ⟨ad, rfl, HALL2.out j hj⟩⟩
      · have hie : (n : Int) ≤ (i : Int) := by omega
        have hCb := Kd.C_below HCB.out HBE.out
        have hcv : ∀ c, (convert 29 9 (.slice (some ⟨W.heap.size, 0, none⟩) q.size c)).run Tryd.prog wr = .ok (.string q) wr := fun c => by
          have := Kd.C_string (c := c) Tryd.underlying29 Tryd.underlying5 Tryd.underlying9 hCb
          rw [strOf_bi] at this
          have e : (⟨q.data.toList.toArray⟩ : ByteArray) = q := by cases q; simp
          rw [e] at this
          exact this
        have HCB2 := Lib.hid hCb
        clear hCb
        go_wp2_with fail
        refine (decode_C wr _ _ _ q.data.toList rfl HCB2.out HCAP.out).mono ?_
        rw [← HXS.out]
        rintro e w5 ⟨A5, c5, rfl, hc5, hC5, hb5⟩
        have HC5 := Lib.hid hC5
        have HB5 := Lib.hid (HBE.out.trans (hb5.mono HBE.out.size))
        clear hC5 hb5
        go_wp2_with fail
        refine (refDecode_C w5 q hq).mono ?_
        rw [← HXS.out]
        rintro e w6 ⟨A6, c6, rfl, hc6, hC6, hb6⟩
        have HC56 := Lib.hid (Kd.C_below HC5.out hb6)
        have HC6 := Lib.hid hC6
        have HB6 := Lib.hid (HB5.out.trans (hb6.mono HB5.out.size))
        clear hC6 hb6
        go_wp2_with fail
        refine (same_any w6 A5 A6 c5 c6 xs xs _ _ rfl rfl HC56.out hc5 HC6.out hc6).mono ?_
        rintro e w7 ⟨rfl, hb7⟩
        rw [decide_eq_true (rfl : xs = xs)]
        have HB7 := Lib.hid (HB6.out.trans (hb7.mono HB6.out.size))
        clear hb7
        go_wp2_with fail
        refine (awake_any w7).mono ?_
        rintro e w8 ⟨rfl, hb8⟩
        have HB8 := Lib.hid (HBW.out.trans ((HB7.out.trans (hb8.mono HB7.out.size)).mono HBW.out.size))
        clear hb8
        go_wp2
        go_ret
        exact ⟨rfl, HB8.out⟩
end Go.Proofs.YtjipfdabkncnmaaDoor.S

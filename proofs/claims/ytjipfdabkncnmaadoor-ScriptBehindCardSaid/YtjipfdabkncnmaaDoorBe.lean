/- ScriptBehind, walked: it comes to true, whatever the acts and the text. -/
import Derived.Test.YtjipfdabkncnmaaDoorGr
import Derived.Test.YtjipfdabkncnmaaDoorTot
import Derived.Test.YtjipfdabkncnmaaDoorRo
namespace Go.Proofs.YtjipfdabkncnmaaDoor.S
open Go.RowKit Go.Proofs.YtjipfdabkncnmaaDoorW.PrintWords Go.Proofs.YtjipfdabkncnmaaDoorW.PrintLast Go.Proofs.YtjipfdabkncnmaaDoorW.PrintMore
open PScriptTotal (S24 S26 k26 k24 z26)
set_option linter.unusedVariables false
set_option linter.unusedSimpArgs false

theorem heap_k26 : Kd.Heap k26 := Kd.heap_iso _ (Kd.heap_pair (Kd.heap_int _) (Kd.heap_pair (Kd.heap_int _) (Kd.heap_pair (Kd.heap_int _) (Kd.heap_pair Kd.heap_string (Kd.heap_iso _ (Kd.heap_pair (Kd.heap_slice 3 (Kd.heap_int _)) (Kd.heap_slice 3 (Kd.heap_int _))))))))
theorem C_reads8 {w : World} {A : Option Addr} {n : Nat} {xs : List Int} (h : Kd.C (Kd.int .u8) w A n xs) : ReadsInt w .u8 A n xs := Kd.reads_of_C (enc := Value.int .u8) (d := (0 : Int)) (h1 := fun _ => rfl) h
theorem u8_info : (Tryd.prog.info? 5).map (fun i => (i.zero, i.size, i.bytes)) = some (some (.int .u8 0), 1, 1) := by kernel_rfl
theorem bytesOf_bi (q : ByteArray) : Go.Proofs.YtjipfdabkncnmaaDoorW.PrintWords.bytesOf q = bi q.data.toList := rfl
theorem decode_R (w : World) (A : Option Addr) (n c : Nat) (l : List UInt8) (hn : n = l.length) (hC : Kd.C (Kd.int .u8) w A n (bi l)) (hc : n ≤ c) :
    Calls Tryd.prog 9 #[.slice A n c] w fun e w' => ∃ A' c', e = .returned (.slice A' (decodeN 400 l).length c') ∧ k26.R 26 w' w.heap.size (fun _ => True) (.slice A' (decodeN 400 l).length c') ((decodeN 400 l).map toS) ∧ Below w.heap.size w w' := by
  subst hn
  refine (decode_any w A c l hC hc).mono ?_
  rintro e w' ⟨v, rfl, hR, hb⟩
  obtain ⟨A', c', rfl, hc', hC'⟩ := Kd.R_reads hR
  rw [List.length_map] at hR ⊢
  exact ⟨A', c', rfl, hR, hb⟩
theorem row_of_N {w : World} {base : Nat} {okk : Nat → Prop} {v : Value} {xs ys : List SAct} (h : Kd.N k26 26 w base okk v ([] ++ xs.map toS ++ ys.map toS)) :
    ∃ A m c, v = .slice A m c ∧ m = (xs ++ ys).length ∧ m ≤ c ∧ Kd.C k26 w A m ((xs ++ ys).map toS) := by
  rw [List.nil_append, ← List.map_append] at h
  obtain ⟨A, c, rfl, h1, h2⟩ := Kd.N_reads h
  rw [List.length_map] at h1 h2
  exact ⟨A, _, c, by rw [List.length_map], rfl, h1, h2⟩
theorem empty_N (w : World) (base : Nat) (hb : base ≤ w.heap.size) : Kd.N k26 26 (w.alloc (.cells #[] 26)) base (fun _ => True) (.slice (some ⟨w.heap.size, 0, none⟩) 0 0) [] :=
  Kd.R_N ⟨fun _ _ => trivial, [], World.ownsRow_lit (size := 6) w #[] 0 hb (by decide) rfl, rfl, fun j p hj => by simp at hj⟩
theorem own_bytes {w : World} {B : Nat} {v : Value} {l : List UInt8} {L : List Int} (hL : L = bi l) (h : w.ownsRow B 5 1 v L.length (nums .u8 L)) : ∃ A m c, v = .slice A m c ∧ m = l.length ∧ m ≤ c ∧ Kd.C (Kd.int .u8) w A m (bi l) := by
  subst hL
  have := Kd.R_of_own (enc := Value.int .u8) (h1 := fun _ => rfl) (ok := fun _ => True) h (fun _ _ => trivial)
  obtain ⟨A, c, e, h1, h2⟩ := Kd.R_reads this
  have hl : (bi l).length = l.length := by simp [bi]
  rw [hl] at e h1 h2
  exact ⟨A, _, c, e, rfl, h1, h2⟩
set_option maxHeartbeats 4000000 in
set_option maxRecDepth 100000 in
theorem behind_walk (W : World) (A : Option Addr) (n c : Nat) (xs : List SAct) (s : ByteArray) (hn : n = xs.length) (hC : Kd.C k26 W A n (xs.map toS)) (hc : n ≤ c) (hx : ∀ a ∈ xs, 0 ≤ a.node ∧ a.node < 256 ∧ 0 ≤ a.kind ∧ a.kind < 256) (hs : s.size ≤ maxLen) :
    Calls Tryd.prog 7 #[.slice A n c, .string s] W (AwPost W) := by
  have HX := Lib.hid hx
  have HC := Lib.hid hC
  have HN := Lib.hid hn
  have hnl : n ≤ 9223372036854775807 := hC.2.1
  have hs1 : s.size ≤ 9223372036854775807 := by simpa [maxLen] using hs
  have kb := fun (w : World) (s : ByteArray) => Lib.run_convert_string_bytes (P := Tryd.prog) w 9 29 5 s Tryd.underlying9 Tryd.underlying29 Tryd.underlying5
  clear hx hC hn hs
  go_enter Tryd.func7, Tryd.ntmps7
  go_wp2_with fail
  refine (great_any W A n c xs HN.out HC.out hc).mono ?_
  rintro e w1 ⟨b, rfl, hg, hb1⟩
  cases b with
  | true =>
    have HB1 := Lib.hid hb1
    clear hg hb1
    go_wp2_with fail
    refine (awake_any w1).mono ?_
    rintro e w2 ⟨rfl, hb2⟩
    have HB2 := Lib.hid (HB1.out.trans (hb2.mono HB1.out.size))
    clear hb2
    go_wp2
    go_ret
    exact ⟨rfl, HB2.out⟩
  | false =>
    obtain ⟨hl, hsm⟩ := hg rfl
    have hok : ∀ a ∈ xs, ok a := fun a ha => ⟨HX.out a ha, hsm a ha⟩
    have HOK := Lib.hid hok
    have HB1 := Lib.hid hb1
    have HL := Lib.hid hl
    clear hg hb1 hok hsm hl
    by_cases h : s.size ≤ 3000
    rotate_left
    have h' : 3000 < s.size := by omega
    all_goals go_wp2_with fail
    have e12 : (s.extract 0 3000).size = min 3000 s.size := by simp
    have hq : (s.extract 0 3000).size ≤ 3000 := by rw [e12]; omega
    generalize s.extract 0 3000 = q at *
    clear e12 h h'
    rotate_left
    obtain ⟨q, hq⟩ : ∃ q, q = s := ⟨s, rfl⟩
    subst hq
    have hq : q.size ≤ 3000 := h
    clear h
    all_goals
      refine (encode_C w1 A n c xs HN.out (Kd.C_below HC.out HB1.out) hc (fun a ha => (HX.out a ha).1)).mono ?_
      rintro e w2 ⟨A2, c2, rfl, hc2, hC2, hb2⟩
      have HC2 := Lib.hid hC2
      have HB2 := Lib.hid (HB1.out.trans (hb2.mono HB1.out.size))
      clear hC2 hb2
      by_cases h4 : 400 < xs.length
      · have hen := encode_long xs h4
        rw [hen] at hc2 HC2 ⊢
        have hn4 : (400 < (n : Int)) = True := by have := HN.out; simp only [eq_iff_iff, iff_true]; omega
        clear hen h4
        go_wp2_with fail
        refine (awake_any w2).mono ?_
        rintro e w3 ⟨rfl, hb3⟩
        have HB3 := Lib.hid (HB2.out.trans (hb3.mono HB2.out.size))
        clear hb3
        go_wp2
        go_ret
        exact ⟨rfl, HB3.out⟩
      · have hn4 : (400 < (n : Int)) = False := by have := HN.out; simp only [eq_iff_iff, iff_false]; omega
        by_cases hp : ∀ a ∈ xs, plain a = true
        · have hen := encode_all xs (by omega) hp
          rw [hen] at hc2 HC2 ⊢
          have HP := Lib.hid hp
          clear hen h4 hp
          have hel : (encAll xs).length ≤ 450 * 40000 := by
            have := encAll_le xs HOK.out
            have := HL.out
            omega
          have hbeh := Lib.hid (decode_behind xs q.data.toList (fun a ha => (HX.out a ha).1) (by rw [List.all_eq_true]; exact HP.out) (by have := HN.out; simp at hn4; omega))
          have hyl : (decodeN 400 q.data.toList).length ≤ 400 := decodeN_length_le _ _
          have hz3 := (Below.refl w2.heap.size w2).alloc (Nat.le_refl _) (Obj.cells #[] 5)
          have HO3 := Lib.hid (own_lit w2 W.heap.size 5 .u8 [] HB2.out.size (by decide))
          have HR3 := Lib.hid (C_reads8 (Kd.C_below HC2.out hz3))
          have HB3 := Lib.hid (HB2.out.alloc HB2.out.size (Obj.cells #[] 5))
          have hbl : (bi (encAll xs)).length = (encAll xs).length := by simp [bi]
          clear hz3
          go_wp2_with (at_builtin; first
            | (refine print_append_row (w0 := W) W.heap.size rfl (.tmp 38) (.tmp 39) 29 5 .u8 1 rfl Tryd.underlying29 u8_info (by decide) (.slice (some ⟨w2.heap.size, 0, none⟩) 0 0) [] (bi (encAll xs)) A2 (encAll xs).length c2 rfl rfl HO3.out HR3.out HB3.out HB3.out.size (by simp; omega) ?_; intro v3 w3 hown3 hbw3 hg3 hat3; have HO4 := Lib.hid hown3; have HB4 := Lib.hid hbw3; clear hown3 hbw3 hg3 hat3)
            | (refine print_append_str (w0 := W) W.heap.size rfl (.tmp 40) (.tmp 41) 29 9 5 rfl Tryd.underlying29 Tryd.underlying9 u8_info v3 ([] ++ bi (encAll xs)) q rfl rfl HO4.out HB4.out HB4.out.size (by rw [List.nil_append, hbl]; omega) ?_; intro v4 w4 hown4 hbw4 hg4; obtain ⟨A4, m4, c4, rfl, hm4, hc4, hC4⟩ := own_bytes (l := encAll xs ++ q.data.toList) (by rw [bytesOf_bi]; simp [bi]) hown4; have HM4 := Lib.hid hm4; have HC4 := Lib.hid hC4; have HB5 := Lib.hid hbw4; clear hown4 hbw4 hg4 hC4 hm4))
          refine (decode_C w4 A4 m4 c4 (encAll xs ++ q.data.toList) HM4.out HC4.out hc4).mono ?_
          rw [hbeh.out]
          obtain ⟨m5, hm5⟩ : ∃ m, m = ((xs ++ decodeN 400 q.data.toList).take 400).length := ⟨_, rfl⟩
          rw [← hm5]
          have HM5 := Lib.hid hm5
          clear hm5
          rintro e w5 ⟨A5, c5, rfl, hc5, hC5, hb5⟩
          have HC5 := Lib.hid hC5
          have HB6 := Lib.hid (HB5.out.trans (hb5.mono HB5.out.size))
          clear hC5 hb5
          have HN5 := Lib.hid (empty_N w5 W.heap.size HB6.out.size)
          have HF5 := Lib.hid (Kd.F_alloc (Kd.C_F heap_k26 (Kd.C_below HC.out HB6.out)) (.cells #[] 26))
          have HB7 := Lib.hid (HB6.out.alloc HB6.out.size (Obj.cells #[] 26))
          have hzz := (Below.refl w5.heap.size w5).alloc (Nat.le_refl _) (Obj.cells #[] 26)
          have HZ7 := Lib.hid hzz
          clear hzz
          go_wp2_with (at_builtin; refine Kd.N_append_rows k26 (w0 := W) W.heap.size rfl (.tmp 44) (.tmp 45) 27 26 (.agg #[.int .u8 0, .int .u8 0, .int .i64 0, .string ⟨#[]⟩, .slice none 0 0, .slice none 0 0]) 80 rfl Tryd.underlying27 info26 rfl (by decide) (by decide) (.slice (some ⟨w5.heap.size, 0, none⟩) 0 0) [] (xs.map toS) A n c (fun _ => True) (fun k => k < w5.heap.size) rfl rfl HN5.out HF5.out (fun k hk => ⟨trivial, fun e => by simp [Value.ownBlock] at e; omega⟩) (fun _ _ => trivial) HB7.out HB7.out.size (by have := HL.out; have := HN.out; simp; omega) ?_; intro v6 w6 hN6 hb6 hg6 hat6; have HN6 := Lib.hid hN6; have HB8 := Lib.hid hb6; have HG6 := Lib.hid hg6; have HA6 := Lib.hid hat6; clear hN6 hb6 hat6 hg6)
          have hz6 : Below w5.heap.size w5 w6 := HZ7.out.grown HG6.out HZ7.out.size (fun k hk => by simp [Value.ownBlock] at hk; omega)
          have hown6 : ∀ k, v6.ownBlock = some k → w5.heap.size ≤ k := fun k hk => by
            rcases HA6.out with h | ⟨b, h1, h2⟩
            · rw [h] at hk; simp [Value.ownBlock] at hk; omega
            · rw [h1] at hk
              have : b = k := by simpa using hk
              have h3 : w5.heap.size < (w5.alloc (Obj.cells #[] 26)).heap.size := sz_alloc _ _
              omega
          have HZ6 := Lib.hid hz6
          have HW6 := Lib.hid hown6
          clear hz6 hown6
          refine (decode_R (Lib.bytesWorld w6 5 q) _ q.size _ q.data.toList rfl (str_C w6 q (by omega)) (str_cap w6 q)).mono ?_
          generalize decodeN 400 q.data.toList = ys at *
          rintro e w7 ⟨A7, c7, rfl, hR7, hb7⟩
          have HN7 := Lib.hid (Kd.N_below (Kd.N_below HN6.out (str_below w6 q)) hb7)
          have HF7 := Lib.hid (Kd.N_F (Kd.R_N (Kd.R_mono (ok' := fun k => (Lib.bytesWorld w6 5 q).heap.size ≤ k) (Kd.R_bound hR7) (fun k hk => hk.2.1))))
          have HB9 := Lib.hid (HB8.out.trans (((str_below w6 q).mono HB8.out.size).trans (hb7.mono (Nat.le_trans HB8.out.size (str_below w6 q).size))))
          have HZ9 := Lib.hid (HZ6.out.trans (((str_below w6 q).mono HZ6.out.size).trans (hb7.mono (Nat.le_trans HZ6.out.size (str_below w6 q).size))))
          clear hR7 hb7
          have hokp : Hid (∀ k, (Lib.bytesWorld w6 5 q).heap.size ≤ k → True ∧ some k ≠ v6.ownBlock) := Lib.hid (fun k hk => ⟨trivial, fun e => by have h1 := Kd.N_lt HN6.out k e.symm; have h2 := (str_below w6 q).size; omega⟩)
          have hbd : Hid ((([] ++ xs.map toS).length + ys.length) * 80 ≤ 140737488355328) := Lib.hid (by have := HL.out; rw [List.nil_append, List.length_map]; omega)
          have hF7 : Kd.F k26 w7 (fun k => (Lib.bytesWorld w6 5 q).heap.size ≤ k) A7 ys.length (ys.map toS) := HF7.out
          by_cases hlen : (xs ++ ys).length ≤ 400
          · go_wp2_with (at_builtin; refine Kd.N_append_rows k26 (w0 := W) W.heap.size rfl (.tmp 46) (.tmp 49) 27 26 (.agg #[.int .u8 0, .int .u8 0, .int .i64 0, .string ⟨#[]⟩, .slice none 0 0, .slice none 0 0]) 80 rfl Tryd.underlying27 info26 rfl (by decide) (by decide) v6 ([] ++ xs.map toS) (ys.map toS) A7 ys.length c7 (fun _ => True) (fun k => (Lib.bytesWorld w6 5 q).heap.size ≤ k) rfl rfl HN7.out HF7.out hokp.out (fun k hk => trivial) HB9.out HB9.out.size hbd.out ?_; intro v8 w8 hN8 hb8 hg8 hat8; have hz8 := HZ9.out.grown hg8 HZ9.out.size HW6.out; obtain ⟨A8, m8, c8, rfl, hm8, hc8, hC8⟩ := row_of_N hN8; have hle : ((400 : Int) < (m8 : Int)) = False := (by simp only [eq_iff_iff, iff_false]; omega); have HM8 := Lib.hid hm8; have HC8 := Lib.hid hC8; have HB10 := Lib.hid hb8; have HC58 := Lib.hid (Kd.C_below HC5.out hz8); clear hN8 hb8 hg8 hat8 hz8 hm8 hC8)
            refine (same_any w8 A5 A8 c5 c8 ((xs ++ ys).take 400) (xs ++ ys) m5 m8 HM5.out HM8.out HC58.out hc5 HC8.out hc8).mono ?_
            rw [decide_eq_true (List.take_of_length_le hlen)]
            rintro e w9 ⟨rfl, hb9⟩
            have HB11 := Lib.hid (HB10.out.trans (hb9.mono HB10.out.size))
            clear hb9
            go_wp2_with fail
            refine (awake_any w9).mono ?_
            rintro e w10 ⟨rfl, hb10⟩
            have HB12 := Lib.hid (HB11.out.trans (hb10.mono HB11.out.size))
            clear hb10
            go_wp2
            go_ret
            exact ⟨rfl, HB12.out⟩
          · go_wp2_with (at_builtin; refine Kd.N_append_rows k26 (w0 := W) W.heap.size rfl (.tmp 46) (.tmp 49) 27 26 (.agg #[.int .u8 0, .int .u8 0, .int .i64 0, .string ⟨#[]⟩, .slice none 0 0, .slice none 0 0]) 80 rfl Tryd.underlying27 info26 rfl (by decide) (by decide) v6 ([] ++ xs.map toS) (ys.map toS) A7 ys.length c7 (fun _ => True) (fun k => (Lib.bytesWorld w6 5 q).heap.size ≤ k) rfl rfl HN7.out HF7.out hokp.out (fun k hk => trivial) HB9.out HB9.out.size hbd.out ?_; intro v8 w8 hN8 hb8 hg8 hat8; have hz8 := HZ9.out.grown hg8 HZ9.out.size HW6.out; obtain ⟨A8, m8, c8, rfl, hm8, hc8, hC8⟩ := row_of_N hN8; have hle : ((400 : Int) < (m8 : Int)) = True := (by simp only [eq_iff_iff, iff_true]; omega); have hc400 : (400 : Int) ≤ (c8 : Int) := (by omega); have HM8 := Lib.hid hm8; have HC8 := Lib.hid hC8; have HB10 := Lib.hid hb8; have HC58 := Lib.hid (Kd.C_below HC5.out hz8); clear hN8 hb8 hg8 hat8 hz8 hm8 hC8)
            refine (same_any w8 A5 A8 c5 c8 ((xs ++ ys).take 400) ((xs ++ ys).take 400) m5 400 HM5.out (by rw [List.length_take]; omega) HC58.out hc5 (by rw [List.map_take]; exact C_take 400 (by have := HM8.out; omega) HC8.out) (by omega)).mono ?_
            rw [decide_eq_true (rfl : (xs ++ ys).take 400 = (xs ++ ys).take 400)]
            rintro e w9 ⟨rfl, hb9⟩
            have HB11 := Lib.hid (HB10.out.trans (hb9.mono HB10.out.size))
            clear hb9
            go_wp2_with fail
            refine (awake_any w9).mono ?_
            rintro e w10 ⟨rfl, hb10⟩
            have HB12 := Lib.hid (HB11.out.trans (hb10.mono HB11.out.size))
            clear hb10
            go_wp2
            go_ret
            exact ⟨rfl, HB12.out⟩
        · have hen : encode xs = ([], 1) := by
            have : ∃ a ∈ xs, plain a = false := by simpa using hp
            obtain ⟨a, ha, hpa⟩ := this
            obtain ⟨i, hi, rfl⟩ := List.getElem_of_mem ha
            exact encode_not xs (by omega) i _ (List.getElem?_eq_getElem hi) hpa
          rw [hen] at hc2 HC2 ⊢
          clear hen h4 hp
          go_wp2_with fail
          refine (awake_any w2).mono ?_
          rintro e w3 ⟨rfl, hb3⟩
          have HB3 := Lib.hid (HB2.out.trans (hb3.mono HB2.out.size))
          clear hb3
          go_wp2
          go_ret
          exact ⟨rfl, HB3.out⟩
end Go.Proofs.YtjipfdabkncnmaaDoor.S

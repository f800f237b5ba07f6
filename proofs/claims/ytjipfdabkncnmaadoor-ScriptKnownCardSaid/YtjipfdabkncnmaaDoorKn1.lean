/- ScriptKnown, walked: it comes to true. -/
import Derived.Test.YtjipfdabkncnmaaDoorKa
namespace Go.Proofs.YtjipfdabkncnmaaDoor.S
open Go.RowKit Go.Proofs.YtjipfdabkncnmaaDoorW.PrintWords Go.Proofs.YtjipfdabkncnmaaDoorW.PrintLast Go.Proofs.YtjipfdabkncnmaaDoorW.PrintMore
open PScriptTotal (S24 S26 k26 k24 z26)
set_option linter.unusedVariables false
set_option linter.unusedSimpArgs false

/-- a row of one act without lists, as it is laid. -/
theorem one26 (W : World) (a : SAct) (hk : a.keep = []) (ht : a.torn = []) : Kd.C k26 (W.alloc (.cells #[.int .u8 a.kind, .int .u8 a.node, .int .i64 a.n, .string ⟨a.text.toArray⟩, .slice none 0 0, .slice none 0 0] 26)) (some ⟨W.heap.size, 0, none⟩) 1 ([a].map toS) := by
  refine row26 (xs := [a]) (heap_alloc_new W _) (by simp) (fun j b hb => ?_)
  have hj : j = 0 := by
    rcases j with _ | j
    · rfl
    · simp at hb
  subst hj
  simp only [List.getElem?_cons_zero, Option.some.injEq] at hb
  subst hb
  exact ⟨simple a, rfl, simple_K _ a hk ht, fun i u hu => by
    simp only [Nat.zero_mul, Nat.zero_add]
    rw [← hu]
    simp [simple]⟩
def fuseAct : SAct := ⟨6, 3, 7, [], [1, 0], [3, 9]⟩
theorem k_dec1 : decodeN 400 [5, 2, 7, 2, 1, 3, 0, 9] = [fuseAct] := by rfl
theorem k_dec2 : decodeN 400 [0] = [⟨1, 1, 0, [], [], []⟩] := by rfl
theorem k_dec3 : decodeN 400 [9, 0, 255, 255, 97] = [⟨1, 1, 0, [97], [], []⟩] := by rfl
theorem k_dec4 : decodeN 400 [255] = [⟨4, 0, 0, [], [], []⟩] := by rfl
theorem k_enc : encode [⟨9, 7, 20, [], [], []⟩] = ([8, 7, 20], 0) := by rfl

/-- the chapter's fuse, as it is laid. -/
theorem fuse_C (W : World) : Kd.C k26 (((W.alloc (Obj.cells #[Value.int IntKind.i64 1, Value.int IntKind.i64 0] 3)).alloc (Obj.cells #[Value.int IntKind.i64 3, Value.int IntKind.i64 9] 3)).alloc
      (Obj.cells #[Value.int IntKind.u8 6, Value.int IntKind.u8 3, Value.int IntKind.i64 7, Value.string { data := #[] }, Value.slice (some { block := W.heap.size, off := 0 }) 2 2, Value.slice (some { block := W.heap.size + 1, off := 0 }) 2 2] 26))
      (some ⟨W.heap.size + 1 + 1, 0, none⟩) 1 ([fuseAct].map toS) ∧ Below W.heap.size W (((W.alloc (Obj.cells #[Value.int IntKind.i64 1, Value.int IntKind.i64 0] 3)).alloc (Obj.cells #[Value.int IntKind.i64 3, Value.int IntKind.i64 9] 3)).alloc
      (Obj.cells #[Value.int IntKind.u8 6, Value.int IntKind.u8 3, Value.int IntKind.i64 7, Value.string { data := #[] }, Value.slice (some { block := W.heap.size, off := 0 }) 2 2, Value.slice (some { block := W.heap.size + 1, off := 0 }) 2 2] 26)) := by
  have z1 : (W.alloc (Obj.cells #[Value.int IntKind.i64 1, Value.int IntKind.i64 0] 3)).heap.size = W.heap.size + 1 := by
    show (W.heap.push _).size = _
    rw [Array.size_push]
  have ints2 : ∀ (V : World) (x y : Int), Kd.C (Kd.int .i64) (V.alloc (Obj.cells #[Value.int IntKind.i64 x, Value.int IntKind.i64 y] 3)) (some ⟨V.heap.size, 0, none⟩) 2 [x, y] := fun V x y =>
    (Kd.R_reads' (Kd.R_of_own (enc := Value.int .i64) (h1 := fun _ => rfl) (ok := fun _ => True) (own_lit V V.heap.size 3 .i64 [x, y] (Nat.le_refl _) (by simp)) (fun _ _ => trivial))).2.2
  have c1 := ints2 W 1 0
  have c2 := ints2 (W.alloc (Obj.cells #[Value.int IntKind.i64 1, Value.int IntKind.i64 0] 3)) 3 9
  have b1 := (Below.refl W.heap.size W).alloc (Nat.le_refl _) (Obj.cells #[Value.int IntKind.i64 1, Value.int IntKind.i64 0] 3)
  have b2 := (Below.refl (W.alloc (Obj.cells #[Value.int IntKind.i64 1, Value.int IntKind.i64 0] 3)).heap.size (W.alloc (Obj.cells #[Value.int IntKind.i64 1, Value.int IntKind.i64 0] 3))).alloc (Nat.le_refl _) (Obj.cells #[Value.int IntKind.i64 3, Value.int IntKind.i64 9] 3)
  rw [z1] at c2
  generalize W.alloc (Obj.cells #[Value.int IntKind.i64 1, Value.int IntKind.i64 0] 3) = W1 at *
  have z2 : (W1.alloc (Obj.cells #[Value.int IntKind.i64 3, Value.int IntKind.i64 9] 3)).heap.size = W.heap.size + 1 + 1 := by
    show (W1.heap.push _).size = _
    rw [Array.size_push, z1]
  have c1' := Kd.C_below c1 b2
  have b12 := b1.trans (b2.mono b1.size)
  have c2' := c2
  clear ints2
  generalize W1.alloc (Obj.cells #[Value.int IntKind.i64 3, Value.int IntKind.i64 9] 3) = W2 at *
  have b3 := (Below.refl W2.heap.size W2).alloc (Nat.le_refl _) (Obj.cells #[Value.int IntKind.u8 6, Value.int IntKind.u8 3, Value.int IntKind.i64 7, Value.string { data := #[] }, Value.slice (some { block := W.heap.size, off := 0 }) 2 2, Value.slice (some { block := W.heap.size + 1, off := 0 }) 2 2] 26)
  refine ⟨?_, b12.trans (b3.mono b12.size)⟩
  have hg := heap_alloc_new W2 (Obj.cells #[Value.int IntKind.u8 6, Value.int IntKind.u8 3, Value.int IntKind.i64 7, Value.string { data := #[] }, Value.slice (some { block := W.heap.size, off := 0 }) 2 2, Value.slice (some { block := W.heap.size + 1, off := 0 }) 2 2] 26)
  rw [z2] at hg
  refine row26 (xs := [fuseAct]) hg (by simp) (fun j b hb => ?_)
  have hj : j = 0 := by
    rcases j with _ | j
    · rfl
    · simp at hb
  subst hj
  simp only [List.getElem?_cons_zero, Option.some.injEq] at hb
  subst hb
  refine ⟨[Value.int IntKind.u8 6, Value.int IntKind.u8 3, Value.int IntKind.i64 7, Value.string { data := #[] }, Value.slice (some { block := W.heap.size, off := 0 }) 2 2, Value.slice (some { block := W.heap.size + 1, off := 0 }) 2 2], rfl, ?_, fun i u hu => ?_⟩
  · exact PScriptTotal.k26_mk _ (toS fuseAct) (A4 := some ⟨W.heap.size, 0, none⟩) (c4 := 2) (by decide) (Kd.C_below c1' b3) (A5 := some ⟨W.heap.size + 1, 0, none⟩) (c5 := 2) (by decide) (Kd.C_below c2' b3)
  · simp only [Nat.zero_mul, Nat.zero_add]
    rw [← hu]
    simp

theorem act_at2k {w : World} {A : Option Addr} (h : Kd.C k26 w A 14 (acts14.map toS)) (i : Nat) (hi : i < 14) :
    ∃ ad A4 c4 A5 c5 a, A = some ad ∧ acts14[i]? = some a ∧ w.cell? (ad.add (i * 6)) = some (.int .u8 a.kind) ∧ w.cell? ⟨(ad.add (i * 6)).block, (ad.add (i * 6)).off + 1, none⟩ = some (.int .u8 a.node) ∧
      w.cell? ⟨(ad.add (i * 6)).block, (ad.add (i * 6)).off + 2, none⟩ = some (.int .i64 a.n) ∧ w.cell? ⟨(ad.add (i * 6)).block, (ad.add (i * 6)).off + 3, none⟩ = some (.string ⟨a.text.toArray⟩) ∧
      w.cell? ⟨(ad.add (i * 6)).block, (ad.add (i * 6)).off + 4, none⟩ = some (.slice A4 a.keep.length c4) ∧ w.cell? ⟨(ad.add (i * 6)).block, (ad.add (i * 6)).off + 5, none⟩ = some (.slice A5 a.torn.length c5) ∧
      a.keep.length ≤ c4 ∧ (Kd.int .i64).C w A4 a.keep.length a.keep ∧ a.torn.length ≤ c5 ∧ (Kd.int .i64).C w A5 a.torn.length a.torn := by
  obtain ⟨ad, A4, c4, A5, c5, e, h0, h1, h2, h3, h4, h5, l4, g4, l5, g5⟩ := PScriptTotal.at_T26 h (i : Int) (by omega) (by omega)
  have hi' : i < acts14.length := hi
  have hg : acts14[i]? = some acts14[i] := List.getElem?_eq_getElem hi'
  have hr : PScriptTotal.rd_T26 (acts14.map toS) (i : Int) = toS acts14[i] := by
    simp [PScriptTotal.rd_T26, List.getD, List.getElem?_map, hg]
  rw [hr] at h0 h1 h2 h3 h4 h5 l4 g4 l5 g5
  simp only [Int.toNat_natCast, toS] at h0 h1 h2 h3 h4 h5 g4 g5
  exact ⟨ad, A4, c4, A5, c5, acts14[i], e, hg, h0, h1, h2, h3, h4, h5, l4, g4, l5, g5⟩
theorem acts14_not (a : SAct) (h : a ∈ acts14) : plain a = false ∧ 0 ≤ a.node := by
  simp only [acts14, List.mem_cons, List.not_mem_nil, or_false] at h
  rcases h with rfl | rfl | rfl | rfl | rfl | rfl | rfl | rfl | rfl | rfl | rfl | rfl | rfl | rfl
  iterate 13 (next => decide)
  refine ⟨?_, by decide⟩
  have hz : zeros.length = 65536 := by unfold zeros; rw [List.length_replicate]
  have e1 : (q13.kind = 1) := rfl
  have e2 : q13.text = zeros := rfl
  unfold plain
  rw [if_pos e1, e2, hz]
  simp
theorem enc_not (a : SAct) (h : plain a = false) : encode [a] = ([], 1) := by simp [encode, h]
/-- a row of one act, as it is laid. -/
theorem one26g (W : World) (a : SAct) {A4 A5 : Option Addr} {c4 c5 : Nat} (l4 : a.keep.length ≤ c4) (g4 : (Kd.int .i64).C W A4 a.keep.length a.keep) (l5 : a.torn.length ≤ c5) (g5 : (Kd.int .i64).C W A5 a.torn.length a.torn) :
    Kd.C k26 (W.alloc (.cells #[.int .u8 a.kind, .int .u8 a.node, .int .i64 a.n, .string ⟨a.text.toArray⟩, .slice A4 a.keep.length c4, .slice A5 a.torn.length c5] 26)) (some ⟨W.heap.size, 0, none⟩) 1 ([a].map toS) := by
  refine row26 (xs := [a]) (heap_alloc_new W _) (by simp) (fun j b hb => ?_)
  have hj : j = 0 := by
    rcases j with _ | j
    · rfl
    · simp at hb
  subst hj
  simp only [List.getElem?_cons_zero, Option.some.injEq] at hb
  subst hb
  exact ⟨_, rfl, PScriptTotal.k26_mk _ (toS a) (A4 := A4) (c4 := c4) l4 (Kd.C_below g4 (al _ _)) (A5 := A5) (c5 := c5) l5 (Kd.C_below g5 (al _ _)), fun i u hu => by
    simp only [Nat.zero_mul, Nat.zero_add]
    rw [← hu]
    simp [toS]⟩
def FiRel (wx : World) (gk : Nat) (v : Value) (wr : World) : Prop :=
  ∃ i : Nat, v = .int .i64 (i : Int) ∧ gk + i = 809 ∧ Below wx.heap.size wx wr ∧ ∃ cs : Array Value, wr.heap[wx.heap.size]? = some (.cells cs 5 (0, 0)) ∧ cs.size = 809 ∧ ∀ j, j < i → cs[j]? = some (.int .u8 1)
theorem dec_many : ∀ (k m : Nat), decodeN k (List.replicate (2 * k + m) 1) = List.replicate k mAct := by
  intro k
  induction k with
  | zero => intro m; rfl
  | succ k ih =>
    intro m
    have e : List.replicate (2 * (k + 1) + m) (1 : UInt8) = 1 :: 1 :: List.replicate (2 * k + m) 1 := by
      rw [show 2 * (k + 1) + m = (2 * k + m) + 1 + 1 by omega]; rfl
    rw [e, decodeN]
    have hr : readAct (1 :: 1 :: List.replicate (2 * k + m) 1) = (mAct, List.replicate (2 * k + m) 1) := rfl
    rw [hr, ih m]; rfl
theorem enc_many (k : Nat) (h : k ≤ 400) : encode (List.replicate k mAct) = (encAll (List.replicate k mAct), 0) :=
  encode_all _ (by simpa using h) (fun a ha => by rw [List.eq_of_mem_replicate ha]; rfl)
theorem len_many (k : Nat) : (encAll (List.replicate k mAct)).length = 2 * k := by
  induction k with
  | zero => rfl
  | succ k ih =>
    simp only [encAll, List.replicate_succ, List.flatMap_cons, List.length_append] at ih ⊢
    rw [ih]
    have : (bytesOf mAct).length = 2 := rfl
    omega
theorem decode_R2k (w : World) (A : Option Addr) (n c : Nat) (l : List UInt8) (hn : n = l.length) (hC : Kd.C (Kd.int .u8) w A n (bi l)) (hc : n ≤ c) :
    Calls Tryd.prog 9 #[.slice A n c] w fun e w' => ∃ A' m c', e = .returned (.slice A' m c') ∧ m = (decodeN 400 l).length ∧ m ≤ c' ∧ k26.R 26 w' w.heap.size (fun _ => True) (.slice A' m c') ((decodeN 400 l).map toS) ∧ Below w.heap.size w w' := by
  subst hn
  refine (decode_any w A c l hC hc).mono ?_
  rintro e w' ⟨v, rfl, hR, hb⟩
  obtain ⟨A', c', rfl, hc', hC'⟩ := Kd.R_reads hR
  rw [List.length_map] at hc' hR ⊢
  exact ⟨A', _, c', rfl, rfl, hc', hR, hb⟩
theorem fill_C {W : World} {g : Nat} {cs : Array Value} {t : TypeId} {fz : Nat × Nat} (hcs : W.heap[g]? = some (.cells cs t fz)) (hone : ∀ j, j < 809 → cs[j]? = some (.int .u8 1)) : Kd.C (Kd.int .u8) W (some ⟨g, 0, none⟩) 809 (bi (List.replicate 809 1)) := by
  have hl : (List.replicate 809 (1 : UInt8)).length = 809 := List.length_replicate
  have := row_C (l := List.replicate 809 1) hcs (by rw [hl]; decide) (fun j hj => by
    have hj' : j < 809 := by rwa [hl] at hj
    have e : (List.replicate 809 (1 : UInt8)).getD j 0 = 1 := by rw [List.getD_eq_getElem?_getD, List.getElem?_replicate, if_pos hj']; rfl
    rw [hone j hj', e]; rfl)
  rwa [hl] at this
theorem size_al (W : World) (o : Obj) : (W.alloc o).heap.size = W.heap.size + 1 := by
  show (W.heap.push o).size = _
  rw [Array.size_push]

set_option maxHeartbeats 40000000 in
set_option maxRecDepth 100000 in
theorem known_walk (W : World) : Calls Tryd.prog 3 #[] W (AwPost W) := by
  have kc := fun (w : World) (C : Array Value) (n c : Nat) => Lib.run_convert_bytes_const (P := Tryd.prog) w 29 5 C n c Tryd.underlying29 Tryd.underlying5
  go_enter Tryd.func3, Tryd.ntmps3
  go_upto_region 2 with (fail)
  obtain ⟨hfu, hbf⟩ := fuse_C W
  generalize ((W.alloc (Obj.cells #[Value.int IntKind.i64 1, Value.int IntKind.i64 0] 3)).alloc (Obj.cells #[Value.int IntKind.i64 3, Value.int IntKind.i64 9] 3)).alloc
      (Obj.cells #[Value.int IntKind.u8 6, Value.int IntKind.u8 3, Value.int IntKind.i64 7, Value.string { data := #[] }, Value.slice (some { block := W.heap.size, off := 0 }) 2 2, Value.slice (some { block := W.heap.size + 1, off := 0 }) 2 2] 26) = w0 at *
  have CF := Lib.hid hfu
  have HB := Lib.hid hbf
  clear hfu hbf
  go_wp2_with fail
  have hz0 := (Below.refl w0.heap.size w0).alloc (Nat.le_refl _) (Obj.cells (bv [5, 2, 7, 2, 1, 3, 0, 9]).toArray 5 (8, 9))
  refine (decode_C _ _ 8 8 [5, 2, 7, 2, 1, 3, 0, 9] rfl (const_C w0 [5, 2, 7, 2, 1, 3, 0, 9] (8, 9) (by decide)) (by decide)).mono ?_
  rw [k_dec1]
  rintro e w1 ⟨Aa, ca, rfl, hca, hCa, hb0⟩
  have hy0 := hz0.trans (hb0.mono hz0.size)
  replace CF := Lib.hid (Kd.C_below CF.out hy0)
  replace HB := Lib.hid (HB.out.trans (hy0.mono HB.out.size))
  have Ca := Lib.hid hCa
  clear hCa hb0 hz0 hy0
  go_wp2_with fail
  have hz1 := (Below.refl w1.heap.size w1).alloc (Nat.le_refl _) (Obj.cells (bv [0]).toArray 5 (1, 2))
  refine (decode_C _ _ 1 1 [0] rfl (const_C w1 [0] (1, 2) (by decide)) (by decide)).mono ?_
  rw [k_dec2]
  rintro e w2 ⟨Ab, cb, rfl, hcb, hCb, hb1⟩
  have hy1 := hz1.trans (hb1.mono hz1.size)
  replace CF := Lib.hid (Kd.C_below CF.out hy1)
  replace Ca := Lib.hid (Kd.C_below Ca.out hy1)
  replace HB := Lib.hid (HB.out.trans (hy1.mono HB.out.size))
  have Cb := Lib.hid hCb
  clear hCb hb1 hz1 hy1
  go_wp2_with fail
  have hz2 := (Below.refl w2.heap.size w2).alloc (Nat.le_refl _) (Obj.cells (bv [9, 0, 255, 255, 97]).toArray 5 (5, 6))
  refine (decode_C _ _ 5 5 [9, 0, 255, 255, 97] rfl (const_C w2 [9, 0, 255, 255, 97] (5, 6) (by decide)) (by decide)).mono ?_
  rw [k_dec3]
  rintro e w3 ⟨Ac, cc, rfl, hcc, hCc, hb2⟩
  have hy2 := hz2.trans (hb2.mono hz2.size)
  replace CF := Lib.hid (Kd.C_below CF.out hy2)
  replace Ca := Lib.hid (Kd.C_below Ca.out hy2)
  replace Cb := Lib.hid (Kd.C_below Cb.out hy2)
  replace HB := Lib.hid (HB.out.trans (hy2.mono HB.out.size))
  have Cc := Lib.hid hCc
  clear hCc hb2 hz2 hy2
  go_wp2_with fail
  have hz3 := (Below.refl w3.heap.size w3).alloc (Nat.le_refl _) (Obj.cells (bv [255]).toArray 5 (1, 2))
  refine (decode_C _ _ 1 1 [255] rfl (const_C w3 [255] (1, 2) (by decide)) (by decide)).mono ?_
  rw [k_dec4]
  rintro e w4 ⟨Ad, cd, rfl, hcd, hCd, hb3⟩
  have hy3 := hz3.trans (hb3.mono hz3.size)
  replace CF := Lib.hid (Kd.C_below CF.out hy3)
  replace Ca := Lib.hid (Kd.C_below Ca.out hy3)
  replace Cb := Lib.hid (Kd.C_below Cb.out hy3)
  replace Cc := Lib.hid (Kd.C_below Cc.out hy3)
  replace HB := Lib.hid (HB.out.trans (hy3.mono HB.out.size))
  have Cd := Lib.hid hCd
  clear hCd hb3 hz3 hy3
  go_wp2_with fail
  have hz4 := (Below.refl w4.heap.size w4).alloc (Nat.le_refl _) (Obj.cells #[.int .u8 (⟨9, 7, 20, [], [], []⟩ : SAct).kind, .int .u8 (⟨9, 7, 20, [], [], []⟩ : SAct).node, .int .i64 (⟨9, 7, 20, [], [], []⟩ : SAct).n, .string ⟨(⟨9, 7, 20, [], [], []⟩ : SAct).text.toArray⟩, .slice none 0 0, .slice none 0 0] 26)
  have hone4 := one26 w4 ⟨9, 7, 20, [], [], []⟩ rfl rfl
  refine (encode_C _ _ 1 1 [⟨9, 7, 20, [], [], []⟩] rfl hone4 (Nat.le_refl _) (by decide)).mono ?_
  rw [k_enc]
  rintro e w5 ⟨Ae, ce, rfl, hce, hCe, hb4⟩
  have hy4 := hz4.trans (hb4.mono hz4.size)
  replace CF := Lib.hid (Kd.C_below CF.out hy4)
  replace Ca := Lib.hid (Kd.C_below Ca.out hy4)
  replace Cb := Lib.hid (Kd.C_below Cb.out hy4)
  replace Cc := Lib.hid (Kd.C_below Cc.out hy4)
  replace Cd := Lib.hid (Kd.C_below Cd.out hy4)
  replace HB := Lib.hid (HB.out.trans (hy4.mono HB.out.size))
  have Ce := Lib.hid hCe
  clear hCe hb4 hz4 hy4 hone4
  go_wp2_with fail
  refine (same_any w5 Aa (some ⟨W.heap.size + 1 + 1, 0, none⟩) ca 1 [fuseAct] [fuseAct] _ 1 rfl rfl Ca.out hca CF.out (Nat.le_refl _)).mono ?_
  rintro e w6 ⟨rfl, hb5⟩
  rw [decide_eq_true (rfl : [fuseAct] = [fuseAct])]
  clear CF Ca
  replace Cb := Lib.hid (Kd.C_below Cb.out hb5)
  replace Cc := Lib.hid (Kd.C_below Cc.out hb5)
  replace Cd := Lib.hid (Kd.C_below Cd.out hb5)
  replace Ce := Lib.hid (Kd.C_below Ce.out hb5)
  replace HB := Lib.hid (HB.out.trans (hb5.mono HB.out.size))
  clear hb5
  go_wp2_with fail
  have hz6 := (Below.refl w6.heap.size w6).alloc (Nat.le_refl _) (Obj.cells #[.int .u8 (⟨1, 1, 0, [], [], []⟩ : SAct).kind, .int .u8 (⟨1, 1, 0, [], [], []⟩ : SAct).node, .int .i64 (⟨1, 1, 0, [], [], []⟩ : SAct).n, .string ⟨(⟨1, 1, 0, [], [], []⟩ : SAct).text.toArray⟩, .slice none 0 0, .slice none 0 0] 26)
  have hone6 := one26 w6 ⟨1, 1, 0, [], [], []⟩ rfl rfl
  refine (same_any _ Ab (some ⟨w6.heap.size, 0, none⟩) cb 1 [⟨1, 1, 0, [], [], []⟩] [⟨1, 1, 0, [], [], []⟩] _ 1 rfl rfl (Kd.C_below Cb.out hz6) hcb hone6 (Nat.le_refl _)).mono ?_
  rintro e w7 ⟨rfl, hb6⟩
  rw [decide_eq_true (rfl : ([⟨1, 1, 0, [], [], []⟩] : List SAct) = [⟨1, 1, 0, [], [], []⟩])]
  have hy6 := hz6.trans (hb6.mono hz6.size)
  clear Cb
  replace Cc := Lib.hid (Kd.C_below Cc.out hy6)
  replace Cd := Lib.hid (Kd.C_below Cd.out hy6)
  replace Ce := Lib.hid (Kd.C_below Ce.out hy6)
  replace HB := Lib.hid (HB.out.trans (hy6.mono HB.out.size))
  clear hb6 hz6 hy6 hone6
  go_wp2_with fail
  have hz7 := (Below.refl w7.heap.size w7).alloc (Nat.le_refl _) (Obj.cells #[.int .u8 (⟨1, 1, 0, [97], [], []⟩ : SAct).kind, .int .u8 (⟨1, 1, 0, [97], [], []⟩ : SAct).node, .int .i64 (⟨1, 1, 0, [97], [], []⟩ : SAct).n, .string ⟨(⟨1, 1, 0, [97], [], []⟩ : SAct).text.toArray⟩, .slice none 0 0, .slice none 0 0] 26)
  have hone7 := one26 w7 ⟨1, 1, 0, [97], [], []⟩ rfl rfl
  refine (same_any _ Ac (some ⟨w7.heap.size, 0, none⟩) cc 1 [⟨1, 1, 0, [97], [], []⟩] [⟨1, 1, 0, [97], [], []⟩] _ 1 rfl rfl (Kd.C_below Cc.out hz7) hcc hone7 (Nat.le_refl _)).mono ?_
  rintro e w8 ⟨rfl, hb7⟩
  rw [decide_eq_true (rfl : ([⟨1, 1, 0, [97], [], []⟩] : List SAct) = [⟨1, 1, 0, [97], [], []⟩])]
  have hy7 := hz7.trans (hb7.mono hz7.size)
  clear Cc
  replace Cd := Lib.hid (Kd.C_below Cd.out hy7)
  replace Ce := Lib.hid (Kd.C_below Ce.out hy7)
  replace HB := Lib.hid (HB.out.trans (hy7.mono HB.out.size))
  clear hb7 hz7 hy7 hone7
  go_wp2_with fail
  have hz8 := (Below.refl w8.heap.size w8).alloc (Nat.le_refl _) (Obj.cells #[.int .u8 (⟨4, 0, 0, [], [], []⟩ : SAct).kind, .int .u8 (⟨4, 0, 0, [], [], []⟩ : SAct).node, .int .i64 (⟨4, 0, 0, [], [], []⟩ : SAct).n, .string ⟨(⟨4, 0, 0, [], [], []⟩ : SAct).text.toArray⟩, .slice none 0 0, .slice none 0 0] 26)
  have hone8 := one26 w8 ⟨4, 0, 0, [], [], []⟩ rfl rfl
  refine (same_any _ Ad (some ⟨w8.heap.size, 0, none⟩) cd 1 [⟨4, 0, 0, [], [], []⟩] [⟨4, 0, 0, [], [], []⟩] _ 1 rfl rfl (Kd.C_below Cd.out hz8) hcd hone8 (Nat.le_refl _)).mono ?_
  rintro e w9 ⟨rfl, hb8⟩
  rw [decide_eq_true (rfl : ([⟨4, 0, 0, [], [], []⟩] : List SAct) = [⟨4, 0, 0, [], [], []⟩])]
  have hy8 := hz8.trans (hb8.mono hz8.size)
  clear Cd
  replace Ce := Lib.hid (Kd.C_below Ce.out hy8)
  replace HB := Lib.hid (HB.out.trans (hy8.mono HB.out.size))
  clear hb8 hz8 hy8 hone8
  have hcv : (convert 29 9 (.slice Ae 3 ce)).run Tryd.prog w9 = .ok (.string ⟨#[8, 7, 20]⟩) w9 := by
    have := Kd.C_string (c := ce) Tryd.underlying29 Tryd.underlying5 Tryd.underlying9 Ce.out
    rw [strOf_bi] at this
    exact this
  clear Ce
  go_upto_region 9 with (fail)
  refine region9_wp _ w9 rfl (fun vs wB hbB hrow e25 e26 => ?_)
  obtain ⟨AB, eB, hCB⟩ := hrow
  have HCB := Lib.hid hCB
  replace HB := Lib.hid (HB.out.trans (hbB.mono HB.out.size))
  clear hCB hbB hcv
  simp only [chain, Nat.reduceAdd, List.setIfInBounds_toArray, List.set_cons_zero, List.set_cons_succ, eB, e25, e26]
  generalize vs 0 = v0
  generalize vs 1 = v1
  generalize vs 2 = v2
  generalize vs 3 = v3
  generalize vs 4 = v4
  generalize vs 5 = v5
  generalize vs 6 = v6
  generalize vs 7 = v7
  generalize vs 8 = v8
  generalize vs 9 = v9
  generalize vs 10 = v10
  generalize vs 11 = v11
  generalize vs 12 = v12
  generalize vs 13 = v13
  generalize vs 14 = v14
  generalize vs 15 = v15
  generalize vs 16 = v16
  generalize vs 17 = v17
  generalize vs 18 = v18
  generalize vs 19 = v19
  generalize vs 20 = v20
  generalize vs 21 = v21
  generalize vs 22 = v22
  generalize vs 23 = v23
  clear eB e25 e26 vs
  go_wp2
  go_loopg [102] 14 (fun gk v wr => TotRel wB 14 gk v wr)
  case atStart => exact ⟨0, rfl, rfl, Below.refl _ _⟩
  case round =>
    obtain ⟨i, rfl, hgi, hbe⟩ := hrel
    have HG := Lib.hid hgi
    have HBE := Lib.hid hbe
    clear hgi hbe
    by_cases hi : i < 14
    · obtain ⟨ad, A4, c4, A5, c5, a, rfl, hg, f0, f1, f2, f3, f4, f5, l4, g4, l5, g5⟩ := act_at2k (Kd.C_below HCB.out HBE.out) i hi
      have hpl := acts14_not a (List.mem_of_getElem? hg)
      have HPL := Lib.hid hpl
      have H4 := Lib.hid g4
      have H5 := Lib.hid g5
      clear hg g4 g5 hpl
      go_wp2_with fail
      have hz1 := size_al wr (Obj.cells #[Value.int IntKind.u8 a.kind, Value.int IntKind.u8 a.node, Value.int IntKind.i64 a.n, Value.string { data := a.text.toArray }, Value.slice A4 a.keep.length c4, Value.slice A5 a.torn.length c5] 26)
      have hb1 := al wr (Obj.cells #[Value.int IntKind.u8 a.kind, Value.int IntKind.u8 a.node, Value.int IntKind.i64 a.n, Value.string { data := a.text.toArray }, Value.slice A4 a.keep.length c4, Value.slice A5 a.torn.length c5] 26)
      have hx1 := heap_alloc_new wr (Obj.cells #[Value.int IntKind.u8 a.kind, Value.int IntKind.u8 a.node, Value.int IntKind.i64 a.n, Value.string { data := a.text.toArray }, Value.slice A4 a.keep.length c4, Value.slice A5 a.torn.length c5] 26)
      generalize wr.alloc (Obj.cells #[Value.int IntKind.u8 a.kind, Value.int IntKind.u8 a.node, Value.int IntKind.i64 a.n, Value.string { data := a.text.toArray }, Value.slice A4 a.keep.length c4, Value.slice A5 a.torn.length c5] 26) = W1 at hz1 hb1 hx1 ⊢
      have hone := one26g W1 a l4 (Kd.C_below H4.out hb1) l5 (Kd.C_below H5.out hb1)
      rw [hz1] at hone
      have hb2 := al W1 (Obj.cells #[Value.int IntKind.u8 a.kind, Value.int IntKind.u8 a.node, Value.int IntKind.i64 a.n, Value.string { data := a.text.toArray }, Value.slice A4 a.keep.length c4, Value.slice A5 a.torn.length c5] 26)
      have hx2 := (hb2.block wr.heap.size (by omega)).trans hx1
      generalize W1.alloc (Obj.cells #[Value.int IntKind.u8 a.kind, Value.int IntKind.u8 a.node, Value.int IntKind.i64 a.n, Value.string { data := a.text.toArray }, Value.slice A4 a.keep.length c4, Value.slice A5 a.torn.length c5] 26) = W2 at hone hb2 hx2 ⊢
      have hb12 := hb1.trans (hb2.mono hb1.size)
      refine (encode_C W2 (some ⟨wr.heap.size + 1, 0, none⟩) 1 1 [a] rfl hone (Nat.le_refl _) (by simp only [List.mem_singleton, forall_eq]; exact HPL.out.2)).mono ?_
      rw [enc_not a HPL.out.1]
      rintro e w3 ⟨A3, c3, rfl, hc3, hC3, hb3⟩
      have hx3 := (hb3.block wr.heap.size (by have := hb2.size; omega)).trans hx2
      have hb13 := hb12.trans (hb3.mono hb12.size)
      have k0 : w3.cell? ⟨wr.heap.size, 0, none⟩ = some (Value.int IntKind.u8 a.kind) := by simp [World.cell?, hx3]
      have k1 : w3.cell? ⟨wr.heap.size, 1, none⟩ = some (Value.int IntKind.u8 a.node) := by simp [World.cell?, hx3]
      have k2 : w3.cell? ⟨wr.heap.size, 2, none⟩ = some (Value.int IntKind.i64 a.n) := by simp [World.cell?, hx3]
      have k3 : w3.cell? ⟨wr.heap.size, 3, none⟩ = some (Value.string { data := a.text.toArray }) := by simp [World.cell?, hx3]
      have k4 : w3.cell? ⟨wr.heap.size, 4, none⟩ = some (Value.slice A4 a.keep.length c4) := by simp [World.cell?, hx3]
      have k5 : w3.cell? ⟨wr.heap.size, 5, none⟩ = some (Value.slice A5 a.torn.length c5) := by simp [World.cell?, hx3]
      have HB13 := Lib.hid hb13
      clear hz1 hb1 hx1 hone hb2 hx2 hb12 hb3 hx3 hb13 hC3 hc3 W1 W2 f0 f1 f2 f3 f4 f5
      go_wp2_with fail
      refine (plain_any w3 a A4 A5 c4 c5 HPL.out.2 (Kd.C_below H4.out HB13.out) (Kd.C_below H5.out HB13.out)).mono ?_
      rintro e w4' ⟨rfl, hb4⟩
      rw [HPL.out.1]
      have HB14 := Lib.hid (HBE.out.trans ((HB13.out.trans (hb4.mono HB13.out.size)).mono HBE.out.size))
      clear hb4 k0 k1 k2 k3 k4 k5
      go_wp2
      go_roundg (14 - (i + 1))
      case measure => have := HG.out; omega
      case rel => exact ⟨i + 1, by first | rfl | simp, by omega, HB14.out⟩
    · have hie : (14 : Int) ≤ (i : Int) := by omega
      replace HB := Lib.hid (HB.out.trans (HBE.out.mono HB.out.size))
      clear hi HG HBE HCB
      obtain ⟨wx, hwx⟩ : ∃ wx, wx = wr := ⟨wr, rfl⟩
      subst hwx
      have hmk := fun V : World => print_make_of (P := Tryd.prog) 29 5 (.int .u8 0) 1 Tryd.underlying29 int5 rfl (by decide) 809 (by decide) V
      rw [show (((809 : Nat)) : Int) = 809 from rfl] at hmk
      go_wp2
      have hmc : (madeCells #[Value.int IntKind.u8 0] 809).size = 809 := size_madeCells _ _
      have hxm := heap_alloc_new wx (Obj.cells (madeCells #[Value.int IntKind.u8 0] 809) 5)
      have hbm := al wx (Obj.cells (madeCells #[Value.int IntKind.u8 0] 809) 5)
      have HF0 : Hid (FiRel wx 809 (.int .i64 0) (wx.alloc (Obj.cells (madeCells #[Value.int IntKind.u8 0] 809) 5))) := Lib.hid ⟨0, rfl, rfl, hbm, _, hxm, hmc, fun j hj => by omega⟩
      clear hmc hxm hbm hmk
      generalize wx.alloc (Obj.cells (madeCells #[Value.int IntKind.u8 0] 809) 5) = wm at HF0 ⊢
      go_loopg [13] 809 (fun gk v wq => FiRel wx gk v wq)
      case atStart => exact HF0.out
      case round =>
        obtain ⟨i2, rfl, hgi2, hbe2, cs, hcs, hcz, hone⟩ := hrel
        have HG2 := Lib.hid hgi2
        have HBE2 := Lib.hid hbe2
        have HONE := Lib.hid hone
        have HCS := Lib.hid hcs
        have HCZ := Lib.hid hcz
        clear hgi2 hbe2 hone HF0
        by_cases hi2 : i2 < 809
        · obtain ⟨old, hold⟩ : ∃ old, cs[i2]? = some old := ⟨_, Array.getElem?_eq_getElem (by omega)⟩
          have f0 : wr.cell? ⟨wx.heap.size, i2, none⟩ = some old := by simp [World.cell?, hcs, hold]
          have q0 : wr.frozen? ⟨wx.heap.size, i2, none⟩ = false := by simp [World.frozen?, hcs]
          have HFI : Hid (FiRel wx (809 - (i2 + 1)) (.int .i64 ((i2 + 1 : Nat) : Int)) (wr.setCell ⟨wx.heap.size, i2, none⟩ (.int .u8 1))) := Lib.hid ⟨i2 + 1, rfl, by omega, HBE2.out.setCell (Nat.le_refl _) _, cs.setIfInBounds i2 (.int .u8 1), by simp [World.setCell, Array.getElem?_modify, hcs], by simpa using hcz, fun j hj => by
            rw [Array.getElem?_setIfInBounds]
            by_cases he : i2 = j
            · rw [if_pos he, if_pos (by omega)]
            · rw [if_neg he]; exact HONE.out j (by omega)⟩
          clear hcs hcz hold
          go_wp2
          go_roundg (809 - (i2 + 1))
          case measure => have := HG2.out; omega
          case rel => have := HFI.out; simpa using this
        · have hie2 : (809 : Int) ≤ (i2 : Int) := by omega
          have h809 : i2 = 809 := by have := HG2.out; omega
          have HCM := Lib.hid (fill_C hcs (fun j hj => HONE.out j (by omega)))
          replace HB := Lib.hid (HB.out.trans (HBE2.out.mono HB.out.size))
          clear hcs hcz hi2 HONE HCS HCZ HBE2 HG2 h809
          go_wp2_with fail
          refine (decode_R2k wr (some ⟨wx.heap.size, 0, none⟩) 809 809 (List.replicate 809 1) (by simp) HCM.out (Nat.le_refl _)).mono ?_
          rw [show List.replicate 809 (1 : UInt8) = List.replicate (2 * 400 + 9) 1 from rfl, dec_many 400 9]
          obtain ⟨ms, hms⟩ : ∃ ms, ms = List.replicate 400 mAct := ⟨_, rfl⟩
          rw [← hms]
          rintro e wd ⟨Am, m, cm, rfl, hm, hcm, hRm, hbd⟩
          subst hm
          have HMS := Lib.hid hms
          have HML : Hid (ms.length = 400) := Lib.hid (by rw [hms, List.length_replicate])
          have HRM := Lib.hid hRm
          have HBD := Lib.hid (HB.out.trans (hbd.mono HB.out.size))
          obtain ⟨gm, capm, em, -, -⟩ := Kd.R_form hRm (by rw [List.length_map, HML.out]; decide)
          have em' := em
          injection em' with em1 em2 em3
          subst em1
          subst em3
          clear em2
          obtain ⟨c6, hcl6, hM6, hcell6, -⟩ := Kd.R_elem hRm z26 0 (by decide) (by rw [HML.out]; decide)
          have hgd : (ms.map toS).getD (0 : Int).toNat z26 = toS mAct := by rw [hms]; rfl
          rw [hgd] at hM6
          have hKm := k26.K_of_M hM6
          obtain ⟨v4x, v5x, rfl, hr4x, hr5x⟩ := PScriptTotal.k26_openM hM6
          obtain ⟨A4x, c4x, rfl, hc4x, -⟩ := Kd.R_reads hr4x
          obtain ⟨A5x, c5x, rfl, hc5x, -⟩ := Kd.R_reads hr5x
          have hadd0 : ∀ j : Nat, (0 : Int).toNat * k26.sz + j = j := fun j => by
            show 0 * 6 + j = _
            rw [Nat.zero_mul, Nat.zero_add]
          have f0 := hcell6 0 _ rfl
          have f1 := hcell6 1 _ rfl
          have f2 := hcell6 2 _ rfl
          have f3 := hcell6 3 _ rfl
          have f4 := hcell6 4 _ rfl
          have f5 := hcell6 5 _ rfl
          rw [hadd0] at f0 f1 f2 f3 f4 f5
          clear hadd0 hcell6 hcl6 hr4x hr5x hM6 hgd hbd HCM em hms
          have HKM := Lib.hid hKm
          have HRm := Lib.hid hRm
          clear hKm hRm
          have hms1 : ∀ b ∈ ms, b = mAct := fun b hb => by rw [HMS.out] at hb; exact List.eq_of_mem_replicate hb
          have HMS1 := Lib.hid hms1
          have hmb : W.heap.size ≤ wr.heap.size := HB.out.size
          have hi0 : (0 : Int) < (ms.length : Int) := by rw [HML.out]; decide
          clear hms1
          go_wp2_with (at_builtin; refine append_m W wd gm cm ms HMS1.out (by rw [HML.out]; decide) wr.heap.size (fun _ => True) HRm.out HBD.out hmb _ HKM.out rfl (.tmp 137) (.tmp 141) rfl Tryd.underlying27 info26 rfl rfl ?_; intro A8 m8 c8 w8 hm8 hmc8 hC8 hCl8 hB8; have HM8 := Lib.hid hm8; have HC8 := Lib.hid hC8; have HCL := Lib.hid hCl8; have HB8 := Lib.hid hB8; clear hm8 hC8 hCl8 hB8)
          refine (encode_C w8 A8 m8 c8 (ms ++ [mAct]) HM8.out HC8.out hmc8 (fun a ha => by
            rcases List.mem_append.1 ha with h | h
            · rw [HMS1.out a h]; decide
            · rw [List.mem_singleton.1 h]; decide)).mono ?_
          rw [encode_long (ms ++ [mAct]) (by rw [List.length_append, HML.out]; decide)]
          rintro e w9' ⟨A9, c9, rfl, hc9, hC9, hb9⟩
          replace HCL := Lib.hid (Kd.C_below HCL.out hb9)
          replace HB8 := Lib.hid (HB8.out.trans (hb9.mono HB8.out.size))
          clear hC9 hb9 HC8 HM8 HKM HRM HRm HBD f0 f1 f2 f3 f4 f5
          go_wp2_with fail
          refine (encode_C w9' (some ⟨gm, 0, none⟩) ms.length cm ms rfl HCL.out hcm (fun a ha => by rw [HMS1.out a ha]; decide)).mono ?_
          obtain ⟨bs, hbs⟩ : ∃ bs, bs = encAll (List.replicate 400 mAct) := ⟨_, rfl⟩
          have hbl : bs.length = 800 := by rw [hbs, len_many]
          have henc : encode ms = (bs, 0) := by rw [HMS.out, hbs]; exact enc_many 400 (Nat.le_refl _)
          rw [henc]
          have hbl' : ((bs, (0 : Int)) : List UInt8 × Int).1.length = 800 := hbl
          rw [hbl']
          rintro e w10 ⟨A10, c10, rfl, hc10, hC10, hb10⟩
          replace HB8 := Lib.hid (HB8.out.trans (hb10.mono HB8.out.size))
          clear hC10 hb10 hbs hbl hbl' henc HCL HMS1
          have hl4 : ((ms.length : Int) == 400) = true := by rw [HML.out]; rfl
          go_wp2_with fail
          refine (decode_C w10 none 0 0 [] rfl (C_zero _ _ _) (Nat.le_refl _)).mono ?_
          rw [show decodeN 400 [] = [] from rfl]
          rintro e w11 ⟨A11, c11, rfl, hc11, hC11, hb11⟩
          rw [show ([] : List SAct).length = 0 from rfl]
          replace HB8 := Lib.hid (HB8.out.trans (hb11.mono HB8.out.size))
          clear hC11 hb11 hc11
          go_wp2_with fail
          refine (awake_any w11).mono ?_
          rintro e w12 ⟨rfl, hb12⟩
          replace HB8 := Lib.hid (HB8.out.trans (hb12.mono HB8.out.size))
          clear hb12
          go_wp2
          go_ret
          exact ⟨rfl, HB8.out⟩
end Go.Proofs.YtjipfdabkncnmaaDoor.S

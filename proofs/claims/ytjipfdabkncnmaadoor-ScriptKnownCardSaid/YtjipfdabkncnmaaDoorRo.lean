/- ScriptRound, walked: it comes to true, whatever the five bytes. -/
import Derived.Test.YtjipfdabkncnmaaDoorSt
namespace Go.Proofs.YtjipfdabkncnmaaDoor.S
open Go.RowKit Go.Proofs.YtjipfdabkncnmaaDoorW.PrintWords Go.Proofs.YtjipfdabkncnmaaDoorW.PrintLast Go.Proofs.YtjipfdabkncnmaaDoorW.PrintMore
open PScriptTotal (S24 S26 k26 k24 z26)
set_option linter.unusedVariables false
set_option linter.unusedSimpArgs false

theorem readAct_round (c0 c1 d0 d1 : UInt8) (t : List UInt8) (h0 : (c0.toNat : Int) % 9 = (d0.toNat : Int) % 9)
    (h1 : c1 = d1 ∨ ((c1.toNat : Int) % 5 = (d1.toNat : Int) % 5 ∧ ((c0.toNat : Int) % 9 = 0 ∨ (4 ≤ (c0.toNat : Int) % 9 ∧ (c0.toNat : Int) % 9 ≤ 7)))) :
    readAct (c0 :: c1 :: t) = readAct (d0 :: d1 :: t) := by
  have e0 : hd (c0 :: c1 :: t) % 9 = hd (d0 :: d1 :: t) % 9 := h0
  unfold readAct
  rw [e0]
  rcases h1 with rfl | ⟨h1, h2⟩
  · rfl
  · have e1 : hd (c1 :: t) % 5 = hd (d1 :: t) % 5 := h1
    have h2' : hd (d0 :: d1 :: t) % 9 = 0 ∨ (4 ≤ hd (d0 :: d1 :: t) % 9 ∧ hd (d0 :: d1 :: t) % 9 ≤ 7) := by rw [← e0]; exact h2
    generalize hd (d0 :: d1 :: t) % 9 = k at *
    have : k = 0 ∨ k = 4 ∨ k = 5 ∨ k = 6 ∨ k = 7 := by omega
    rcases this with rfl | rfl | rfl | rfl | rfl <;> simp [readBody, e1]
theorem decode_head (c : UInt8) (r : List UInt8) : ∃ xs, decodeN 400 (c :: r) = (readAct (c :: r)).1 :: xs := ⟨_, rfl⟩
theorem readAct_kind (l : List UInt8) : (readAct l).1.kind = 1 + hd l % 9 := by
  unfold readAct readBody
  (repeat' split) <;> simp_all
theorem C_take {α : Type} {d : Kd α} {w : World} {A : Option Addr} {n : Nat} {xs : List α} (m : Nat) (hm : m ≤ n) (h : Kd.C d w A n xs) : Kd.C d w A m (xs.take m) := by
  obtain ⟨e1, e2, e3⟩ := h
  refine ⟨by rw [List.length_take]; omega, by omega, fun hn => ?_⟩
  obtain ⟨ad, rfl, hcell⟩ := e3 (by omega)
  refine ⟨ad, rfl, fun j p hj => hcell j p ?_⟩
  rw [List.getElem?_take] at hj
  split at hj
  · exact hj
  · cases hj

theorem step_call_w {P : Program} {ops : Array Oper} {o : Oper} {a : Act} {w : World} {K : Act → World → Prop} {Q : Exit → Act → World → Prop} {E : Prop} (hw : Region.wanted o (yielded ops a.tmps) = true)
    (f : FuncId) (xs : List Operand) (ts : Array TypeId) (ho : o.op = .call { callee := .value (.func f), args := xs.toArray, argTypes := ts }) (fn : Func) (hf : P.funcs[f]? = some fn)
    (hn : (fn.name == "runtime.NumGoroutine") = false) (hb : fn.body.isNone = false) (args : List Value) (hargs : xs.map a.eval = args)
    (h : Calls P f args.toArray w fun e w' => ∃ v, e = .returned v ∧ K (a.put o.dst v) w') :
    if Region.wanted o (yielded ops a.tmps) = true then Oper.wp P o a w K Q else E := by
  rw [if_pos hw]
  unfold Oper.wp execOp
  have hrun : ((do let d ← resolve a.eval { callee := .value (.func f), args := xs.toArray, argTypes := ts } o.type; invoke d.target d.args) : Sem Next).run P w = .ok (.enter f args.toArray) w := by
    have hn' : ¬ fn.name = "runtime.NumGoroutine" := by simpa using hn
    have hb' : ¬ fn.body = none := by intro e; rw [e] at hb; cases hb
    simp [resolve, Act.eval, Deferred.ofValue, invoke, callFunc, hf, hargs, Sem.run_bind]
    rw [if_neg hn', if_neg hb']
  simp only [ho]
  rw [hrun]
  refine h.mono ?_
  rintro e w' ⟨v, rfl, hK⟩
  exact hK
theorem f11_name : (Tryd.f11.name == "runtime.NumGoroutine") = false := by kernel_rfl
theorem f11_body : Tryd.f11.body.isNone = false := by kernel_rfl
theorem f13_name : (Tryd.f13.name == "runtime.NumGoroutine") = false := by kernel_rfl
theorem f13_body : Tryd.f13.body.isNone = false := by kernel_rfl
theorem five_C {W : World} {g : Nat} {t : TypeId} {fz : Nat × Nat} {p q a b c : Int} (h1 : 0 ≤ p ∧ p < 256) (h2 : 0 ≤ q ∧ q < 256) (h3 : 0 ≤ a ∧ a < 256) (h4 : 0 ≤ b ∧ b < 256) (h5 : 0 ≤ c ∧ c < 256)
    (hg : W.heap[g]? = some (.cells #[.int .u8 p, .int .u8 q, .int .u8 a, .int .u8 b, .int .u8 c] t fz)) : Kd.C (Kd.int .u8) W (some ⟨g, 0, none⟩) 5 (bi [u8 p, u8 q, u8 a, u8 b, u8 c]) := by
  refine row_C (l := [u8 p, u8 q, u8 a, u8 b, u8 c]) hg (by simp) (fun j hj => ?_)
  have hu : ∀ n : Int, 0 ≤ n ∧ n < 256 → ((u8 n).toNat : Int) = n := fun n hn => u8_toNat n (byteOf_of hn.1 hn.2)
  have : j = 0 ∨ j = 1 ∨ j = 2 ∨ j = 3 ∨ j = 4 := by simp at hj; omega
  rcases this with rfl | rfl | rfl | rfl | rfl <;> simp [hu, h1, h2, h3, h4, h5]
theorem two_rows (W : World) (c1 c2 : Array Value) : ((W.alloc (.cells c1 5)).alloc (.cells c2 5)).heap[W.heap.size]? = some (.cells c1 5 (0, 0)) ∧ ((W.alloc (.cells c1 5)).alloc (.cells c2 5)).heap[W.heap.size + 1]? = some (.cells c2 5 (0, 0)) ∧
    Below W.heap.size W ((W.alloc (.cells c1 5)).alloc (.cells c2 5)) := by
  have hz : (W.alloc (.cells c1 5)).heap.size = W.heap.size + 1 := by
    show (W.heap.push _).size = _
    rw [Array.size_push]
  refine ⟨?_, ?_, ?_⟩
  · rw [Below.heap_alloc _ _ _ (by omega)]; exact heap_alloc_new W _
  · rw [← hz]; exact heap_alloc_new _ _
  · exact ((Below.refl _ _).alloc (Nat.le_refl _) _).alloc (by omega) _
theorem blk_sz {W : World} {g : Nat} {o : Obj} (h : W.heap[g]? = some o) : g < W.heap.size := by
  rcases Nat.lt_or_ge g W.heap.size with h' | h'
  · exact h'
  · simp [Array.getElem?_eq_none h'] at h
/-- what the two rows say. -/
def RoWorld (W W2 : World) (p q d y a b c : Int) : Prop :=
  W2.heap[W.heap.size]? = some (.cells #[.int .u8 p, .int .u8 q, .int .u8 a, .int .u8 b, .int .u8 c] 5 (0, 0)) ∧ W2.heap[W.heap.size + 1]? = some (.cells #[.int .u8 d, .int .u8 y, .int .u8 a, .int .u8 b, .int .u8 c] 5 (0, 0)) ∧ Below W.heap.size W W2 ∧
  (0 ≤ p ∧ p < 9) ∧ (0 ≤ q ∧ q < 256) ∧ (0 ≤ d ∧ d < 256) ∧ (0 ≤ y ∧ y < 256) ∧ p % 9 = d % 9 ∧ (q = y ∨ (q % 5 = y % 5 ∧ (p % 9 = 0 ∨ (4 ≤ p % 9 ∧ p % 9 ≤ 7))))

set_option maxHeartbeats 4000000 in
set_option maxRecDepth 100000 in
theorem round_walk (W : World) (kind node a b c : Int) (h1 : 0 ≤ kind ∧ kind < 256) (h2 : 0 ≤ node ∧ node < 256) (h3 : 0 ≤ a ∧ a < 256) (h4 : 0 ≤ b ∧ b < 256) (h5 : 0 ≤ c ∧ c < 256) :
    Calls Tryd.prog 8 #[.int .u8 kind, .int .u8 node, .int .u8 a, .int .u8 b, .int .u8 c] W (AwPost W) := by
  obtain ⟨k0, k1⟩ := h1
  obtain ⟨n0, n1⟩ := h2
  have H3 := Lib.hid h3
  have H4 := Lib.hid h4
  have H5 := Lib.hid h5
  clear h3 h4 h5
  go_enter Tryd.func8, Tryd.ntmps8
  have hS : (1 ≤ kind % 9 ∧ kind % 9 ≤ 3) ∨ ((kind % 9 == 8) = true ∧ 1 ≤ kind % 9 ∧ 3 < kind % 9) ∨ ((kind % 9 == 8) = false ∧ 1 ≤ kind % 9 ∧ 3 < kind % 9) ∨ ((kind % 9 == 8) = false ∧ kind % 9 < 1) := by
    simp only [beq_iff_eq, beq_eq_false_iff_ne, ne_eq]
    omega
  rcases hS with ⟨s1, s2⟩ | ⟨s0, s1, s2⟩ | ⟨s0, s1, s2⟩ | ⟨s0, s1⟩
  · go_wp2_with fail
    have hR : RoWorld W ((W.alloc (Obj.cells #[Value.int IntKind.u8 (kind % 9), Value.int IntKind.u8 (node % 5), Value.int IntKind.u8 a, Value.int IntKind.u8 b, Value.int IntKind.u8 c] 5)).alloc (Obj.cells #[Value.int IntKind.u8 (kind % 9 + 9 * (kind / 16 % 20)), Value.int IntKind.u8 (node % 5), Value.int IntKind.u8 a, Value.int IntKind.u8 b, Value.int IntKind.u8 c] 5)) (kind % 9) (node % 5) (kind % 9 + 9 * (kind / 16 % 20)) (node % 5) a b c := ⟨(two_rows W _ _).1, (two_rows W _ _).2.1, (two_rows W _ _).2.2, by omega, by omega, by omega, by omega, by omega, by omega⟩
    generalize (W.alloc (Obj.cells #[Value.int IntKind.u8 (kind % 9), Value.int IntKind.u8 (node % 5), Value.int IntKind.u8 a, Value.int IntKind.u8 b, Value.int IntKind.u8 c] 5)).alloc (Obj.cells #[Value.int IntKind.u8 (kind % 9 + 9 * (kind / 16 % 20)), Value.int IntKind.u8 (node % 5), Value.int IntKind.u8 a, Value.int IntKind.u8 b, Value.int IntKind.u8 c] 5) = W2 at hR ⊢
    have HR := Lib.hid hR
    obtain ⟨g1, g2, hb0, p0, q0, d0, y0, e0, r0⟩ := hR
    refine (decode_C W2 _ 5 5 [u8 (kind % 9), u8 (node % 5), u8 a, u8 b, u8 c] rfl (five_C ⟨p0.1, by omega⟩ q0 H3.out H4.out H5.out g1) (by decide)).mono ?_
    obtain ⟨xs, hxs⟩ := decode_head (u8 (kind % 9)) [u8 (node % 5), u8 a, u8 b, u8 c]
    rw [hxs]
    obtain ⟨m1, hm1⟩ : ∃ m1, m1 = ((readAct [u8 (kind % 9), u8 (node % 5), u8 a, u8 b, u8 c]).1 :: xs).length := ⟨_, rfl⟩
    rw [← hm1]
    have hl1 : 1 ≤ m1 := by rw [hm1]; simp
    have HM1 := Lib.hid hm1
    clear hm1
    rintro e w3 ⟨A1, c1, rfl, hc1, hC1, hb1⟩
    have HC1 := Lib.hid hC1
    have HB1 := Lib.hid (hb0.trans (hb1.mono hb0.size))
    have HG2 := Lib.hid ((hb1.block _ (blk_sz g2)).trans g2)
    clear hC1 hb1 g1 g2 hb0 hxs
    go_wp2_with fail
    refine (decode_C w3 _ 5 5 [u8 (kind % 9 + 9 * (kind / 16 % 20)), u8 (node % 5), u8 a, u8 b, u8 c] rfl (five_C d0 y0 H3.out H4.out H5.out HG2.out) (by decide)).mono ?_
    obtain ⟨ys, hys⟩ := decode_head (u8 (kind % 9 + 9 * (kind / 16 % 20))) [u8 (node % 5), u8 a, u8 b, u8 c]
    have hu : ∀ n : Int, 0 ≤ n ∧ n < 256 → ((u8 n).toNat : Int) = n := fun n hn => u8_toNat n (byteOf_of hn.1 hn.2)
    rw [hys, ← readAct_round (u8 (kind % 9)) (u8 (node % 5)) (u8 (kind % 9 + 9 * (kind / 16 % 20))) (u8 (node % 5)) [u8 a, u8 b, u8 c] (by rw [hu _ ⟨p0.1, by omega⟩, hu _ d0]; exact e0) (by
      rcases HR.out.2.2.2.2.2.2.2.2 with r0 | r0
      · exact Or.inl (congrArg u8 r0)
      · refine Or.inr ?_
        have z1 := hu _ HR.out.2.2.2.2.1
        have z2 := hu _ HR.out.2.2.2.2.2.2.1
        have z3 := hu (kind % 9) ⟨p0.1, by omega⟩
        exact ⟨z1.symm ▸ z2.symm ▸ r0.1, z3.symm ▸ r0.2⟩)]
    have hkind : (readAct [u8 (kind % 9), u8 (node % 5), u8 a, u8 b, u8 c]).1.kind = kind % 9 + 1 := by
      rw [readAct_kind]
      show 1 + ((u8 (kind % 9)).toNat : Int) % 9 = _
      rw [hu _ ⟨p0.1, by omega⟩]; omega
    obtain ⟨m2, hm2⟩ : ∃ m2, m2 = ((readAct [u8 (kind % 9), u8 (node % 5), u8 a, u8 b, u8 c]).1 :: ys).length := ⟨_, rfl⟩
    rw [← hm2]
    have hl2 : 1 ≤ m2 := by rw [hm2]; simp
    have HM2 := Lib.hid hm2
    clear hm2
    rintro e w4 ⟨A2, c2, rfl, hc2, hC2, hb2⟩
    generalize (readAct [u8 (kind % 9), u8 (node % 5), u8 a, u8 b, u8 c]).1 = act at *
    have hC1 := Kd.C_below HC1.out hb2
    have HB2 := Lib.hid (HB1.out.trans (hb2.mono HB1.out.size))
    have hC1' := hC1
    rw [HM1.out] at hC1'
    obtain ⟨ad, A4, c4, A5, c5, act', rfl, hg, f0, f1, f2, f3, f4, f5, g4, g5⟩ := act_at hC1' 0 (by simp)
    obtain rfl : act = act' := by simpa using hg
    rw [hkind] at f0
    simp only [Nat.zero_mul] at f0
    rw [show ad.add 0 = ad from by simp [Addr.add]] at f0
    have hk9 : kind % 9 ≤ 8 := by omega
    have hk0 : 0 ≤ kind % 9 := by omega
    have hT1 := C_take 1 hl1 hC1
    have hT2 := C_take 1 hl2 hC2
    rw [show List.take 1 (List.map toS (act :: xs)) = List.map toS [act] from rfl] at hT1
    rw [show List.take 1 (List.map toS (act :: ys)) = List.map toS [act] from rfl] at hT2
    obtain ⟨ad2, rfl, -⟩ := hT2.2.2 (by omega)
    have HT1 := Lib.hid hT1
    have HT2 := Lib.hid hT2
    have hc1' : 1 ≤ c1 := by omega
    have hc2' : 1 ≤ c2 := by omega
    have hi1 : (1 : Int) ≤ (c1 : Int) := by omega
    have hi2 : (1 : Int) ≤ (c2 : Int) := by omega
    have hz1 : ((m1 : Int) == 0) = false := by simp; omega
    have hz2 : ((m2 : Int) == 0) = false := by simp; omega
    clear hT1 hT2 hC1 hC1' hC2 HC1 hc1 hc2 hb2 hg f1 f2 f3 f4 f5 g4 g5 hkind hys hu HG2 p0 q0 d0 y0 e0 r0 HR HM1 HM2
    go_wp2_with fail
    go_region_law
      (first
        | (refine step_call_w (by rfl) 11 [.tmp 81, .tmp 83] _ rfl Tryd.f11 Tryd.func11 f11_name f11_body [.slice (some ad) 1 c1, .slice (some ad2) 1 c2] ?_ ?_; rfl; refine (same_any w4.drew (some ad) (some ad2) c1 c2 [act] [act] 1 1 rfl rfl HT1.out hc1' HT2.out hc2').mono ?_; rintro e w5 ⟨rfl, hb5⟩; rw [decide_eq_true (rfl : [act] = [act])]; have HB5 := Lib.hid (HB2.out.drew.trans (hb5.mono HB2.out.drew.size)); clear hb5; refine ⟨_, rfl, ?_⟩)
        | (refine step_call_w (by rfl) 13 [] _ rfl Tryd.f13 Tryd.func13 f13_name f13_body [] ?_ ?_; rfl; refine (awake_any _).mono ?_; rintro e w6 ⟨rfl, hb6⟩; have HB6 := Lib.hid (HB5.out.trans (hb6.mono HB5.out.size)); clear hb6; refine ⟨_, rfl, ?_⟩))
    all_goals
      go_wp2
      go_ret
      exact ⟨rfl, HB6.out⟩
  · have S0 := Lib.hid s0
    go_wp2_with fail
    have hR : RoWorld W ((W.alloc (Obj.cells #[Value.int IntKind.u8 (kind % 9), Value.int IntKind.u8 (node % 5), Value.int IntKind.u8 a, Value.int IntKind.u8 b, Value.int IntKind.u8 c] 5)).alloc (Obj.cells #[Value.int IntKind.u8 (kind % 9 + 9 * (kind / 16 % 20)), Value.int IntKind.u8 (node % 5), Value.int IntKind.u8 a, Value.int IntKind.u8 b, Value.int IntKind.u8 c] 5)) (kind % 9) (node % 5) (kind % 9 + 9 * (kind / 16 % 20)) (node % 5) a b c := ⟨(two_rows W _ _).1, (two_rows W _ _).2.1, (two_rows W _ _).2.2, by omega, by omega, by omega, by omega, by omega, by omega⟩
    generalize (W.alloc (Obj.cells #[Value.int IntKind.u8 (kind % 9), Value.int IntKind.u8 (node % 5), Value.int IntKind.u8 a, Value.int IntKind.u8 b, Value.int IntKind.u8 c] 5)).alloc (Obj.cells #[Value.int IntKind.u8 (kind % 9 + 9 * (kind / 16 % 20)), Value.int IntKind.u8 (node % 5), Value.int IntKind.u8 a, Value.int IntKind.u8 b, Value.int IntKind.u8 c] 5) = W2 at hR ⊢
    have HR := Lib.hid hR
    obtain ⟨g1, g2, hb0, p0, q0, d0, y0, e0, r0⟩ := hR
    refine (decode_C W2 _ 5 5 [u8 (kind % 9), u8 (node % 5), u8 a, u8 b, u8 c] rfl (five_C ⟨p0.1, by omega⟩ q0 H3.out H4.out H5.out g1) (by decide)).mono ?_
    obtain ⟨xs, hxs⟩ := decode_head (u8 (kind % 9)) [u8 (node % 5), u8 a, u8 b, u8 c]
    rw [hxs]
    obtain ⟨m1, hm1⟩ : ∃ m1, m1 = ((readAct [u8 (kind % 9), u8 (node % 5), u8 a, u8 b, u8 c]).1 :: xs).length := ⟨_, rfl⟩
    rw [← hm1]
    have hl1 : 1 ≤ m1 := by rw [hm1]; simp
    have HM1 := Lib.hid hm1
    clear hm1
    rintro e w3 ⟨A1, c1, rfl, hc1, hC1, hb1⟩
    have HC1 := Lib.hid hC1
    have HB1 := Lib.hid (hb0.trans (hb1.mono hb0.size))
    have HG2 := Lib.hid ((hb1.block _ (blk_sz g2)).trans g2)
    clear hC1 hb1 g1 g2 hb0 hxs
    go_wp2_with fail
    refine (decode_C w3 _ 5 5 [u8 (kind % 9 + 9 * (kind / 16 % 20)), u8 (node % 5), u8 a, u8 b, u8 c] rfl (five_C d0 y0 H3.out H4.out H5.out HG2.out) (by decide)).mono ?_
    obtain ⟨ys, hys⟩ := decode_head (u8 (kind % 9 + 9 * (kind / 16 % 20))) [u8 (node % 5), u8 a, u8 b, u8 c]
    have hu : ∀ n : Int, 0 ≤ n ∧ n < 256 → ((u8 n).toNat : Int) = n := fun n hn => u8_toNat n (byteOf_of hn.1 hn.2)
    rw [hys, ← readAct_round (u8 (kind % 9)) (u8 (node % 5)) (u8 (kind % 9 + 9 * (kind / 16 % 20))) (u8 (node % 5)) [u8 a, u8 b, u8 c] (by rw [hu _ ⟨p0.1, by omega⟩, hu _ d0]; exact e0) (by
      rcases HR.out.2.2.2.2.2.2.2.2 with r0 | r0
      · exact Or.inl (congrArg u8 r0)
      · refine Or.inr ?_
        have z1 := hu _ HR.out.2.2.2.2.1
        have z2 := hu _ HR.out.2.2.2.2.2.2.1
        have z3 := hu (kind % 9) ⟨p0.1, by omega⟩
        exact ⟨z1.symm ▸ z2.symm ▸ r0.1, z3.symm ▸ r0.2⟩)]
    have hkind : (readAct [u8 (kind % 9), u8 (node % 5), u8 a, u8 b, u8 c]).1.kind = kind % 9 + 1 := by
      rw [readAct_kind]
      show 1 + ((u8 (kind % 9)).toNat : Int) % 9 = _
      rw [hu _ ⟨p0.1, by omega⟩]; omega
    obtain ⟨m2, hm2⟩ : ∃ m2, m2 = ((readAct [u8 (kind % 9), u8 (node % 5), u8 a, u8 b, u8 c]).1 :: ys).length := ⟨_, rfl⟩
    rw [← hm2]
    have hl2 : 1 ≤ m2 := by rw [hm2]; simp
    have HM2 := Lib.hid hm2
    clear hm2
    rintro e w4 ⟨A2, c2, rfl, hc2, hC2, hb2⟩
    generalize (readAct [u8 (kind % 9), u8 (node % 5), u8 a, u8 b, u8 c]).1 = act at *
    have hC1 := Kd.C_below HC1.out hb2
    have HB2 := Lib.hid (HB1.out.trans (hb2.mono HB1.out.size))
    have hC1' := hC1
    rw [HM1.out] at hC1'
    obtain ⟨ad, A4, c4, A5, c5, act', rfl, hg, f0, f1, f2, f3, f4, f5, g4, g5⟩ := act_at hC1' 0 (by simp)
    obtain rfl : act = act' := by simpa using hg
    rw [hkind] at f0
    simp only [Nat.zero_mul] at f0
    rw [show ad.add 0 = ad from by simp [Addr.add]] at f0
    have hk9 : kind % 9 ≤ 8 := by omega
    have hk0 : 0 ≤ kind % 9 := by omega
    have hT1 := C_take 1 hl1 hC1
    have hT2 := C_take 1 hl2 hC2
    rw [show List.take 1 (List.map toS (act :: xs)) = List.map toS [act] from rfl] at hT1
    rw [show List.take 1 (List.map toS (act :: ys)) = List.map toS [act] from rfl] at hT2
    obtain ⟨ad2, rfl, -⟩ := hT2.2.2 (by omega)
    have HT1 := Lib.hid hT1
    have HT2 := Lib.hid hT2
    have hc1' : 1 ≤ c1 := by omega
    have hc2' : 1 ≤ c2 := by omega
    have hi1 : (1 : Int) ≤ (c1 : Int) := by omega
    have hi2 : (1 : Int) ≤ (c2 : Int) := by omega
    have hz1 : ((m1 : Int) == 0) = false := by simp; omega
    have hz2 : ((m2 : Int) == 0) = false := by simp; omega
    clear hT1 hT2 hC1 hC1' hC2 HC1 hc1 hc2 hb2 hg f1 f2 f3 f4 f5 g4 g5 hkind hys hu HG2 p0 q0 d0 y0 e0 r0 HR HM1 HM2
    go_wp2_with fail
    go_region_law
      (first
        | (refine step_call_w (by rfl) 11 [.tmp 81, .tmp 83] _ rfl Tryd.f11 Tryd.func11 f11_name f11_body [.slice (some ad) 1 c1, .slice (some ad2) 1 c2] ?_ ?_; rfl; refine (same_any w4.drew (some ad) (some ad2) c1 c2 [act] [act] 1 1 rfl rfl HT1.out hc1' HT2.out hc2').mono ?_; rintro e w5 ⟨rfl, hb5⟩; rw [decide_eq_true (rfl : [act] = [act])]; have HB5 := Lib.hid (HB2.out.drew.trans (hb5.mono HB2.out.drew.size)); clear hb5; refine ⟨_, rfl, ?_⟩)
        | (refine step_call_w (by rfl) 13 [] _ rfl Tryd.f13 Tryd.func13 f13_name f13_body [] ?_ ?_; rfl; refine (awake_any _).mono ?_; rintro e w6 ⟨rfl, hb6⟩; have HB6 := Lib.hid (HB5.out.trans (hb6.mono HB5.out.size)); clear hb6; refine ⟨_, rfl, ?_⟩))
    all_goals
      go_wp2
      go_ret
      exact ⟨rfl, HB6.out⟩
  · have S0 := Lib.hid s0
    have t0 : ¬ kind % 9 = 8 := by simpa using s0
    go_wp2_with fail
    have hR : RoWorld W ((W.alloc (Obj.cells #[Value.int IntKind.u8 (kind % 9), Value.int IntKind.u8 (node % 5), Value.int IntKind.u8 a, Value.int IntKind.u8 b, Value.int IntKind.u8 c] 5)).alloc (Obj.cells #[Value.int IntKind.u8 (kind % 9 + 9 * (kind / 16 % 20)), Value.int IntKind.u8 (node % 5 + 5 * (node / 8 % 20)), Value.int IntKind.u8 a, Value.int IntKind.u8 b, Value.int IntKind.u8 c] 5)) (kind % 9) (node % 5) (kind % 9 + 9 * (kind / 16 % 20)) (node % 5 + 5 * (node / 8 % 20)) a b c := ⟨(two_rows W _ _).1, (two_rows W _ _).2.1, (two_rows W _ _).2.2, by omega, by omega, by omega, by omega, by omega, by omega⟩
    generalize (W.alloc (Obj.cells #[Value.int IntKind.u8 (kind % 9), Value.int IntKind.u8 (node % 5), Value.int IntKind.u8 a, Value.int IntKind.u8 b, Value.int IntKind.u8 c] 5)).alloc (Obj.cells #[Value.int IntKind.u8 (kind % 9 + 9 * (kind / 16 % 20)), Value.int IntKind.u8 (node % 5 + 5 * (node / 8 % 20)), Value.int IntKind.u8 a, Value.int IntKind.u8 b, Value.int IntKind.u8 c] 5) = W2 at hR ⊢
    have HR := Lib.hid hR
    obtain ⟨g1, g2, hb0, p0, q0, d0, y0, e0, r0⟩ := hR
    refine (decode_C W2 _ 5 5 [u8 (kind % 9), u8 (node % 5), u8 a, u8 b, u8 c] rfl (five_C ⟨p0.1, by omega⟩ q0 H3.out H4.out H5.out g1) (by decide)).mono ?_
    obtain ⟨xs, hxs⟩ := decode_head (u8 (kind % 9)) [u8 (node % 5), u8 a, u8 b, u8 c]
    rw [hxs]
    obtain ⟨m1, hm1⟩ : ∃ m1, m1 = ((readAct [u8 (kind % 9), u8 (node % 5), u8 a, u8 b, u8 c]).1 :: xs).length := ⟨_, rfl⟩
    rw [← hm1]
    have hl1 : 1 ≤ m1 := by rw [hm1]; simp
    have HM1 := Lib.hid hm1
    clear hm1
    rintro e w3 ⟨A1, c1, rfl, hc1, hC1, hb1⟩
    have HC1 := Lib.hid hC1
    have HB1 := Lib.hid (hb0.trans (hb1.mono hb0.size))
    have HG2 := Lib.hid ((hb1.block _ (blk_sz g2)).trans g2)
    clear hC1 hb1 g1 g2 hb0 hxs
    go_wp2_with fail
    refine (decode_C w3 _ 5 5 [u8 (kind % 9 + 9 * (kind / 16 % 20)), u8 (node % 5 + 5 * (node / 8 % 20)), u8 a, u8 b, u8 c] rfl (five_C d0 y0 H3.out H4.out H5.out HG2.out) (by decide)).mono ?_
    obtain ⟨ys, hys⟩ := decode_head (u8 (kind % 9 + 9 * (kind / 16 % 20))) [u8 (node % 5 + 5 * (node / 8 % 20)), u8 a, u8 b, u8 c]
    have hu : ∀ n : Int, 0 ≤ n ∧ n < 256 → ((u8 n).toNat : Int) = n := fun n hn => u8_toNat n (byteOf_of hn.1 hn.2)
    rw [hys, ← readAct_round (u8 (kind % 9)) (u8 (node % 5)) (u8 (kind % 9 + 9 * (kind / 16 % 20))) (u8 (node % 5 + 5 * (node / 8 % 20))) [u8 a, u8 b, u8 c] (by rw [hu _ ⟨p0.1, by omega⟩, hu _ d0]; exact e0) (by
      rcases HR.out.2.2.2.2.2.2.2.2 with r0 | r0
      · exact Or.inl (congrArg u8 r0)
      · refine Or.inr ?_
        have z1 := hu _ HR.out.2.2.2.2.1
        have z2 := hu _ HR.out.2.2.2.2.2.2.1
        have z3 := hu (kind % 9) ⟨p0.1, by omega⟩
        exact ⟨z1.symm ▸ z2.symm ▸ r0.1, z3.symm ▸ r0.2⟩)]
    have hkind : (readAct [u8 (kind % 9), u8 (node % 5), u8 a, u8 b, u8 c]).1.kind = kind % 9 + 1 := by
      rw [readAct_kind]
      show 1 + ((u8 (kind % 9)).toNat : Int) % 9 = _
      rw [hu _ ⟨p0.1, by omega⟩]; omega
    obtain ⟨m2, hm2⟩ : ∃ m2, m2 = ((readAct [u8 (kind % 9), u8 (node % 5), u8 a, u8 b, u8 c]).1 :: ys).length := ⟨_, rfl⟩
    rw [← hm2]
    have hl2 : 1 ≤ m2 := by rw [hm2]; simp
    have HM2 := Lib.hid hm2
    clear hm2
    rintro e w4 ⟨A2, c2, rfl, hc2, hC2, hb2⟩
    generalize (readAct [u8 (kind % 9), u8 (node % 5), u8 a, u8 b, u8 c]).1 = act at *
    have hC1 := Kd.C_below HC1.out hb2
    have HB2 := Lib.hid (HB1.out.trans (hb2.mono HB1.out.size))
    have hC1' := hC1
    rw [HM1.out] at hC1'
    obtain ⟨ad, A4, c4, A5, c5, act', rfl, hg, f0, f1, f2, f3, f4, f5, g4, g5⟩ := act_at hC1' 0 (by simp)
    obtain rfl : act = act' := by simpa using hg
    rw [hkind] at f0
    simp only [Nat.zero_mul] at f0
    rw [show ad.add 0 = ad from by simp [Addr.add]] at f0
    have hk9 : kind % 9 ≤ 8 := by omega
    have hk0 : 0 ≤ kind % 9 := by omega
    have hT1 := C_take 1 hl1 hC1
    have hT2 := C_take 1 hl2 hC2
    rw [show List.take 1 (List.map toS (act :: xs)) = List.map toS [act] from rfl] at hT1
    rw [show List.take 1 (List.map toS (act :: ys)) = List.map toS [act] from rfl] at hT2
    obtain ⟨ad2, rfl, -⟩ := hT2.2.2 (by omega)
    have HT1 := Lib.hid hT1
    have HT2 := Lib.hid hT2
    have hc1' : 1 ≤ c1 := by omega
    have hc2' : 1 ≤ c2 := by omega
    have hi1 : (1 : Int) ≤ (c1 : Int) := by omega
    have hi2 : (1 : Int) ≤ (c2 : Int) := by omega
    have hz1 : ((m1 : Int) == 0) = false := by simp; omega
    have hz2 : ((m2 : Int) == 0) = false := by simp; omega
    clear hT1 hT2 hC1 hC1' hC2 HC1 hc1 hc2 hb2 hg f1 f2 f3 f4 f5 g4 g5 hkind hys hu HG2 p0 q0 d0 y0 e0 r0 HR HM1 HM2
    go_wp2_with fail
    go_region_law
      (first
        | (refine step_call_w (by rfl) 11 [.tmp 81, .tmp 83] _ rfl Tryd.f11 Tryd.func11 f11_name f11_body [.slice (some ad) 1 c1, .slice (some ad2) 1 c2] ?_ ?_; rfl; refine (same_any w4.drew (some ad) (some ad2) c1 c2 [act] [act] 1 1 rfl rfl HT1.out hc1' HT2.out hc2').mono ?_; rintro e w5 ⟨rfl, hb5⟩; rw [decide_eq_true (rfl : [act] = [act])]; have HB5 := Lib.hid (HB2.out.drew.trans (hb5.mono HB2.out.drew.size)); clear hb5; refine ⟨_, rfl, ?_⟩)
        | (refine step_call_w (by rfl) 13 [] _ rfl Tryd.f13 Tryd.func13 f13_name f13_body [] ?_ ?_; rfl; refine (awake_any _).mono ?_; rintro e w6 ⟨rfl, hb6⟩; have HB6 := Lib.hid (HB5.out.trans (hb6.mono HB5.out.size)); clear hb6; refine ⟨_, rfl, ?_⟩))
    all_goals
      go_wp2
      go_ret
      exact ⟨rfl, HB6.out⟩
  · have S0 := Lib.hid s0
    have t0 : ¬ kind % 9 = 8 := by simpa using s0
    go_wp2_with fail
    have hR : RoWorld W ((W.alloc (Obj.cells #[Value.int IntKind.u8 (kind % 9), Value.int IntKind.u8 (node % 5), Value.int IntKind.u8 a, Value.int IntKind.u8 b, Value.int IntKind.u8 c] 5)).alloc (Obj.cells #[Value.int IntKind.u8 (kind % 9 + 9 * (kind / 16 % 20)), Value.int IntKind.u8 (node % 5 + 5 * (node / 8 % 20)), Value.int IntKind.u8 a, Value.int IntKind.u8 b, Value.int IntKind.u8 c] 5)) (kind % 9) (node % 5) (kind % 9 + 9 * (kind / 16 % 20)) (node % 5 + 5 * (node / 8 % 20)) a b c := ⟨(two_rows W _ _).1, (two_rows W _ _).2.1, (two_rows W _ _).2.2, by omega, by omega, by omega, by omega, by omega, by omega⟩
    generalize (W.alloc (Obj.cells #[Value.int IntKind.u8 (kind % 9), Value.int IntKind.u8 (node % 5), Value.int IntKind.u8 a, Value.int IntKind.u8 b, Value.int IntKind.u8 c] 5)).alloc (Obj.cells #[Value.int IntKind.u8 (kind % 9 + 9 * (kind / 16 % 20)), Value.int IntKind.u8 (node % 5 + 5 * (node / 8 % 20)), Value.int IntKind.u8 a, Value.int IntKind.u8 b, Value.int IntKind.u8 c] 5) = W2 at hR ⊢
    have HR := Lib.hid hR
    obtain ⟨g1, g2, hb0, p0, q0, d0, y0, e0, r0⟩ := hR
    refine (decode_C W2 _ 5 5 [u8 (kind % 9), u8 (node % 5), u8 a, u8 b, u8 c] rfl (five_C ⟨p0.1, by omega⟩ q0 H3.out H4.out H5.out g1) (by decide)).mono ?_
    obtain ⟨xs, hxs⟩ := decode_head (u8 (kind % 9)) [u8 (node % 5), u8 a, u8 b, u8 c]
    rw [hxs]
    obtain ⟨m1, hm1⟩ : ∃ m1, m1 = ((readAct [u8 (kind % 9), u8 (node % 5), u8 a, u8 b, u8 c]).1 :: xs).length := ⟨_, rfl⟩
    rw [← hm1]
    have hl1 : 1 ≤ m1 := by rw [hm1]; simp
    have HM1 := Lib.hid hm1
    clear hm1
    rintro e w3 ⟨A1, c1, rfl, hc1, hC1, hb1⟩
    have HC1 := Lib.hid hC1
    have HB1 := Lib.hid (hb0.trans (hb1.mono hb0.size))
    have HG2 := Lib.hid ((hb1.block _ (blk_sz g2)).trans g2)
    clear hC1 hb1 g1 g2 hb0 hxs
    go_wp2_with fail
    refine (decode_C w3 _ 5 5 [u8 (kind % 9 + 9 * (kind / 16 % 20)), u8 (node % 5 + 5 * (node / 8 % 20)), u8 a, u8 b, u8 c] rfl (five_C d0 y0 H3.out H4.out H5.out HG2.out) (by decide)).mono ?_
    obtain ⟨ys, hys⟩ := decode_head (u8 (kind % 9 + 9 * (kind / 16 % 20))) [u8 (node % 5 + 5 * (node / 8 % 20)), u8 a, u8 b, u8 c]
    have hu : ∀ n : Int, 0 ≤ n ∧ n < 256 → ((u8 n).toNat : Int) = n := fun n hn => u8_toNat n (byteOf_of hn.1 hn.2)
    rw [hys, ← readAct_round (u8 (kind % 9)) (u8 (node % 5)) (u8 (kind % 9 + 9 * (kind / 16 % 20))) (u8 (node % 5 + 5 * (node / 8 % 20))) [u8 a, u8 b, u8 c] (by rw [hu _ ⟨p0.1, by omega⟩, hu _ d0]; exact e0) (by
      rcases HR.out.2.2.2.2.2.2.2.2 with r0 | r0
      · exact Or.inl (congrArg u8 r0)
      · refine Or.inr ?_
        have z1 := hu _ HR.out.2.2.2.2.1
        have z2 := hu _ HR.out.2.2.2.2.2.2.1
        have z3 := hu (kind % 9) ⟨p0.1, by omega⟩
        exact ⟨z1.symm ▸ z2.symm ▸ r0.1, z3.symm ▸ r0.2⟩)]
    have hkind : (readAct [u8 (kind % 9), u8 (node % 5), u8 a, u8 b, u8 c]).1.kind = kind % 9 + 1 := by
      rw [readAct_kind]
      show 1 + ((u8 (kind % 9)).toNat : Int) % 9 = _
      rw [hu _ ⟨p0.1, by omega⟩]; omega
    obtain ⟨m2, hm2⟩ : ∃ m2, m2 = ((readAct [u8 (kind % 9), u8 (node % 5), u8 a, u8 b, u8 c]).1 :: ys).length := ⟨_, rfl⟩
    rw [← hm2]
    have hl2 : 1 ≤ m2 := by rw [hm2]; simp
    have HM2 := Lib.hid hm2
    clear hm2
    rintro e w4 ⟨A2, c2, rfl, hc2, hC2, hb2⟩
    generalize (readAct [u8 (kind % 9), u8 (node % 5), u8 a, u8 b, u8 c]).1 = act at *
    have hC1 := Kd.C_below HC1.out hb2
    have HB2 := Lib.hid (HB1.out.trans (hb2.mono HB1.out.size))
    have hC1' := hC1
    rw [HM1.out] at hC1'
    obtain ⟨ad, A4, c4, A5, c5, act', rfl, hg, f0, f1, f2, f3, f4, f5, g4, g5⟩ := act_at hC1' 0 (by simp)
    obtain rfl : act = act' := by simpa using hg
    rw [hkind] at f0
    simp only [Nat.zero_mul] at f0
    rw [show ad.add 0 = ad from by simp [Addr.add]] at f0
    have hk9 : kind % 9 ≤ 8 := by omega
    have hk0 : 0 ≤ kind % 9 := by omega
    have hT1 := C_take 1 hl1 hC1
    have hT2 := C_take 1 hl2 hC2
    rw [show List.take 1 (List.map toS (act :: xs)) = List.map toS [act] from rfl] at hT1
    rw [show List.take 1 (List.map toS (act :: ys)) = List.map toS [act] from rfl] at hT2
    obtain ⟨ad2, rfl, -⟩ := hT2.2.2 (by omega)
    have HT1 := Lib.hid hT1
    have HT2 := Lib.hid hT2
    have hc1' : 1 ≤ c1 := by omega
    have hc2' : 1 ≤ c2 := by omega
    have hi1 : (1 : Int) ≤ (c1 : Int) := by omega
    have hi2 : (1 : Int) ≤ (c2 : Int) := by omega
    have hz1 : ((m1 : Int) == 0) = false := by simp; omega
    have hz2 : ((m2 : Int) == 0) = false := by simp; omega
    clear hT1 hT2 hC1 hC1' hC2 HC1 hc1 hc2 hb2 hg f1 f2 f3 f4 f5 g4 g5 hkind hys hu HG2 p0 q0 d0 y0 e0 r0 HR HM1 HM2
    go_wp2_with fail
    go_region_law
      (first
        | (refine step_call_w (by rfl) 11 [.tmp 81, .tmp 83] _ rfl Tryd.f11 Tryd.func11 f11_name f11_body [.slice (some ad) 1 c1, .slice (some ad2) 1 c2] ?_ ?_; rfl; refine (same_any w4.drew (some ad) (some ad2) c1 c2 [act] [act] 1 1 rfl rfl HT1.out hc1' HT2.out hc2').mono ?_; rintro e w5 ⟨rfl, hb5⟩; rw [decide_eq_true (rfl : [act] = [act])]; have HB5 := Lib.hid (HB2.out.drew.trans (hb5.mono HB2.out.drew.size)); clear hb5; refine ⟨_, rfl, ?_⟩)
        | (refine step_call_w (by rfl) 13 [] _ rfl Tryd.f13 Tryd.func13 f13_name f13_body [] ?_ ?_; rfl; refine (awake_any _).mono ?_; rintro e w6 ⟨rfl, hb6⟩; have HB6 := Lib.hid (HB5.out.trans (hb6.mono HB5.out.size)); clear hb6; refine ⟨_, rfl, ?_⟩))
    all_goals
      go_wp2
      go_ret
      exact ⟨rfl, HB6.out⟩
end Go.Proofs.YtjipfdabkncnmaaDoor.S

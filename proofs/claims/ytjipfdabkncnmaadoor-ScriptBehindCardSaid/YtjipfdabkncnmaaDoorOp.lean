/- A row of acts that came in as an argument, opened: it is read as a row of the plain model's acts, for any argument that the rows' conditions let in. -/
import Derived.Test.YtjipfdabkncnmaaDoorSs
import Derived.Deep.Slices
namespace Go.Proofs.YtjipfdabkncnmaaDoor.S
open Go.RowKit Go.ChangeShapes Go.WideShapes Go.Deep Go.Proofs.YtjipfdabkncnmaaDoorW.PrintWords
open PScriptTotal (S24 S26 k26 k24 z26)
set_option linter.unusedVariables false
variable {H : Type} {enc : TypeId × Value → H} {w : World} {base : Nat} {sp : Nat → Bool} {held : Bool}

theorem ints_open {fuel : Nat} {cs : List Value} {x : DataW H × List MemPlace} (h : DataW.trod enc Tryd.prog w base sp held fuel 22 cs = some x) :
    ∃ (A : Option Addr) (c : Nat) (xs : List Int), cs = [.slice A xs.length c] ∧ xs.length ≤ c ∧ Kd.C (Kd.int .i64) w A xs.length xs := by
  rcases open_slice1 Tryd.underlying22 (by kernel_rfl) h with ⟨rfl, _⟩ | ⟨a, len, cap, m, n, V, D, Pl, rfl, _, hl, hm, hmm, _, hx⟩
  · exact ⟨none, 0, [], rfl, Nat.le_refl _, Kd.C_nil _ _⟩
  · have hlm : len ≤ m := by rw [hmm]; split <;> omega
    have hv : ∀ i, i < len → ∃ k : Int, w.cell? (a.add i) = some (.int .i64 k) := fun i hi => by
      obtain ⟨h1, h2⟩ := hx i (by omega)
      obtain ⟨k, h3, _⟩ := DataW.trod_int Tryd.underlying3 h2
      simp only [List.cons.injEq, and_true] at h3
      exact ⟨k, by rw [h1, h3]⟩
    obtain ⟨f, hf⟩ := choose_lt hv
    have e : ((List.range len).map f).length = len := by simp
    refine ⟨some a, cap, (List.range len).map f, by rw [e], by rw [e]; exact hl, e ▸ rfl, by rw [e]; simp only [maxLen] at hm; omega, fun _ => ⟨a, rfl, fun j p hj => ⟨[.int .i64 p], rfl, rfl, ?_⟩⟩⟩
    intro i u hu
    have hi : i = 0 := by
      rcases i with _ | i
      · rfl
      · simp at hu
    subst hi
    simp only [List.getElem?_cons_zero, Option.some.injEq] at hu
    subst hu
    have hj1 : j < len := by
      rcases Nat.lt_or_ge j len with h' | h'
      · exact h'
      · simp [h'] at hj
    have : p = f j := by simpa [List.getElem?_map, List.getElem?_range hj1] using hj.symm
    subst this
    show w.cell? (a.add (j * 1 + 0)) = _
    rw [Nat.mul_one, Nat.add_zero]
    exact hf j hj1

theorem wf_u8 {n : Int} (h : (Lit.int .u8 n).wf = true) : 0 ≤ n ∧ n < 256 := by
  simp only [Lit.wf, Bool.and_eq_true, decide_eq_true_eq] at h
  have h1 : IntKind.u8.min = 0 := by decide
  have h2 : IntKind.u8.max = 255 := by decide
  omega

/-- one act's cells, opened. -/
theorem act_open {fuel : Nat} {cs : List Value} {x : DataW H × List MemPlace} (h : DataW.trod enc Tryd.prog w base sp held fuel 26 cs = some x) :
    cs.length = 6 ∧ ∃ a : SAct, k26.K w (toS a) cs ∧ 0 ≤ a.node ∧ a.node < 256 ∧ 0 ≤ a.kind ∧ a.kind < 256 := by
  obtain ⟨xs, n, _, _, hcl, hxl, hf⟩ := DataW.trod_struct Tryd.underlying26 h
  have h6 : cs.length = 6 := hcl.trans (by kernel_rfl)
  refine ⟨h6, ?_⟩
  obtain ⟨v0, v1, v2, v3, v4, v5, rfl⟩ : ∃ v0 v1 v2 v3 v4 v5, cs = [v0, v1, v2, v3, v4, v5] := by
    rcases cs with _ | ⟨v0, _ | ⟨v1, _ | ⟨v2, _ | ⟨v3, _ | ⟨v4, _ | ⟨v5, _ | ⟨v6, r⟩⟩⟩⟩⟩⟩⟩ <;> simp at h6
    exact ⟨v0, v1, v2, v3, v4, v5, rfl⟩
  have hx5 : xs.length = 5 := hxl
  have q5 : Tryd.prog.cellsOf 5 = 1 := by kernel_rfl
  have q3 : Tryd.prog.cellsOf 3 = 1 := by kernel_rfl
  have q9 : Tryd.prog.cellsOf 9 = 1 := by kernel_rfl
  have q22 : Tryd.prog.cellsOf 22 = 1 := by kernel_rfl
  have q24 : Tryd.prog.cellsOf 24 = 2 := by kernel_rfl
  have get : ∀ i, i < 5 → ∃ y, xs[i]? = some y := fun i hi => ⟨_, List.getElem?_eq_getElem (by omega)⟩
  obtain ⟨y0, g0⟩ := get 0 (by decide)
  obtain ⟨y1, g1⟩ := get 1 (by decide)
  obtain ⟨y2, g2⟩ := get 2 (by decide)
  obtain ⟨y3, g3⟩ := get 3 (by decide)
  obtain ⟨y4, g4⟩ := get 4 (by decide)
  have h0 : DataW.trod enc Tryd.prog w base sp held n 5 (([v0, v1, v2, v3, v4, v5].drop 0).take (Tryd.prog.cellsOf 5)) = some y0 := (hf 0 _ rfl).trans g0
  rw [q5] at h0
  have h1 : DataW.trod enc Tryd.prog w base sp held n 5 (([v0, v1, v2, v3, v4, v5].drop 1).take (Tryd.prog.cellsOf 5)) = some y1 := (hf 1 _ rfl).trans g1
  rw [q5] at h1
  have h2 : DataW.trod enc Tryd.prog w base sp held n 3 (([v0, v1, v2, v3, v4, v5].drop 2).take (Tryd.prog.cellsOf 3)) = some y2 := (hf 2 _ rfl).trans g2
  rw [q3] at h2
  have h3 : DataW.trod enc Tryd.prog w base sp held n 9 (([v0, v1, v2, v3, v4, v5].drop 3).take (Tryd.prog.cellsOf 9)) = some y3 := (hf 3 _ rfl).trans g3
  rw [q9] at h3
  have h4 : DataW.trod enc Tryd.prog w base sp held n 24 (([v0, v1, v2, v3, v4, v5].drop 4).take (Tryd.prog.cellsOf 24)) = some y4 := (hf 4 _ rfl).trans g4
  rw [q24] at h4
  obtain ⟨n0, e0, _, w0⟩ := DataW.trod_int Tryd.underlying5 h0
  obtain ⟨n1, e1, _, w1⟩ := DataW.trod_int Tryd.underlying5 h1
  obtain ⟨n2, e2, _, _⟩ := DataW.trod_int Tryd.underlying3 h2
  obtain ⟨s3, e3, _, _⟩ := DataW.trod_string Tryd.underlying9 h3
  obtain ⟨ys, m, _, _, _, hyl, hg⟩ := DataW.trod_struct Tryd.underlying24 h4
  have hy2 : ys.length = 2 := hyl
  have k0 : DataW.trod enc Tryd.prog w base sp held m 22 (((([v0, v1, v2, v3, v4, v5].drop 4).take 2).drop 0).take (Tryd.prog.cellsOf 22)) = ys[0]? := hg 0 _ rfl
  rw [q22] at k0
  have k1 : DataW.trod enc Tryd.prog w base sp held m 22 (((([v0, v1, v2, v3, v4, v5].drop 4).take 2).drop 1).take (Tryd.prog.cellsOf 22)) = ys[1]? := hg 1 _ rfl
  rw [q22] at k1
  have k0' := k0.trans (List.getElem?_eq_getElem (show 0 < ys.length by omega))
  have k1' := k1.trans (List.getElem?_eq_getElem (show 1 < ys.length by omega))
  obtain ⟨A4, c4, x4, e4, l4, C4⟩ := ints_open k0'
  obtain ⟨A5, c5, x5, e5, l5, C5⟩ := ints_open k1'
  simp only [List.drop_zero, List.take_succ_cons, List.take_zero, List.drop_succ_cons, List.cons.injEq, and_true] at e0 e1 e2 e3 e4 e5
  subst e0 e1 e2 e3 e4 e5
  refine ⟨⟨n0, n1, n2, s3.data.toList, x4, x5⟩, ?_, (wf_u8 w1).1, (wf_u8 w1).2, (wf_u8 w0).1, (wf_u8 w0).2⟩
  have := PScriptTotal.k26_mk w (toS ⟨n0, n1, n2, s3.data.toList, x4, x5⟩) (A4 := A4) (c4 := c4) l4 C4 (A5 := A5) (c5 := c5) l5 C5
  simpa [toS] using this

instance : Inhabited SAct := ⟨⟨0, 0, 0, [], [], []⟩⟩
/-- a row of acts, opened. -/
theorem acts_open {fuel : Nat} {cs : List Value} {x : DataW H × List MemPlace} (h : DataW.trod enc Tryd.prog w base sp held fuel 27 cs = some x) :
    ∃ (A : Option Addr) (c : Nat) (xs : List SAct), cs = [.slice A xs.length c] ∧ xs.length ≤ c ∧ Kd.C k26 w A xs.length (xs.map toS) ∧ ∀ a ∈ xs, 0 ≤ a.node ∧ a.node < 256 ∧ 0 ≤ a.kind ∧ a.kind < 256 := by
  rcases open_slice Tryd.underlying27 h with ⟨rfl, _⟩ | ⟨a, len, cap, m, n, D, Pl, rfl, _, hl, hm, hmm, _, hx⟩
  · exact ⟨none, 0, [], rfl, Nat.le_refl _, Kd.C_nil _ _, by simp⟩
  · have hlm : len ≤ m := by rw [hmm]; split <;> omega
    have q26 : Tryd.prog.cellsOf 26 = 6 := by kernel_rfl
    rw [q26] at hx
    have hv : ∀ i, i < len → ∃ b : SAct, (∃ c, c.length = 6 ∧ k26.K w (toS b) c ∧ ∀ j u, c[j]? = some u → w.cell? (a.add (i * 6 + j)) = some u) ∧ 0 ≤ b.node ∧ b.node < 256 ∧ 0 ≤ b.kind ∧ b.kind < 256 := fun i hi => by
      obtain ⟨cs', h1, h2⟩ := hx i (by omega)
      obtain ⟨_, hcl, hat⟩ := World.cells?_some h1
      obtain ⟨h6, b, hK, hb⟩ := act_open h2
      refine ⟨b, ⟨cs', h6, hK, fun j u hu => ?_⟩, hb⟩
      have hj : j < 6 := by
        rcases Nat.lt_or_ge j 6 with h' | h'
        · exact h'
        · rw [List.getElem?_eq_none (by omega)] at hu; cases hu
      rw [← Go.Deep.add_add]
      exact (hat j hj).trans hu
    obtain ⟨f, hf⟩ := choose_lt hv
    have e : ((List.range len).map f).length = len := by simp
    refine ⟨some a, cap, (List.range len).map f, by rw [e], by rw [e]; exact hl, ⟨by rw [List.length_map], by rw [e]; simp only [maxLen] at hm; omega, fun _ => ⟨a, rfl, fun j p hj => ?_⟩⟩, ?_⟩
    · have hj1 : j < len := by
        rcases Nat.lt_or_ge j len with h' | h'
        · exact h'
        · rw [List.getElem?_eq_none (by simp; exact h')] at hj; cases hj
      have : p = toS (f j) := by simpa [List.getElem?_map, List.getElem?_range hj1] using hj.symm
      subst this
      exact (hf j hj1).1
    · intro b hb
      obtain ⟨i, hi, rfl⟩ := List.mem_map.1 hb
      exact (hf i (List.mem_range.1 hi)).2
end Go.Proofs.YtjipfdabkncnmaaDoor.S

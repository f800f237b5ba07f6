/- append(l, l[0]) at a row of one and the same act: what comes of it, and of the row that was, with room and without. -/
import Derived.Test.YtjipfdabkncnmaaDoorKr
namespace Go.Proofs.YtjipfdabkncnmaaDoor.S
open Go.RowKit Go.Proofs.YtjipfdabkncnmaaDoorW.PrintWords Go.Proofs.YtjipfdabkncnmaaDoorW.PrintLast Go.Proofs.YtjipfdabkncnmaaDoorW.PrintMore
open PScriptTotal (S24 S26 k26 k24 z26)
set_option linter.unusedVariables false
set_option linter.unusedSimpArgs false

def mAct : SAct := ⟨2, 0, 1, [], [], []⟩
theorem C_zero {α : Type} (d : Kd α) (W : World) (A : Option Addr) : Kd.C d W A 0 ([] : List α) := ⟨rfl, by decide, fun h => absurd h (Nat.lt_irrefl 0)⟩
theorem K_m {W0 W : World} {c : List Value} (h : k26.K W0 (toS mAct) c) : k26.K W (toS mAct) c := by
  obtain ⟨A4, c4, A5, c5, rfl, l4, -, l5, -⟩ := PScriptTotal.k26_open h
  exact PScriptTotal.k26_mk W (toS mAct) l4 (C_zero _ _ _) l5 (C_zero _ _ _)
theorem addr_add (g j : Nat) : (⟨g, 0, none⟩ : Addr).add j = ⟨g, j, none⟩ := by
  unfold Addr.add
  split
  · rename_i h0; subst h0; rfl
  · simp
theorem below_of_grown {w w' : World} (h : w.grownBy w' none) : Below w.heap.size w w' := ⟨h.os, h.tape, h.output, h.size, fun k hk => h.block k hk (by simp)⟩
theorem setCells_below (b : Nat) : ∀ (vs : List Value) (o : Nat) (B : Nat) (w0 w : World), B ≤ b → Below B w0 w → Below B w0 (w.setCells b o vs) := by
  intro vs
  induction vs with
  | nil => intro o B w0 w hb h; exact h
  | cons v r ih => intro o B w0 w hb h; exact ih (o + 1) B w0 _ hb (h.setCell hb v)
theorem append_m {P : Program} {ops : Array Oper} {rest : List Oper} {o : Oper} {a : Act} {Q : Exit → Act → World → Prop} (W wd : World) (gm capm : Nat) (ms : List SAct) (hall : ∀ b ∈ ms, b = mAct) (hlen : ms.length ≤ 1000) (base : Nat) (okk : Nat → Prop)
    (hR : k26.R 26 wd base okk (.slice (some ⟨gm, 0, none⟩) ms.length capm) (ms.map toS)) (hB : Below W.heap.size W wd) (hbase : W.heap.size ≤ base) (cs : List Value) (hK : k26.K wd (toS mAct) cs)
    (hgd : o.guard = none) (s x : Operand) (ho : o.op = .call { callee := .builtin .append, args := #[s, x], argTypes := #[27, 27] })
    (ht : P.underlying 27 = some (.slice 26)) (hinfo : (P.info? 26).map (fun i => (i.zero, i.size, i.bytes)) = some (some (.agg #[.int .u8 0, .int .u8 0, .int .i64 0, .string ⟨#[]⟩, .slice none 0 0, .slice none 0 0]), 6, 80))
    (hs : a.eval s = .slice (some ⟨gm, 0, none⟩) ms.length capm) (hx : a.eval x = .slice (some ⟨wd.heap.size, 0, none⟩) 1 1)
    (h : ∀ A8 m8 c8 w8, m8 = (ms ++ [mAct]).length → m8 ≤ c8 → Kd.C k26 w8 A8 m8 ((ms ++ [mAct]).map toS) → Kd.C k26 w8 (some ⟨gm, 0, none⟩) ms.length (ms.map toS) → Below W.heap.size W w8 → wpList P ops Q rest (a.put o.dst (.slice A8 m8 c8)) w8) :
    wpList P ops Q (o :: rest) a (wd.alloc (.cells cs.toArray 26)) := by
  obtain ⟨i0, hi, hzz⟩ := Option.map_eq_some_iff.1 hinfo
  simp only [Prod.mk.injEq] at hzz
  obtain ⟨hz0, hz1, hz2⟩ := hzz
  have hC0 := (Kd.R_reads' hR).2.2
  rw [List.length_map] at hC0
  obtain ⟨hok, inner, hown, hreps⟩ := hR
  obtain ⟨hil, hown2⟩ := hown
  rw [List.length_map] at hil hown2
  have hcs6 : cs.length = 6 := k26.K_len hK
  have hb1 := al wd (.cells cs.toArray 26)
  have hnew := heap_alloc_new wd (.cells cs.toArray 26)
  have hB1 := hB.trans (hb1.mono hB.size)
  have hC1 := Kd.C_below hC0 hb1
  rcases hown2 with ⟨he, _⟩ | ⟨g, cap, cur, he, hg, hh, hnc, hcm, hcz, htake⟩
  · cases he
  injection he with he1 he2 he3
  injection he1 with he1
  injection he1 with he1
  subst he1 he3
  have hglt : gm < wd.heap.size := by
    rcases Nat.lt_or_ge gm wd.heap.size with h' | h'
    · exact h'
    · simp [Array.getElem?_eq_none h'] at hh
  have hh1 := (hb1.block gm hglt).trans hh
  have hds : (wd.alloc (.cells cs.toArray 26)).heap.size = wd.heap.size + 1 := by
    show (wd.heap.push _).size = _
    rw [Array.size_push]
  generalize wd.alloc (.cells cs.toArray 26) = w1 at *
  have hsz6 : k26.sz = 6 := rfl
  rw [hsz6] at hil hcz htake
  have holds : ∀ j u, inner[j]? = some u → w1.cell? ⟨gm, 0 + j, none⟩ = some u := fun j u hj => by
    rw [Nat.zero_add]
    rw [← htake, List.getElem?_take] at hj
    split at hj
    · simpa [World.cell?, hh1] using hj
    · cases hj
  have hcsc : ∀ j u, cs[j]? = some u → w1.cell? ((⟨wd.heap.size, 0, none⟩ : Addr).add j) = some u := fun j u hj => by
    rw [addr_add]
    simpa [World.cell?, hnew] using hj
  refine wpList_append_arg w1 hgd s x 27 ho 26 i0 _ 6 80 ht hi hz0 hz1 hz2 rfl (by decide) gm 0 ms.length capm inner hs hil holds ⟨wd.heap.size, 0, none⟩ 1 1 cs hx hcs6 hcsc (k26.K_one hK) ?_ (by simp only [maxLen]; omega) (by omega) ?_ ?_
  · intro hroom j hj
    have hjj : 0 + ms.length * 6 + j < cur.size := by rw [hcz]; omega
    constructor
    · have hjj' : ms.length * 6 + j < cur.size := by omega
      simp [World.cell?, hh1, Array.getElem?_eq_getElem hjj']
    · simp [World.frozen?, hh1]
  · intro hroom
    have hold : ∀ (j : Nat) (p : S26), (ms.map toS)[j]? = some p → ∃ c, c.length = k26.sz ∧ k26.K (w1.setCells gm (0 + ms.length * 6) cs) p c ∧ ∀ i u, c[i]? = some u → (w1.setCells gm (0 + ms.length * 6) cs).cell? ((⟨gm, 0, none⟩ : Addr).add (j * k26.sz + i)) = some u := fun j p hp => by
      have hjl : j < ms.length := by
        rcases Nat.lt_or_ge j ms.length with h' | h'
        · exact h'
        · rw [List.getElem?_eq_none (by simpa using h')] at hp; cases hp
      obtain ⟨ad, ea, hcell⟩ := hC1.2.2 (by omega)
      injection ea with ea
      subst ea
      obtain ⟨c, hcl, hKc, hcc⟩ := hcell j p hp
      have hpm : p = toS mAct := by
        rw [List.getElem?_map] at hp
        obtain ⟨b, hb, rfl⟩ := Option.map_eq_some_iff.1 hp
        rw [hall b (List.mem_of_getElem? hb)]
      subst hpm
      refine ⟨c, hcl, K_m hKc, fun i u hu => ?_⟩
      have hi6 : i < 6 := by
        rcases Nat.lt_or_ge i 6 with h' | h'
        · exact h'
        · rw [List.getElem?_eq_none (by rw [hcl]; exact h')] at hu; cases hu
      rw [World.cell?_setCells_out]
      · exact hcc i u hu
      · intro _ _
        left
        rw [addr_add]
        show j * 6 + i < _
        omega
    refine h (some ⟨gm, 0, none⟩) (ms.length + 1) capm _ (by simp) hroom ?_ ?_ (setCells_below gm cs _ _ _ _ (by omega) hB1)
    · refine ⟨by simp, by omega, fun _ => ⟨_, rfl, fun j p hp => ?_⟩⟩
      by_cases hjl : j < ms.length
      · refine hold j p ?_
        rw [List.map_append, List.getElem?_append_left (by simpa using hjl)] at hp
        exact hp
      · have hje : j = ms.length := by
          rcases Nat.lt_or_ge j (ms.length + 1) with h' | h'
          · omega
          · rw [List.getElem?_eq_none (by simpa using h')] at hp; cases hp
        subst hje
        rw [List.map_append, List.getElem?_append_right (by simp)] at hp
        have hpm : p = toS mAct := by simpa using hp.symm
        subst hpm
        refine ⟨cs, hcs6, K_m hK, fun i u hu => ?_⟩
        have hi6 : i < cs.length := by
          rcases Nat.lt_or_ge i cs.length with h' | h'
          · exact h'
          · rw [List.getElem?_eq_none h'] at hu; cases hu
        have hin := World.cell?_setCells_in gm cs (0 + ms.length * 6) w1 (fun k hk => by
          have hkk : 0 + ms.length * 6 + k < cur.size := by rw [hcz]; omega
          simp only [World.cell?, hh1]
          rw [Array.getElem?_eq_getElem hkk]; rfl) i hi6
        rw [addr_add]
        show (w1.setCells gm (0 + ms.length * 6) cs).cell? ⟨gm, ms.length * 6 + i, none⟩ = some u
        rw [show ms.length * 6 + i = 0 + ms.length * 6 + i by omega, hin]
        rw [List.getElem?_eq_getElem hi6] at hu
        exact hu
    · exact ⟨by simp, by omega, fun _ => ⟨_, rfl, hold⟩⟩
  · intro hfull v' w' hown' hgr
    have hbg := below_of_grown hgr
    have hbw : Below wd.heap.size wd w' := hb1.trans (hbg.mono hb1.size)
    have hlen1 : ((ms ++ [mAct]).map toS).length = ms.length + 1 := by simp
    have hrow : OwnRow (k26.K w') 26 6 w' w1.heap.size v' ((ms ++ [mAct]).map toS) := by
      refine ⟨inner ++ cs, by rw [hlen1]; exact hown', ?_⟩
      rw [List.map_append]
      refine Kd.reps_append (hreps.imp_ (fun p c hM => k26.K_below hbw (k26.K_of_M hM))) ⟨hcs6, fun j p hj => ?_⟩
      have hj0 : j = 0 := by
        rcases j with _ | j
        · rfl
        · simp at hj
      subst hj0
      have hpm : p = toS mAct := by simpa using hj.symm
      subst hpm
      have : (cs.drop (0 * 6)).take 6 = cs := by rw [Nat.zero_mul, List.drop_zero, List.take_of_length_le (by omega)]
      rw [this]
      exact k26.K_below hbw hK
    obtain ⟨A8, c8, rfl, h1, h2⟩ := hrow.reads
    rw [hlen1] at h1 h2 ⊢
    exact h A8 (ms.length + 1) c8 w' (by simp) h1 h2 (Kd.C_below hC1 hbg) (hB1.trans (hbg.mono hB1.size))
end Go.Proofs.YtjipfdabkncnmaaDoor.S

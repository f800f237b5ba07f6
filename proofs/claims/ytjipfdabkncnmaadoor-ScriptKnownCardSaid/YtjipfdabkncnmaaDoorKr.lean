/- A region of ScriptKnown's that draws its order: fourteen acts that are none, laid in whatever order. -/
import Derived.Test.YtjipfdabkncnmaaDoorTot
import Derived.Test.YtjipfdabkncnmaaDoorRo
import Derived.Orders
namespace Go.Proofs.YtjipfdabkncnmaaDoor.S
open Go.RowKit Go.Proofs.YtjipfdabkncnmaaDoorW.PrintWords Go.Proofs.YtjipfdabkncnmaaDoorW.PrintLast Go.Proofs.YtjipfdabkncnmaaDoorW.PrintMore
open PScriptTotal (S24 S26 k26 k24 z26)
set_option linter.unusedVariables false
set_option linter.unusedSimpArgs false

/-! a region that draws its order, by what it keeps -/
def countF : List Bool → Nat
  | [] => 0
  | false :: r => countF r + 1
  | true :: r => countF r
theorem countF_set : ∀ (l : List Bool) (i : Nat), l[i]? = some false → countF (l.set i true) + 1 = countF l := by
  intro l
  induction l with
  | nil => intro i h; simp at h
  | cons b r ih =>
    intro i h
    cases i with
    | zero => simp at h; subst h; simp [countF]
    | succ i =>
      have := ih i (by simpa using h)
      cases b <;> simp [countF] <;> omega
theorem countF_zero : ∀ (l : List Bool) (i : Nat), countF l = 0 → l[i]? ≠ some false := by
  intro l
  induction l with
  | nil => intro i _; simp
  | cons b r ih =>
    intro i h
    cases b with
    | false => simp [countF] at h
    | true => cases i with
      | zero => simp
      | succ i => simpa using ih i (by simpa [countF] using h)
theorem ready_false {md : Region.Mode} {ops : Array Oper} {listed : Array Bool} {i : Nat} (h : i ∈ Region.ready md ops listed) : listed.toList[i]? = some false ∧ ∃ o, ops[i]? = some o ∧ (o.after.all fun e => !Region.binds md e || listed.getD e.on false) = true := by
  unfold Region.ready at h
  rw [List.mem_filter] at h
  obtain ⟨_, h2⟩ := h
  rw [Bool.and_eq_true] at h2
  obtain ⟨h2, h3⟩ := h2
  constructor
  · have h4 : listed.getD i true = false := by simpa using h2
    rw [Array.getElem?_toList]
    rw [Array.getD_eq_getD_getElem?] at h4
    cases hh : listed[i]? with
    | none => rw [hh] at h4; simp at h4
    | some b => rw [hh] at h4; simp at h4; rw [h4]
  · cases ho : ops[i]? with
    | none => rw [ho] at h3; simp at h3
    | some o => rw [ho] at h3; exact ⟨o, rfl, by simpa using h3⟩
theorem wpAny_inv {P : Program} {ops : Array Oper} {Q : Exit → Act → World → Prop} {md : Region.Mode} (Inv : Array Bool → Act → World → Prop)
    (hstep : ∀ listed i a w, Inv listed a w → i ∈ Region.ready md ops listed → wpOp P ops Q i (fun a' w' => Inv (listed.setIfInBounds i true) a' w') a w)
    (hend : ∀ listed a w, Inv listed a w → Region.ready md ops listed = [] → Q .normal a w) :
    ∀ (fuel : Nat) (listed : Array Bool) (a : Act) (w : World), countF listed.toList ≤ fuel → Inv listed a w → wpAny P md ops Q fuel listed a w := by
  intro fuel
  induction fuel with
  | zero =>
    intro listed a w hc hi
    have hr : Region.ready md ops listed = [] := by
      rw [List.eq_nil_iff_forall_not_mem]
      intro i hi'
      exact countF_zero _ i (by omega) (ready_false hi').1
    exact ⟨hr, hend _ _ _ hi hr⟩
  | succ fuel ih =>
    intro listed a w hc hi
    refine ⟨fun hr => hend _ _ _ hi hr, fun i hr => ?_⟩
    refine wpOp_mono ?_ (hstep listed i a w hi hr)
    intro a' w' h'
    refine ih _ _ _ ?_ h'
    have := countF_set listed.toList i (ready_false hr).1
    rw [Array.toList_setIfInBounds]
    omega
theorem wpOp_run {P : Program} {ops : Array Oper} {Q : Exit → Act → World → Prop} {i : Nat} {o : Oper} {t : Tmp} {K : Act → World → Prop} {a : Act} {w w' : World} {v : Value} (ho : ops[i]? = some o) (hg : o.guard = none) (hd : o.dst = some t)
    (hrun : (execOp a.eval o).run P w = .ok (.value v) w') (hK : K (a.put (some t) v) w') : wpOp P ops Q i K a w := by
  unfold wpOp
  rw [ho]
  simp only
  rw [if_pos (by simp [Region.wanted, hg])]
  refine Or.inl ?_
  unfold Oper.wp
  rw [hrun, Oper.upon_value, hd]
  exact hK

/-! the fourteen -/
def zeros : List UInt8 := List.replicate 65536 0
def q0 : SAct := ⟨0, 0, 0, [], [], []⟩
def q1 : SAct := ⟨10, 0, 0, [], [], []⟩
def q2 : SAct := ⟨8, 6, 0, [], [], []⟩
def q3 : SAct := ⟨8, 0, 0, [], [], []⟩
def q4 : SAct := ⟨2, 0, 0, [120], [], []⟩
def q5 : SAct := ⟨2, 1, 0, [], [], []⟩
def q6 : SAct := ⟨3, 0, 256, [], [], []⟩
def q7 : SAct := ⟨3, 0, -1, [], [], []⟩
def q8 : SAct := ⟨1, 1, 1, [], [], []⟩
def q9 : SAct := ⟨9, 32, 0, [], [], []⟩
def q10 : SAct := ⟨7, 1, 0, [], [1], []⟩
def q11 : SAct := ⟨7, 1, 0, [], [0, 0, 0, 0, 0, 0, 0, 0], [0, 0, 0, 0, 0, 0, 0, 0]⟩
def q12 : SAct := ⟨5, 1, 0, [], [1], [1]⟩
def q13 : SAct := ⟨1, 1, 0, zeros, [], []⟩
def acts14 : List SAct := [q0, q1, q2, q3, q4, q5, q6, q7, q8, q9, q10, q11, q12, q13]
def ops9 : Array Oper := #[{ dst := some 76, op := Op.build 26 #[], type := 26, pos := "law.go:49", after := #[], guard := none },
  { dst := some 77, op := Op.build 26 #[(0, Operand.const (Value.int IntKind.u8 10))], type := 26, pos := "law.go:49", after := #[], guard := none },
  { dst := some 78, op := Op.build 26 #[(0, Operand.const (Value.int IntKind.u8 8)), (1, Operand.const (Value.int IntKind.u8 6))], type := 26, pos := "law.go:49", after := #[], guard := none },
  { dst := some 79, op := Op.build 26 #[(0, Operand.const (Value.int IntKind.u8 8))], type := 26, pos := "law.go:49", after := #[], guard := none },
  { dst := some 80, op := Op.build 26 #[(0, Operand.const (Value.int IntKind.u8 2)), (3, Operand.const (Value.string { data := #[120] }))], type := 26, pos := "law.go:49", after := #[], guard := none },
  { dst := some 81, op := Op.build 26 #[(0, Operand.const (Value.int IntKind.u8 2)), (1, Operand.const (Value.int IntKind.u8 1))], type := 26, pos := "law.go:49", after := #[], guard := none },
  { dst := some 82, op := Op.build 26 #[(0, Operand.const (Value.int IntKind.u8 3)), (2, Operand.const (Value.int IntKind.i64 256))], type := 26, pos := "law.go:49", after := #[], guard := none },
  { dst := some 83, op := Op.build 26 #[(0, Operand.const (Value.int IntKind.u8 3)), (2, Operand.const (Value.int IntKind.i64 (-1)))], type := 26, pos := "law.go:49", after := #[], guard := none },
  { dst := some 84, op := Op.build 26 #[(0, Operand.const (Value.int IntKind.u8 1)), (1, Operand.const (Value.int IntKind.u8 1)), (2, Operand.const (Value.int IntKind.i64 1))], type := 26, pos := "law.go:49", after := #[], guard := none },
  { dst := some 85, op := Op.build 26 #[(0, Operand.const (Value.int IntKind.u8 9)), (1, Operand.const (Value.int IntKind.u8 32))], type := 26, pos := "law.go:49", after := #[], guard := none },
  { dst := some 86, op := Op.buildSlice 22 1 #[(0, Operand.const (Value.int IntKind.i64 1))], type := 22, pos := "law.go:49", after := #[], guard := none },
  { dst := some 87, op := Op.build 24 #[(0, Operand.tmp 86)], type := 24, pos := "law.go:49", after := #[{ on := 10, ground := Ground.data }], guard := none },
  { dst := some 88, op := Op.build 26 #[(0, Operand.const (Value.int IntKind.u8 7)), (1, Operand.const (Value.int IntKind.u8 1)), (4, Operand.tmp 87)], type := 26, pos := "law.go:49", after := #[{ on := 11, ground := Ground.data }], guard := none },
  { dst := some 89, op := Op.makeSlice 22 (Operand.const (Value.int IntKind.i64 8)) (Operand.const (Value.int IntKind.i64 8)), type := 22, pos := "law.go:49", after := #[], guard := none },
  { dst := some 90, op := Op.makeSlice 22 (Operand.const (Value.int IntKind.i64 8)) (Operand.const (Value.int IntKind.i64 8)), type := 22, pos := "law.go:49", after := #[], guard := none },
  { dst := some 91, op := Op.build 24 #[(0, Operand.tmp 89), (1, Operand.tmp 90)], type := 24, pos := "law.go:49", after := #[{ on := 13, ground := Ground.data }, { on := 14, ground := Ground.data }], guard := none },
  { dst := some 92, op := Op.build 26 #[(0, Operand.const (Value.int IntKind.u8 7)), (1, Operand.const (Value.int IntKind.u8 1)), (4, Operand.tmp 91)], type := 26, pos := "law.go:49", after := #[{ on := 15, ground := Ground.data }], guard := none },
  { dst := some 93, op := Op.buildSlice 22 1 #[(0, Operand.const (Value.int IntKind.i64 1))], type := 22, pos := "law.go:49", after := #[], guard := none },
  { dst := some 94, op := Op.buildSlice 22 1 #[(0, Operand.const (Value.int IntKind.i64 1))], type := 22, pos := "law.go:49", after := #[], guard := none },
  { dst := some 95, op := Op.build 24 #[(0, Operand.tmp 93), (1, Operand.tmp 94)], type := 24, pos := "law.go:49", after := #[{ on := 17, ground := Ground.data }, { on := 18, ground := Ground.data }], guard := none },
  { dst := some 96, op := Op.build 26 #[(0, Operand.const (Value.int IntKind.u8 5)), (1, Operand.const (Value.int IntKind.u8 1)), (4, Operand.tmp 95)], type := 26, pos := "law.go:49", after := #[{ on := 19, ground := Ground.data }], guard := none },
  { dst := some 97, op := Op.makeSlice 29 (Operand.const (Value.int IntKind.i64 65536)) (Operand.const (Value.int IntKind.i64 65536)), type := 29, pos := "law.go:49", after := #[], guard := none },
  { dst := some 98, op := Op.convert 29 9 (Operand.tmp 97), type := 9, pos := "law.go:49", after := #[{ on := 21, ground := Ground.data }], guard := none },
  { dst := some 99, op := Op.build 26 #[(0, Operand.const (Value.int IntKind.u8 1)), (1, Operand.const (Value.int IntKind.u8 1)), (3, Operand.tmp 98)], type := 26, pos := "law.go:49", after := #[{ on := 22, ground := Ground.data }], guard := none },
  { dst := some 100, op := Op.buildSlice 27 14 #[(0, Operand.tmp 76), (1, Operand.tmp 77), (2, Operand.tmp 78), (3, Operand.tmp 79), (4, Operand.tmp 80), (5, Operand.tmp 81), (6, Operand.tmp 82), (7, Operand.tmp 83), (8, Operand.tmp 84), (9, Operand.tmp 85), (10, Operand.tmp 88), (11, Operand.tmp 92), (12, Operand.tmp 96), (13, Operand.tmp 99)], type := 27, pos := "law.go:49", after := #[{ on := 0, ground := Ground.data }, { on := 1, ground := Ground.data }, { on := 2, ground := Ground.data }, { on := 3, ground := Ground.data }, { on := 4, ground := Ground.data }, { on := 5, ground := Ground.data }, { on := 6, ground := Ground.data }, { on := 7, ground := Ground.data }, { on := 8, ground := Ground.data }, { on := 9, ground := Ground.data }, { on := 12, ground := Ground.data }, { on := 16, ground := Ground.data }, { on := 20, ground := Ground.data }, { on := 23, ground := Ground.data }], guard := none },
  { dst := some 101, op := Op.call { callee := Callee.builtin Builtin.len, args := #[Operand.tmp 100], argTypes := #[27] }, type := 3, pos := "law.go:49", after := #[{ on := 24, ground := Ground.data }], guard := none },
  { dst := some 102, op := Op.move (Operand.const (Value.int IntKind.i64 0)), type := 3, pos := "law.go:49", after := #[], guard := none }]
def PAct (a : SAct) (v : Value) (w : World) : Prop := ∃ A c B d, v = .agg #[.int .u8 a.kind, .int .u8 a.node, .int .i64 a.n, .string ⟨a.text.toArray⟩, .slice A a.keep.length c, .slice B a.torn.length d] ∧ a.keep.length ≤ c ∧ a.torn.length ≤ d ∧
  Kd.C (Kd.int .i64) w A a.keep.length a.keep ∧ Kd.C (Kd.int .i64) w B a.torn.length a.torn
def PInts (xs : List Int) (v : Value) (w : World) : Prop := ∃ A, v = .slice A xs.length xs.length ∧ Kd.C (Kd.int .i64) w A xs.length xs
def PCrash (ks ts : List Int) (v : Value) (w : World) : Prop := ∃ A c B d, v = .agg #[.slice A ks.length c, .slice B ts.length d] ∧ ks.length ≤ c ∧ ts.length ≤ d ∧ Kd.C (Kd.int .i64) w A ks.length ks ∧ Kd.C (Kd.int .i64) w B ts.length ts
def PBytes (v : Value) (w : World) : Prop := ∃ A, v = .slice A 65536 65536 ∧ Kd.C (Kd.int .u8) w A 65536 (bi zeros)
def PRow (v : Value) (w : World) : Prop := ∃ A, v = .slice A 14 14 ∧ Kd.C k26 w A 14 (acts14.map toS)
def P9 (i : Nat) (v : Value) (w : World) : Prop :=
  match i with
  | 0 => PAct q0 v w
  | 1 => PAct q1 v w
  | 2 => PAct q2 v w
  | 3 => PAct q3 v w
  | 4 => PAct q4 v w
  | 5 => PAct q5 v w
  | 6 => PAct q6 v w
  | 7 => PAct q7 v w
  | 8 => PAct q8 v w
  | 9 => PAct q9 v w
  | 10 => PInts [1] v w
  | 11 => PCrash [1] [] v w
  | 12 => PAct q10 v w
  | 13 => PInts [0, 0, 0, 0, 0, 0, 0, 0] v w
  | 14 => PInts [0, 0, 0, 0, 0, 0, 0, 0] v w
  | 15 => PCrash [0, 0, 0, 0, 0, 0, 0, 0] [0, 0, 0, 0, 0, 0, 0, 0] v w
  | 16 => PAct q11 v w
  | 17 => PInts [1] v w
  | 18 => PInts [1] v w
  | 19 => PCrash [1] [1] v w
  | 20 => PAct q12 v w
  | 21 => PBytes v w
  | 22 => v = .string ⟨zeros.toArray⟩
  | 23 => PAct q13 v w
  | 24 => PRow v w
  | 25 => v = .int .i64 14
  | 26 => v = .int .i64 0
  | _ => False
theorem P9.below {i : Nat} {v : Value} {w w' : World} (h : P9 i v w) (hb : Below w.heap.size w w') : P9 i v w' := by
  have hA : ∀ a, PAct a v w → PAct a v w' := fun a h => by
    obtain ⟨A, c, B, d, e, h1, h2, h3, h4⟩ := h
    exact ⟨A, c, B, d, e, h1, h2, Kd.C_below h3 hb, Kd.C_below h4 hb⟩
  have hI : ∀ xs, PInts xs v w → PInts xs v w' := fun xs h => by
    obtain ⟨A, e, h1⟩ := h
    exact ⟨A, e, Kd.C_below h1 hb⟩
  have hC : ∀ ks ts, PCrash ks ts v w → PCrash ks ts v w' := fun ks ts h => by
    obtain ⟨A, c, B, d, e, h1, h2, h3, h4⟩ := h
    exact ⟨A, c, B, d, e, h1, h2, Kd.C_below h3 hb, Kd.C_below h4 hb⟩
  unfold P9 at h ⊢
  split at h
  all_goals first
    | exact hA _ h
    | exact hI _ h
    | exact hC _ _ h
    | (obtain ⟨A, e, h1⟩ := h; exact ⟨A, e, Kd.C_below h1 hb⟩)
    | exact h
def simple (a : SAct) : List Value := [.int .u8 a.kind, .int .u8 a.node, .int .i64 a.n, .string ⟨a.text.toArray⟩, .slice none 0 0, .slice none 0 0]
theorem simple_K (W : World) (a : SAct) (hk : a.keep = []) (ht : a.torn = []) : k26.K W (toS a) (simple a) := by
  obtain ⟨kind, node, n, text, keep, torn⟩ := a
  simp only at hk ht
  subst hk ht
  exact PScriptTotal.k26_mk W (toS ⟨kind, node, n, text, [], []⟩) (A4 := none) (c4 := 0) (Nat.le_refl _) (Kd.C_nil _ _) (A5 := none) (c5 := 0) (Nat.le_refl _) (Kd.C_nil _ _)
/-- a row of acts is read, out of its cells. -/
theorem row26 {W : World} {g : Nat} {cells : Array Value} {t : TypeId} {fz : Nat × Nat} {xs : List SAct} (hg : W.heap[g]? = some (.cells cells t fz)) (hl : xs.length ≤ 9223372036854775807)
    (h : ∀ (j : Nat) (a : SAct), xs[j]? = some a → ∃ c, c.length = 6 ∧ k26.K W (toS a) c ∧ ∀ (i : Nat) (u : Value), c[i]? = some u → cells[j * 6 + i]? = some u) : Kd.C k26 W (some ⟨g, 0, none⟩) xs.length (xs.map toS) := by
  refine ⟨by simp, hl, fun hn => ⟨_, rfl, fun j p hp => ?_⟩⟩
  rw [List.getElem?_map] at hp
  obtain ⟨a, ha, rfl⟩ := Option.map_eq_some_iff.1 hp
  obtain ⟨c, h1, h2, h3⟩ := h j a ha
  refine ⟨c, h1, h2, fun i u hu => ?_⟩
  have e : (⟨g, 0, none⟩ : Addr).add (j * k26.sz + i) = ⟨g, j * 6 + i, none⟩ := by
    show (⟨g, 0, none⟩ : Addr).add (j * 6 + i) = _
    unfold Addr.add
    split
    · rename_i h0
      rw [h0]
    · simp
  rw [e]
  simp [World.cell?, hg, h3 i u hu]
theorem int_Cg {W : World} {g : Nat} {e : TypeId} {fz : Nat × Nat} (k : IntKind) (xs : List Int) (cells : Array Value) (hg : W.heap[g]? = some (.cells cells e fz)) (hl : xs.length ≤ 9223372036854775807) (hc : ∀ j : Nat, j < xs.length → cells[j]? = some (.int k (xs.getD j 0))) :
    Kd.C (Kd.int k) W (some ⟨g, 0, none⟩) xs.length xs := by
  refine ⟨rfl, hl, fun hn => ⟨_, rfl, fun j p hp => ⟨[.int k p], rfl, ⟨rfl, ?_⟩⟩⟩⟩
  intro i u hu
  have hi : i = 0 := by
    rcases i with _ | i
    · rfl
    · simp at hu
  subst hi
  simp only [List.getElem?_cons_zero, Option.some.injEq] at hu
  subst hu
  have hj : j < xs.length := by
    rcases Nat.lt_or_ge j xs.length with h | h
    · exact h
    · simp [List.getElem?_eq_none h] at hp
  have e1 := hc j hj
  have e2 : p = xs.getD j 0 := by simp [List.getD, hp]
  rw [← e2] at e1
  have e3 : (⟨g, 0, none⟩ : Addr).add (j * (Kd.int k).sz + 0) = ⟨g, j, none⟩ := by
    show (⟨g, 0, none⟩ : Addr).add (j * 1 + 0) = _
    unfold Addr.add
    split
    · have : j = 0 := by omega
      subst this; rfl
    · simp
  rw [e3]
  simp [World.cell?, hg, e1]
theorem int_C (W : World) (e : TypeId) (k : IntKind) (xs : List Int) (cells : Array Value) (hl : xs.length ≤ 9223372036854775807) (hc : ∀ j : Nat, j < xs.length → cells[j]? = some (.int k (xs.getD j 0))) :
    Kd.C (Kd.int k) (W.alloc (.cells cells e)) (some ⟨W.heap.size, 0, none⟩) xs.length xs := int_Cg k xs cells (heap_alloc_new W (.cells cells e)) hl hc
theorem one_int (W : World) (x : Int) : Kd.C (Kd.int .i64) (W.alloc (.cells #[.int .i64 x] 3)) (some ⟨W.heap.size, 0, none⟩) 1 [x] :=
  int_C W 3 .i64 [x] #[.int .i64 x] (by simp) (fun j hj => by
    have hj0 : j = 0 := by simp at hj; omega
    subst hj0
    rfl)
theorem made_C (W : World) (e : TypeId) (k : IntKind) (m : Nat) (hm : m ≤ 9223372036854775807) : Kd.C (Kd.int k) (W.alloc (.cells (madeCells #[.int k 0] m) e)) (some ⟨W.heap.size, 0, none⟩) m (List.replicate m 0) := by
  have := int_C W e k (List.replicate m 0) (madeCells #[.int k 0] m) (by simpa using hm) (fun j hj => by
    simp only [List.length_replicate] at hj
    simp [madeCells, hj, List.getD, List.getElem?_replicate, Nat.mod_one])
  simpa using this
theorem al (W : World) (o : Obj) : Below W.heap.size W (W.alloc o) := (Below.refl _ _).alloc (Nat.le_refl _) _
theorem int3 : (Tryd.prog.info? 3).map (fun i => (i.zero, i.size, i.bytes)) = some (some (.int .i64 0), 1, 8) := by kernel_rfl
theorem int5 : (Tryd.prog.info? 5).map (fun i => (i.zero, i.size, i.bytes)) = some (some (.int .u8 0), 1, 1) := by kernel_rfl
theorem step_0 (ρ : Operand → Value) (hc : ∀ v, ρ (.const v) = v) (W : World) : ∃ v W', (execOp ρ { dst := some 76, op := Op.build 26 #[], type := 26, pos := "law.go:49", after := #[], guard := none }).run Tryd.prog W = .ok (.value v) W' ∧ P9 0 v W' ∧ Below W.heap.size W W' := by
  refine ⟨.agg #[.int .u8 0, .int .u8 0, .int .i64 0, .string ⟨#[]⟩, .slice none 0 0, .slice none 0 0], W, ?_, ⟨none, 0, none, 0, rfl, Nat.le_refl _, Nat.le_refl _, Kd.C_nil _ _, Kd.C_nil _ _⟩, Below.refl _ _⟩
  simp [execOp, go_sem, hc, *]
theorem step_1 (ρ : Operand → Value) (hc : ∀ v, ρ (.const v) = v) (W : World) : ∃ v W', (execOp ρ { dst := some 77, op := Op.build 26 #[(0, Operand.const (Value.int IntKind.u8 10))], type := 26, pos := "law.go:49", after := #[], guard := none }).run Tryd.prog W = .ok (.value v) W' ∧ P9 1 v W' ∧ Below W.heap.size W W' := by
  refine ⟨.agg #[.int .u8 10, .int .u8 0, .int .i64 0, .string ⟨#[]⟩, .slice none 0 0, .slice none 0 0], W, ?_, ⟨none, 0, none, 0, rfl, Nat.le_refl _, Nat.le_refl _, Kd.C_nil _ _, Kd.C_nil _ _⟩, Below.refl _ _⟩
  simp [execOp, go_sem, hc, *]
theorem step_2 (ρ : Operand → Value) (hc : ∀ v, ρ (.const v) = v) (W : World) : ∃ v W', (execOp ρ { dst := some 78, op := Op.build 26 #[(0, Operand.const (Value.int IntKind.u8 8)), (1, Operand.const (Value.int IntKind.u8 6))], type := 26, pos := "law.go:49", after := #[], guard := none }).run Tryd.prog W = .ok (.value v) W' ∧ P9 2 v W' ∧ Below W.heap.size W W' := by
  refine ⟨.agg #[.int .u8 8, .int .u8 6, .int .i64 0, .string ⟨#[]⟩, .slice none 0 0, .slice none 0 0], W, ?_, ⟨none, 0, none, 0, rfl, Nat.le_refl _, Nat.le_refl _, Kd.C_nil _ _, Kd.C_nil _ _⟩, Below.refl _ _⟩
  simp [execOp, go_sem, hc, *]
theorem step_3 (ρ : Operand → Value) (hc : ∀ v, ρ (.const v) = v) (W : World) : ∃ v W', (execOp ρ { dst := some 79, op := Op.build 26 #[(0, Operand.const (Value.int IntKind.u8 8))], type := 26, pos := "law.go:49", after := #[], guard := none }).run Tryd.prog W = .ok (.value v) W' ∧ P9 3 v W' ∧ Below W.heap.size W W' := by
  refine ⟨.agg #[.int .u8 8, .int .u8 0, .int .i64 0, .string ⟨#[]⟩, .slice none 0 0, .slice none 0 0], W, ?_, ⟨none, 0, none, 0, rfl, Nat.le_refl _, Nat.le_refl _, Kd.C_nil _ _, Kd.C_nil _ _⟩, Below.refl _ _⟩
  simp [execOp, go_sem, hc, *]
theorem step_4 (ρ : Operand → Value) (hc : ∀ v, ρ (.const v) = v) (W : World) : ∃ v W', (execOp ρ { dst := some 80, op := Op.build 26 #[(0, Operand.const (Value.int IntKind.u8 2)), (3, Operand.const (Value.string { data := #[120] }))], type := 26, pos := "law.go:49", after := #[], guard := none }).run Tryd.prog W = .ok (.value v) W' ∧ P9 4 v W' ∧ Below W.heap.size W W' := by
  refine ⟨.agg #[.int .u8 2, .int .u8 0, .int .i64 0, .string ⟨#[120]⟩, .slice none 0 0, .slice none 0 0], W, ?_, ⟨none, 0, none, 0, rfl, Nat.le_refl _, Nat.le_refl _, Kd.C_nil _ _, Kd.C_nil _ _⟩, Below.refl _ _⟩
  simp [execOp, go_sem, hc, *]
theorem step_5 (ρ : Operand → Value) (hc : ∀ v, ρ (.const v) = v) (W : World) : ∃ v W', (execOp ρ { dst := some 81, op := Op.build 26 #[(0, Operand.const (Value.int IntKind.u8 2)), (1, Operand.const (Value.int IntKind.u8 1))], type := 26, pos := "law.go:49", after := #[], guard := none }).run Tryd.prog W = .ok (.value v) W' ∧ P9 5 v W' ∧ Below W.heap.size W W' := by
  refine ⟨.agg #[.int .u8 2, .int .u8 1, .int .i64 0, .string ⟨#[]⟩, .slice none 0 0, .slice none 0 0], W, ?_, ⟨none, 0, none, 0, rfl, Nat.le_refl _, Nat.le_refl _, Kd.C_nil _ _, Kd.C_nil _ _⟩, Below.refl _ _⟩
  simp [execOp, go_sem, hc, *]
theorem step_6 (ρ : Operand → Value) (hc : ∀ v, ρ (.const v) = v) (W : World) : ∃ v W', (execOp ρ { dst := some 82, op := Op.build 26 #[(0, Operand.const (Value.int IntKind.u8 3)), (2, Operand.const (Value.int IntKind.i64 256))], type := 26, pos := "law.go:49", after := #[], guard := none }).run Tryd.prog W = .ok (.value v) W' ∧ P9 6 v W' ∧ Below W.heap.size W W' := by
  refine ⟨.agg #[.int .u8 3, .int .u8 0, .int .i64 256, .string ⟨#[]⟩, .slice none 0 0, .slice none 0 0], W, ?_, ⟨none, 0, none, 0, rfl, Nat.le_refl _, Nat.le_refl _, Kd.C_nil _ _, Kd.C_nil _ _⟩, Below.refl _ _⟩
  simp [execOp, go_sem, hc, *]
theorem step_7 (ρ : Operand → Value) (hc : ∀ v, ρ (.const v) = v) (W : World) : ∃ v W', (execOp ρ { dst := some 83, op := Op.build 26 #[(0, Operand.const (Value.int IntKind.u8 3)), (2, Operand.const (Value.int IntKind.i64 (-1)))], type := 26, pos := "law.go:49", after := #[], guard := none }).run Tryd.prog W = .ok (.value v) W' ∧ P9 7 v W' ∧ Below W.heap.size W W' := by
  refine ⟨.agg #[.int .u8 3, .int .u8 0, .int .i64 (-1), .string ⟨#[]⟩, .slice none 0 0, .slice none 0 0], W, ?_, ⟨none, 0, none, 0, rfl, Nat.le_refl _, Nat.le_refl _, Kd.C_nil _ _, Kd.C_nil _ _⟩, Below.refl _ _⟩
  simp [execOp, go_sem, hc, *]
theorem step_8 (ρ : Operand → Value) (hc : ∀ v, ρ (.const v) = v) (W : World) : ∃ v W', (execOp ρ { dst := some 84, op := Op.build 26 #[(0, Operand.const (Value.int IntKind.u8 1)), (1, Operand.const (Value.int IntKind.u8 1)), (2, Operand.const (Value.int IntKind.i64 1))], type := 26, pos := "law.go:49", after := #[], guard := none }).run Tryd.prog W = .ok (.value v) W' ∧ P9 8 v W' ∧ Below W.heap.size W W' := by
  refine ⟨.agg #[.int .u8 1, .int .u8 1, .int .i64 1, .string ⟨#[]⟩, .slice none 0 0, .slice none 0 0], W, ?_, ⟨none, 0, none, 0, rfl, Nat.le_refl _, Nat.le_refl _, Kd.C_nil _ _, Kd.C_nil _ _⟩, Below.refl _ _⟩
  simp [execOp, go_sem, hc, *]
theorem step_9 (ρ : Operand → Value) (hc : ∀ v, ρ (.const v) = v) (W : World) : ∃ v W', (execOp ρ { dst := some 85, op := Op.build 26 #[(0, Operand.const (Value.int IntKind.u8 9)), (1, Operand.const (Value.int IntKind.u8 32))], type := 26, pos := "law.go:49", after := #[], guard := none }).run Tryd.prog W = .ok (.value v) W' ∧ P9 9 v W' ∧ Below W.heap.size W W' := by
  refine ⟨.agg #[.int .u8 9, .int .u8 32, .int .i64 0, .string ⟨#[]⟩, .slice none 0 0, .slice none 0 0], W, ?_, ⟨none, 0, none, 0, rfl, Nat.le_refl _, Nat.le_refl _, Kd.C_nil _ _, Kd.C_nil _ _⟩, Below.refl _ _⟩
  simp [execOp, go_sem, hc, *]
theorem step_10 (ρ : Operand → Value) (hc : ∀ v, ρ (.const v) = v) (W : World) : ∃ v W', (execOp ρ { dst := some 86, op := Op.buildSlice 22 1 #[(0, Operand.const (Value.int IntKind.i64 1))], type := 22, pos := "law.go:49", after := #[], guard := none }).run Tryd.prog W = .ok (.value v) W' ∧ P9 10 v W' ∧ Below W.heap.size W W' := by
  refine ⟨.slice (some ⟨W.heap.size, 0, none⟩) 1 1, W.alloc (.cells #[.int .i64 1] 3), ?_, ⟨_, rfl, one_int W 1⟩, al _ _⟩
  simp [execOp, go_sem, hc, *]
theorem step_17 (ρ : Operand → Value) (hc : ∀ v, ρ (.const v) = v) (W : World) : ∃ v W', (execOp ρ { dst := some 93, op := Op.buildSlice 22 1 #[(0, Operand.const (Value.int IntKind.i64 1))], type := 22, pos := "law.go:49", after := #[], guard := none }).run Tryd.prog W = .ok (.value v) W' ∧ P9 17 v W' ∧ Below W.heap.size W W' := by
  refine ⟨.slice (some ⟨W.heap.size, 0, none⟩) 1 1, W.alloc (.cells #[.int .i64 1] 3), ?_, ⟨_, rfl, one_int W 1⟩, al _ _⟩
  simp [execOp, go_sem, hc, *]
theorem step_18 (ρ : Operand → Value) (hc : ∀ v, ρ (.const v) = v) (W : World) : ∃ v W', (execOp ρ { dst := some 94, op := Op.buildSlice 22 1 #[(0, Operand.const (Value.int IntKind.i64 1))], type := 22, pos := "law.go:49", after := #[], guard := none }).run Tryd.prog W = .ok (.value v) W' ∧ P9 18 v W' ∧ Below W.heap.size W W' := by
  refine ⟨.slice (some ⟨W.heap.size, 0, none⟩) 1 1, W.alloc (.cells #[.int .i64 1] 3), ?_, ⟨_, rfl, one_int W 1⟩, al _ _⟩
  simp [execOp, go_sem, hc, *]
theorem step_13 (ρ : Operand → Value) (hc : ∀ v, ρ (.const v) = v) (W : World) : ∃ v W', (execOp ρ { dst := some 89, op := Op.makeSlice 22 (Operand.const (Value.int IntKind.i64 8)) (Operand.const (Value.int IntKind.i64 8)), type := 22, pos := "law.go:49", after := #[], guard := none }).run Tryd.prog W = .ok (.value v) W' ∧ P9 13 v W' ∧ Below W.heap.size W W' := by
  have hm := print_make_of (P := Tryd.prog) 22 3 (.int .i64 0) 8 Tryd.underlying22 int3 rfl (by decide) 8 (by decide) W
  rw [show (((8 : Nat)) : Int) = 8 from rfl] at hm
  refine ⟨.slice (some ⟨W.heap.size, 0, none⟩) 8 8, W.alloc (.cells (madeCells #[.int .i64 0] 8) 3), ?_, ⟨_, rfl, made_C W 3 .i64 8 (by decide)⟩, al _ _⟩
  simp [execOp, go_sem, hc, hm]
theorem step_14 (ρ : Operand → Value) (hc : ∀ v, ρ (.const v) = v) (W : World) : ∃ v W', (execOp ρ { dst := some 90, op := Op.makeSlice 22 (Operand.const (Value.int IntKind.i64 8)) (Operand.const (Value.int IntKind.i64 8)), type := 22, pos := "law.go:49", after := #[], guard := none }).run Tryd.prog W = .ok (.value v) W' ∧ P9 14 v W' ∧ Below W.heap.size W W' := by
  have hm := print_make_of (P := Tryd.prog) 22 3 (.int .i64 0) 8 Tryd.underlying22 int3 rfl (by decide) 8 (by decide) W
  rw [show (((8 : Nat)) : Int) = 8 from rfl] at hm
  refine ⟨.slice (some ⟨W.heap.size, 0, none⟩) 8 8, W.alloc (.cells (madeCells #[.int .i64 0] 8) 3), ?_, ⟨_, rfl, made_C W 3 .i64 8 (by decide)⟩, al _ _⟩
  simp [execOp, go_sem, hc, hm]
theorem step_21 (ρ : Operand → Value) (hc : ∀ v, ρ (.const v) = v) (W : World) : ∃ v W', (execOp ρ { dst := some 97, op := Op.makeSlice 29 (Operand.const (Value.int IntKind.i64 65536)) (Operand.const (Value.int IntKind.i64 65536)), type := 29, pos := "law.go:49", after := #[], guard := none }).run Tryd.prog W = .ok (.value v) W' ∧ P9 21 v W' ∧ Below W.heap.size W W' := by
  have hm := print_make_of (P := Tryd.prog) 29 5 (.int .u8 0) 1 Tryd.underlying29 int5 rfl (by decide) 65536 (by decide) W
  rw [show (((65536 : Nat)) : Int) = 65536 from rfl] at hm
  have hz : bi zeros = List.replicate 65536 0 := by unfold bi zeros; rw [List.map_replicate]; rfl
  refine ⟨.slice (some ⟨W.heap.size, 0, none⟩) 65536 65536, W.alloc (.cells (madeCells #[.int .u8 0] 65536) 5), ?_, ⟨some ⟨W.heap.size, 0, none⟩, rfl, ?_⟩, al _ _⟩
  · generalize madeCells #[Value.int IntKind.u8 0] 65536 = cs at hm ⊢
    simp [execOp, go_sem, hc, hm]
  · rw [hz]; exact made_C W 5 .u8 65536 (by decide)
theorem step_11 (ρ : Operand → Value) (hc : ∀ v, ρ (.const v) = v) (W : World) (h10 : P9 10 (ρ (.tmp 86)) W) : ∃ v W', (execOp ρ { dst := some 87, op := Op.build 24 #[(0, Operand.tmp 86)], type := 24, pos := "law.go:49", after := #[{ on := 10, ground := Ground.data }], guard := none }).run Tryd.prog W = .ok (.value v) W' ∧ P9 11 v W' ∧ Below W.heap.size W W' := by
  obtain ⟨A, e, h1⟩ := h10
  have e' : ρ (.tmp 86) = .slice A 1 1 := e
  refine ⟨.agg #[.slice A 1 1, .slice none 0 0], W, ?_, ⟨A, 1, none, 0, rfl, Nat.le_refl _, Nat.le_refl _, h1, Kd.C_nil _ _⟩, Below.refl _ _⟩
  simp [execOp, go_sem, hc, e']
theorem step_15 (ρ : Operand → Value) (hc : ∀ v, ρ (.const v) = v) (W : World) (h13 : P9 13 (ρ (.tmp 89)) W) (h14 : P9 14 (ρ (.tmp 90)) W) : ∃ v W', (execOp ρ { dst := some 91, op := Op.build 24 #[(0, Operand.tmp 89), (1, Operand.tmp 90)], type := 24, pos := "law.go:49", after := #[{ on := 13, ground := Ground.data }, { on := 14, ground := Ground.data }], guard := none }).run Tryd.prog W = .ok (.value v) W' ∧ P9 15 v W' ∧ Below W.heap.size W W' := by
  obtain ⟨A, e, h1⟩ := h13
  obtain ⟨B, e2, h2⟩ := h14
  have e' : ρ (.tmp 89) = .slice A 8 8 := e
  have e2' : ρ (.tmp 90) = .slice B 8 8 := e2
  refine ⟨.agg #[.slice A 8 8, .slice B 8 8], W, ?_, ⟨A, 8, B, 8, rfl, Nat.le_refl _, Nat.le_refl _, h1, h2⟩, Below.refl _ _⟩
  simp [execOp, go_sem, hc, e', e2']
theorem step_19 (ρ : Operand → Value) (hc : ∀ v, ρ (.const v) = v) (W : World) (h17 : P9 17 (ρ (.tmp 93)) W) (h18 : P9 18 (ρ (.tmp 94)) W) : ∃ v W', (execOp ρ { dst := some 95, op := Op.build 24 #[(0, Operand.tmp 93), (1, Operand.tmp 94)], type := 24, pos := "law.go:49", after := #[{ on := 17, ground := Ground.data }, { on := 18, ground := Ground.data }], guard := none }).run Tryd.prog W = .ok (.value v) W' ∧ P9 19 v W' ∧ Below W.heap.size W W' := by
  obtain ⟨A, e, h1⟩ := h17
  obtain ⟨B, e2, h2⟩ := h18
  have e' : ρ (.tmp 93) = .slice A 1 1 := e
  have e2' : ρ (.tmp 94) = .slice B 1 1 := e2
  refine ⟨.agg #[.slice A 1 1, .slice B 1 1], W, ?_, ⟨A, 1, B, 1, rfl, Nat.le_refl _, Nat.le_refl _, h1, h2⟩, Below.refl _ _⟩
  simp [execOp, go_sem, hc, e', e2']
theorem step_12 (ρ : Operand → Value) (hc : ∀ v, ρ (.const v) = v) (W : World) (h11 : P9 11 (ρ (.tmp 87)) W) : ∃ v W', (execOp ρ { dst := some 88, op := Op.build 26 #[(0, Operand.const (Value.int IntKind.u8 7)), (1, Operand.const (Value.int IntKind.u8 1)), (4, Operand.tmp 87)], type := 26, pos := "law.go:49", after := #[{ on := 11, ground := Ground.data }], guard := none }).run Tryd.prog W = .ok (.value v) W' ∧ P9 12 v W' ∧ Below W.heap.size W W' := by
  obtain ⟨A, c, B, d, e, h1, h2, h3, h4⟩ := h11
  have e' : ρ (.tmp 87) = .agg #[.slice A 1 c, .slice B 0 d] := e
  refine ⟨.agg #[.int .u8 7, .int .u8 1, .int .i64 0, .string ⟨#[]⟩, .slice A 1 c, .slice B 0 d], W, ?_, ⟨A, c, B, d, rfl, h1, h2, h3, h4⟩, Below.refl _ _⟩
  simp [execOp, go_sem, hc, e']
theorem step_16 (ρ : Operand → Value) (hc : ∀ v, ρ (.const v) = v) (W : World) (h15 : P9 15 (ρ (.tmp 91)) W) : ∃ v W', (execOp ρ { dst := some 92, op := Op.build 26 #[(0, Operand.const (Value.int IntKind.u8 7)), (1, Operand.const (Value.int IntKind.u8 1)), (4, Operand.tmp 91)], type := 26, pos := "law.go:49", after := #[{ on := 15, ground := Ground.data }], guard := none }).run Tryd.prog W = .ok (.value v) W' ∧ P9 16 v W' ∧ Below W.heap.size W W' := by
  obtain ⟨A, c, B, d, e, h1, h2, h3, h4⟩ := h15
  have e' : ρ (.tmp 91) = .agg #[.slice A 8 c, .slice B 8 d] := e
  refine ⟨.agg #[.int .u8 7, .int .u8 1, .int .i64 0, .string ⟨#[]⟩, .slice A 8 c, .slice B 8 d], W, ?_, ⟨A, c, B, d, rfl, h1, h2, h3, h4⟩, Below.refl _ _⟩
  simp [execOp, go_sem, hc, e']
theorem step_20 (ρ : Operand → Value) (hc : ∀ v, ρ (.const v) = v) (W : World) (h19 : P9 19 (ρ (.tmp 95)) W) : ∃ v W', (execOp ρ { dst := some 96, op := Op.build 26 #[(0, Operand.const (Value.int IntKind.u8 5)), (1, Operand.const (Value.int IntKind.u8 1)), (4, Operand.tmp 95)], type := 26, pos := "law.go:49", after := #[{ on := 19, ground := Ground.data }], guard := none }).run Tryd.prog W = .ok (.value v) W' ∧ P9 20 v W' ∧ Below W.heap.size W W' := by
  obtain ⟨A, c, B, d, e, h1, h2, h3, h4⟩ := h19
  have e' : ρ (.tmp 95) = .agg #[.slice A 1 c, .slice B 1 d] := e
  refine ⟨.agg #[.int .u8 5, .int .u8 1, .int .i64 0, .string ⟨#[]⟩, .slice A 1 c, .slice B 1 d], W, ?_, ⟨A, c, B, d, rfl, h1, h2, h3, h4⟩, Below.refl _ _⟩
  simp [execOp, go_sem, hc, e']
theorem step_22 (ρ : Operand → Value) (hc : ∀ v, ρ (.const v) = v) (W : World) (h21 : P9 21 (ρ (.tmp 97)) W) : ∃ v W', (execOp ρ { dst := some 98, op := Op.convert 29 9 (Operand.tmp 97), type := 9, pos := "law.go:49", after := #[{ on := 21, ground := Ground.data }], guard := none }).run Tryd.prog W = .ok (.value v) W' ∧ P9 22 v W' ∧ Below W.heap.size W W' := by
  obtain ⟨A, e, h1⟩ := h21
  have hz : (⟨zeros.toArray⟩ : ByteArray) = strOfNums (bi zeros) := (strOf_bi zeros).symm
  have hs := Kd.C_string (c := 65536) Tryd.underlying29 Tryd.underlying5 Tryd.underlying9 h1
  refine ⟨.string ⟨zeros.toArray⟩, W, ?_, rfl, Below.refl _ _⟩
  rw [strOf_bi] at hs
  generalize (⟨zeros.toArray⟩ : ByteArray) = zz at hs ⊢
  simp [execOp, go_sem, hc, e, hs]
theorem step_23 (ρ : Operand → Value) (hc : ∀ v, ρ (.const v) = v) (W : World) (h22 : P9 22 (ρ (.tmp 98)) W) : ∃ v W', (execOp ρ { dst := some 99, op := Op.build 26 #[(0, Operand.const (Value.int IntKind.u8 1)), (1, Operand.const (Value.int IntKind.u8 1)), (3, Operand.tmp 98)], type := 26, pos := "law.go:49", after := #[{ on := 22, ground := Ground.data }], guard := none }).run Tryd.prog W = .ok (.value v) W' ∧ P9 23 v W' ∧ Below W.heap.size W W' := by
  have e' : ρ (.tmp 98) = .string ⟨zeros.toArray⟩ := h22
  refine ⟨.agg #[.int .u8 1, .int .u8 1, .int .i64 0, .string ⟨zeros.toArray⟩, .slice none 0 0, .slice none 0 0], W, ?_, ⟨none, 0, none, 0, rfl, Nat.le_refl _, Nat.le_refl _, Kd.C_nil _ _, Kd.C_nil _ _⟩, Below.refl _ _⟩
  generalize (⟨zeros.toArray⟩ : ByteArray) = zz at e' ⊢
  simp [execOp, go_sem, hc, e']
theorem step_24 (ρ : Operand → Value) (hc : ∀ v, ρ (.const v) = v) (W : World) (h0 : P9 0 (ρ (.tmp 76)) W) (h1 : P9 1 (ρ (.tmp 77)) W) (h2 : P9 2 (ρ (.tmp 78)) W) (h3 : P9 3 (ρ (.tmp 79)) W) (h4 : P9 4 (ρ (.tmp 80)) W) (h5 : P9 5 (ρ (.tmp 81)) W) (h6 : P9 6 (ρ (.tmp 82)) W) (h7 : P9 7 (ρ (.tmp 83)) W) (h8 : P9 8 (ρ (.tmp 84)) W) (h9 : P9 9 (ρ (.tmp 85)) W) (h12 : P9 12 (ρ (.tmp 88)) W) (h16 : P9 16 (ρ (.tmp 92)) W) (h20 : P9 20 (ρ (.tmp 96)) W) (h23 : P9 23 (ρ (.tmp 99)) W) : ∃ v W', (execOp ρ { dst := some 100, op := Op.buildSlice 27 14 #[(0, Operand.tmp 76), (1, Operand.tmp 77), (2, Operand.tmp 78), (3, Operand.tmp 79), (4, Operand.tmp 80), (5, Operand.tmp 81), (6, Operand.tmp 82), (7, Operand.tmp 83), (8, Operand.tmp 84), (9, Operand.tmp 85), (10, Operand.tmp 88), (11, Operand.tmp 92), (12, Operand.tmp 96), (13, Operand.tmp 99)], type := 27, pos := "law.go:49", after := #[{ on := 0, ground := Ground.data }, { on := 1, ground := Ground.data }, { on := 2, ground := Ground.data }, { on := 3, ground := Ground.data }, { on := 4, ground := Ground.data }, { on := 5, ground := Ground.data }, { on := 6, ground := Ground.data }, { on := 7, ground := Ground.data }, { on := 8, ground := Ground.data }, { on := 9, ground := Ground.data }, { on := 12, ground := Ground.data }, { on := 16, ground := Ground.data }, { on := 20, ground := Ground.data }, { on := 23, ground := Ground.data }], guard := none }).run Tryd.prog W = .ok (.value v) W' ∧ P9 24 v W' ∧ Below W.heap.size W W' := by
  obtain ⟨A0, c0, B0, d0, e0, x0, y0, X0, Y0⟩ := h0
  obtain ⟨A1, c1, B1, d1, e1, x1, y1, X1, Y1⟩ := h1
  obtain ⟨A2, c2, B2, d2, e2, x2, y2, X2, Y2⟩ := h2
  obtain ⟨A3, c3, B3, d3, e3, x3, y3, X3, Y3⟩ := h3
  obtain ⟨A4, c4, B4, d4, e4, x4, y4, X4, Y4⟩ := h4
  obtain ⟨A5, c5, B5, d5, e5, x5, y5, X5, Y5⟩ := h5
  obtain ⟨A6, c6, B6, d6, e6, x6, y6, X6, Y6⟩ := h6
  obtain ⟨A7, c7, B7, d7, e7, x7, y7, X7, Y7⟩ := h7
  obtain ⟨A8, c8, B8, d8, e8, x8, y8, X8, Y8⟩ := h8
  obtain ⟨A9, c9, B9, d9, e9, x9, y9, X9, Y9⟩ := h9
  obtain ⟨A10, c10, B10, d10, e10, x10, y10, X10, Y10⟩ := h12
  obtain ⟨A11, c11, B11, d11, e11, x11, y11, X11, Y11⟩ := h16
  obtain ⟨A12, c12, B12, d12, e12, x12, y12, X12, Y12⟩ := h20
  obtain ⟨A13, c13, B13, d13, e13, x13, y13, X13, Y13⟩ := h23
  refine ⟨.slice (some ⟨W.heap.size, 0, none⟩) 14 14, W.alloc (.cells #[.int .u8 q0.kind, .int .u8 q0.node, .int .i64 q0.n, .string ⟨q0.text.toArray⟩, .slice A0 q0.keep.length c0, .slice B0 q0.torn.length d0, .int .u8 q1.kind, .int .u8 q1.node, .int .i64 q1.n, .string ⟨q1.text.toArray⟩, .slice A1 q1.keep.length c1, .slice B1 q1.torn.length d1, .int .u8 q2.kind, .int .u8 q2.node, .int .i64 q2.n, .string ⟨q2.text.toArray⟩, .slice A2 q2.keep.length c2, .slice B2 q2.torn.length d2, .int .u8 q3.kind, .int .u8 q3.node, .int .i64 q3.n, .string ⟨q3.text.toArray⟩, .slice A3 q3.keep.length c3, .slice B3 q3.torn.length d3, .int .u8 q4.kind, .int .u8 q4.node, .int .i64 q4.n, .string ⟨q4.text.toArray⟩, .slice A4 q4.keep.length c4, .slice B4 q4.torn.length d4, .int .u8 q5.kind, .int .u8 q5.node, .int .i64 q5.n, .string ⟨q5.text.toArray⟩, .slice A5 q5.keep.length c5, .slice B5 q5.torn.length d5, .int .u8 q6.kind, .int .u8 q6.node, .int .i64 q6.n, .string ⟨q6.text.toArray⟩, .slice A6 q6.keep.length c6, .slice B6 q6.torn.length d6, .int .u8 q7.kind, .int .u8 q7.node, .int .i64 q7.n, .string ⟨q7.text.toArray⟩, .slice A7 q7.keep.length c7, .slice B7 q7.torn.length d7, .int .u8 q8.kind, .int .u8 q8.node, .int .i64 q8.n, .string ⟨q8.text.toArray⟩, .slice A8 q8.keep.length c8, .slice B8 q8.torn.length d8, .int .u8 q9.kind, .int .u8 q9.node, .int .i64 q9.n, .string ⟨q9.text.toArray⟩, .slice A9 q9.keep.length c9, .slice B9 q9.torn.length d9, .int .u8 q10.kind, .int .u8 q10.node, .int .i64 q10.n, .string ⟨q10.text.toArray⟩, .slice A10 q10.keep.length c10, .slice B10 q10.torn.length d10, .int .u8 q11.kind, .int .u8 q11.node, .int .i64 q11.n, .string ⟨q11.text.toArray⟩, .slice A11 q11.keep.length c11, .slice B11 q11.torn.length d11, .int .u8 q12.kind, .int .u8 q12.node, .int .i64 q12.n, .string ⟨q12.text.toArray⟩, .slice A12 q12.keep.length c12, .slice B12 q12.torn.length d12, .int .u8 q13.kind, .int .u8 q13.node, .int .i64 q13.n, .string ⟨q13.text.toArray⟩, .slice A13 q13.keep.length c13, .slice B13 q13.torn.length d13] 26), ?_, ⟨some ⟨W.heap.size, 0, none⟩, rfl, ?_⟩, al _ _⟩
  · clear x0 y0 X0 Y0 x1 y1 X1 Y1 x2 y2 X2 Y2 x3 y3 X3 Y3 x4 y4 X4 Y4 x5 y5 X5 Y5 x6 y6 X6 Y6 x7 y7 X7 Y7 x8 y8 X8 Y8 x9 y9 X9 Y9 x10 y10 X10 Y10 x11 y11 X11 Y11 x12 y12 X12 Y12 x13 y13 X13 Y13
    simp [execOp, go_sem, hc, e0, e1, e2, e3, e4, e5, e6, e7, e8, e9, e10, e11, e12, e13]
  · have hb := al W (.cells #[.int .u8 q0.kind, .int .u8 q0.node, .int .i64 q0.n, .string ⟨q0.text.toArray⟩, .slice A0 q0.keep.length c0, .slice B0 q0.torn.length d0, .int .u8 q1.kind, .int .u8 q1.node, .int .i64 q1.n, .string ⟨q1.text.toArray⟩, .slice A1 q1.keep.length c1, .slice B1 q1.torn.length d1, .int .u8 q2.kind, .int .u8 q2.node, .int .i64 q2.n, .string ⟨q2.text.toArray⟩, .slice A2 q2.keep.length c2, .slice B2 q2.torn.length d2, .int .u8 q3.kind, .int .u8 q3.node, .int .i64 q3.n, .string ⟨q3.text.toArray⟩, .slice A3 q3.keep.length c3, .slice B3 q3.torn.length d3, .int .u8 q4.kind, .int .u8 q4.node, .int .i64 q4.n, .string ⟨q4.text.toArray⟩, .slice A4 q4.keep.length c4, .slice B4 q4.torn.length d4, .int .u8 q5.kind, .int .u8 q5.node, .int .i64 q5.n, .string ⟨q5.text.toArray⟩, .slice A5 q5.keep.length c5, .slice B5 q5.torn.length d5, .int .u8 q6.kind, .int .u8 q6.node, .int .i64 q6.n, .string ⟨q6.text.toArray⟩, .slice A6 q6.keep.length c6, .slice B6 q6.torn.length d6, .int .u8 q7.kind, .int .u8 q7.node, .int .i64 q7.n, .string ⟨q7.text.toArray⟩, .slice A7 q7.keep.length c7, .slice B7 q7.torn.length d7, .int .u8 q8.kind, .int .u8 q8.node, .int .i64 q8.n, .string ⟨q8.text.toArray⟩, .slice A8 q8.keep.length c8, .slice B8 q8.torn.length d8, .int .u8 q9.kind, .int .u8 q9.node, .int .i64 q9.n, .string ⟨q9.text.toArray⟩, .slice A9 q9.keep.length c9, .slice B9 q9.torn.length d9, .int .u8 q10.kind, .int .u8 q10.node, .int .i64 q10.n, .string ⟨q10.text.toArray⟩, .slice A10 q10.keep.length c10, .slice B10 q10.torn.length d10, .int .u8 q11.kind, .int .u8 q11.node, .int .i64 q11.n, .string ⟨q11.text.toArray⟩, .slice A11 q11.keep.length c11, .slice B11 q11.torn.length d11, .int .u8 q12.kind, .int .u8 q12.node, .int .i64 q12.n, .string ⟨q12.text.toArray⟩, .slice A12 q12.keep.length c12, .slice B12 q12.torn.length d12, .int .u8 q13.kind, .int .u8 q13.node, .int .i64 q13.n, .string ⟨q13.text.toArray⟩, .slice A13 q13.keep.length c13, .slice B13 q13.torn.length d13] 26)
    refine row26 (xs := acts14) (heap_alloc_new W _) (by decide) (fun j a ha => ?_)
    have hj : j < 14 := by
      rcases Nat.lt_or_ge j 14 with h | h
      · exact h
      · rw [List.getElem?_eq_none (by simpa [acts14] using h)] at ha; cases ha
    have hjj : j = 0 ∨ j = 1 ∨ j = 2 ∨ j = 3 ∨ j = 4 ∨ j = 5 ∨ j = 6 ∨ j = 7 ∨ j = 8 ∨ j = 9 ∨ j = 10 ∨ j = 11 ∨ j = 12 ∨ j = 13 := by omega
    rcases hjj with rfl | rfl | rfl | rfl | rfl | rfl | rfl | rfl | rfl | rfl | rfl | rfl | rfl | rfl
    · have ha' : a = q0 := by simpa [acts14] using ha.symm
      subst ha'
      exact ⟨[.int .u8 q0.kind, .int .u8 q0.node, .int .i64 q0.n, .string ⟨q0.text.toArray⟩, .slice A0 q0.keep.length c0, .slice B0 q0.torn.length d0], rfl, PScriptTotal.k26_mk _ (toS q0) (A4 := A0) (c4 := c0) x0 (Kd.C_below X0 hb) (A5 := B0) (c5 := d0) y0 (Kd.C_below Y0 hb), fun i u hu => by
        rcases i with _ | _ | _ | _ | _ | _ | i
        all_goals first
          | exact hu
          | (simp at hu)⟩
    · have ha' : a = q1 := by simpa [acts14] using ha.symm
      subst ha'
      exact ⟨[.int .u8 q1.kind, .int .u8 q1.node, .int .i64 q1.n, .string ⟨q1.text.toArray⟩, .slice A1 q1.keep.length c1, .slice B1 q1.torn.length d1], rfl, PScriptTotal.k26_mk _ (toS q1) (A4 := A1) (c4 := c1) x1 (Kd.C_below X1 hb) (A5 := B1) (c5 := d1) y1 (Kd.C_below Y1 hb), fun i u hu => by
        rcases i with _ | _ | _ | _ | _ | _ | i
        all_goals first
          | exact hu
          | (simp at hu)⟩
    · have ha' : a = q2 := by simpa [acts14] using ha.symm
      subst ha'
      exact ⟨[.int .u8 q2.kind, .int .u8 q2.node, .int .i64 q2.n, .string ⟨q2.text.toArray⟩, .slice A2 q2.keep.length c2, .slice B2 q2.torn.length d2], rfl, PScriptTotal.k26_mk _ (toS q2) (A4 := A2) (c4 := c2) x2 (Kd.C_below X2 hb) (A5 := B2) (c5 := d2) y2 (Kd.C_below Y2 hb), fun i u hu => by
        rcases i with _ | _ | _ | _ | _ | _ | i
        all_goals first
          | exact hu
          | (simp at hu)⟩
    · have ha' : a = q3 := by simpa [acts14] using ha.symm
      subst ha'
      exact ⟨[.int .u8 q3.kind, .int .u8 q3.node, .int .i64 q3.n, .string ⟨q3.text.toArray⟩, .slice A3 q3.keep.length c3, .slice B3 q3.torn.length d3], rfl, PScriptTotal.k26_mk _ (toS q3) (A4 := A3) (c4 := c3) x3 (Kd.C_below X3 hb) (A5 := B3) (c5 := d3) y3 (Kd.C_below Y3 hb), fun i u hu => by
        rcases i with _ | _ | _ | _ | _ | _ | i
        all_goals first
          | exact hu
          | (simp at hu)⟩
    · have ha' : a = q4 := by simpa [acts14] using ha.symm
      subst ha'
      exact ⟨[.int .u8 q4.kind, .int .u8 q4.node, .int .i64 q4.n, .string ⟨q4.text.toArray⟩, .slice A4 q4.keep.length c4, .slice B4 q4.torn.length d4], rfl, PScriptTotal.k26_mk _ (toS q4) (A4 := A4) (c4 := c4) x4 (Kd.C_below X4 hb) (A5 := B4) (c5 := d4) y4 (Kd.C_below Y4 hb), fun i u hu => by
        rcases i with _ | _ | _ | _ | _ | _ | i
        all_goals first
          | exact hu
          | (simp at hu)⟩
    · have ha' : a = q5 := by simpa [acts14] using ha.symm
      subst ha'
      exact ⟨[.int .u8 q5.kind, .int .u8 q5.node, .int .i64 q5.n, .string ⟨q5.text.toArray⟩, .slice A5 q5.keep.length c5, .slice B5 q5.torn.length d5], rfl, PScriptTotal.k26_mk _ (toS q5) (A4 := A5) (c4 := c5) x5 (Kd.C_below X5 hb) (A5 := B5) (c5 := d5) y5 (Kd.C_below Y5 hb), fun i u hu => by
        rcases i with _ | _ | _ | _ | _ | _ | i
        all_goals first
          | exact hu
          | (simp at hu)⟩
    · have ha' : a = q6 := by simpa [acts14] using ha.symm
      subst ha'
      exact ⟨[.int .u8 q6.kind, .int .u8 q6.node, .int .i64 q6.n, .string ⟨q6.text.toArray⟩, .slice A6 q6.keep.length c6, .slice B6 q6.torn.length d6], rfl, PScriptTotal.k26_mk _ (toS q6) (A4 := A6) (c4 := c6) x6 (Kd.C_below X6 hb) (A5 := B6) (c5 := d6) y6 (Kd.C_below Y6 hb), fun i u hu => by
        rcases i with _ | _ | _ | _ | _ | _ | i
        all_goals first
          | exact hu
          | (simp at hu)⟩
    · have ha' : a = q7 := by simpa [acts14] using ha.symm
      subst ha'
      exact ⟨[.int .u8 q7.kind, .int .u8 q7.node, .int .i64 q7.n, .string ⟨q7.text.toArray⟩, .slice A7 q7.keep.length c7, .slice B7 q7.torn.length d7], rfl, PScriptTotal.k26_mk _ (toS q7) (A4 := A7) (c4 := c7) x7 (Kd.C_below X7 hb) (A5 := B7) (c5 := d7) y7 (Kd.C_below Y7 hb), fun i u hu => by
        rcases i with _ | _ | _ | _ | _ | _ | i
        all_goals first
          | exact hu
          | (simp at hu)⟩
    · have ha' : a = q8 := by simpa [acts14] using ha.symm
      subst ha'
      exact ⟨[.int .u8 q8.kind, .int .u8 q8.node, .int .i64 q8.n, .string ⟨q8.text.toArray⟩, .slice A8 q8.keep.length c8, .slice B8 q8.torn.length d8], rfl, PScriptTotal.k26_mk _ (toS q8) (A4 := A8) (c4 := c8) x8 (Kd.C_below X8 hb) (A5 := B8) (c5 := d8) y8 (Kd.C_below Y8 hb), fun i u hu => by
        rcases i with _ | _ | _ | _ | _ | _ | i
        all_goals first
          | exact hu
          | (simp at hu)⟩
    · have ha' : a = q9 := by simpa [acts14] using ha.symm
      subst ha'
      exact ⟨[.int .u8 q9.kind, .int .u8 q9.node, .int .i64 q9.n, .string ⟨q9.text.toArray⟩, .slice A9 q9.keep.length c9, .slice B9 q9.torn.length d9], rfl, PScriptTotal.k26_mk _ (toS q9) (A4 := A9) (c4 := c9) x9 (Kd.C_below X9 hb) (A5 := B9) (c5 := d9) y9 (Kd.C_below Y9 hb), fun i u hu => by
        rcases i with _ | _ | _ | _ | _ | _ | i
        all_goals first
          | exact hu
          | (simp at hu)⟩
    · have ha' : a = q10 := by simpa [acts14] using ha.symm
      subst ha'
      exact ⟨[.int .u8 q10.kind, .int .u8 q10.node, .int .i64 q10.n, .string ⟨q10.text.toArray⟩, .slice A10 q10.keep.length c10, .slice B10 q10.torn.length d10], rfl, PScriptTotal.k26_mk _ (toS q10) (A4 := A10) (c4 := c10) x10 (Kd.C_below X10 hb) (A5 := B10) (c5 := d10) y10 (Kd.C_below Y10 hb), fun i u hu => by
        rcases i with _ | _ | _ | _ | _ | _ | i
        all_goals first
          | exact hu
          | (simp at hu)⟩
    · have ha' : a = q11 := by simpa [acts14] using ha.symm
      subst ha'
      exact ⟨[.int .u8 q11.kind, .int .u8 q11.node, .int .i64 q11.n, .string ⟨q11.text.toArray⟩, .slice A11 q11.keep.length c11, .slice B11 q11.torn.length d11], rfl, PScriptTotal.k26_mk _ (toS q11) (A4 := A11) (c4 := c11) x11 (Kd.C_below X11 hb) (A5 := B11) (c5 := d11) y11 (Kd.C_below Y11 hb), fun i u hu => by
        rcases i with _ | _ | _ | _ | _ | _ | i
        all_goals first
          | exact hu
          | (simp at hu)⟩
    · have ha' : a = q12 := by simpa [acts14] using ha.symm
      subst ha'
      exact ⟨[.int .u8 q12.kind, .int .u8 q12.node, .int .i64 q12.n, .string ⟨q12.text.toArray⟩, .slice A12 q12.keep.length c12, .slice B12 q12.torn.length d12], rfl, PScriptTotal.k26_mk _ (toS q12) (A4 := A12) (c4 := c12) x12 (Kd.C_below X12 hb) (A5 := B12) (c5 := d12) y12 (Kd.C_below Y12 hb), fun i u hu => by
        rcases i with _ | _ | _ | _ | _ | _ | i
        all_goals first
          | exact hu
          | (simp at hu)⟩
    · have ha' : a = q13 := by simpa [acts14] using ha.symm
      subst ha'
      exact ⟨[.int .u8 q13.kind, .int .u8 q13.node, .int .i64 q13.n, .string ⟨q13.text.toArray⟩, .slice A13 q13.keep.length c13, .slice B13 q13.torn.length d13], rfl, PScriptTotal.k26_mk _ (toS q13) (A4 := A13) (c4 := c13) x13 (Kd.C_below X13 hb) (A5 := B13) (c5 := d13) y13 (Kd.C_below Y13 hb), fun i u hu => by
        rcases i with _ | _ | _ | _ | _ | _ | i
        all_goals first
          | exact hu
          | (simp at hu)⟩
theorem step_25 (ρ : Operand → Value) (hc : ∀ v, ρ (.const v) = v) (W : World) (h24 : P9 24 (ρ (.tmp 100)) W) : ∃ v W', (execOp ρ { dst := some 101, op := Op.call { callee := Callee.builtin Builtin.len, args := #[Operand.tmp 100], argTypes := #[27] }, type := 3, pos := "law.go:49", after := #[{ on := 24, ground := Ground.data }], guard := none }).run Tryd.prog W = .ok (.value v) W' ∧ P9 25 v W' ∧ Below W.heap.size W W' := by
  obtain ⟨A, e, h1⟩ := h24
  refine ⟨.int .i64 14, W, ?_, rfl, Below.refl _ _⟩
  simp [execOp, go_sem, hc, e]
theorem step_26 (ρ : Operand → Value) (hc : ∀ v, ρ (.const v) = v) (W : World) : ∃ v W', (execOp ρ { dst := some 102, op := Op.move (Operand.const (Value.int IntKind.i64 0)), type := 3, pos := "law.go:49", after := #[], guard := none }).run Tryd.prog W = .ok (.value v) W' ∧ P9 26 v W' ∧ Below W.heap.size W W' := by
  refine ⟨.int .i64 0, W, ?_, rfl, Below.refl _ _⟩
  simp [execOp, go_sem, hc]

/-! the region as a whole -/
def chain (t : Array Value) (vs : Nat → Value) : Nat → Array Value
  | 0 => t
  | n + 1 => (chain t vs n).setIfInBounds (76 + n) (vs n)
theorem chain_size (t : Array Value) (vs : Nat → Value) (n : Nat) : (chain t vs n).size = t.size := by
  induction n with
  | zero => rfl
  | succ n ih => simp [chain, ih]
theorem chain_get (t : Array Value) (vs : Nat → Value) (n j : Nat) : (chain t vs n)[j]? = if 76 ≤ j ∧ j < 76 + n ∧ j < t.size then some (vs (j - 76)) else t[j]? := by
  induction n with
  | zero => rw [if_neg (by omega)]; rfl
  | succ n ih =>
    simp only [chain, Array.getElem?_setIfInBounds, chain_size, ih]
    by_cases hj : 76 + n = j
    · subst hj
      rw [if_pos rfl]
      by_cases hs : 76 + n < t.size
      · rw [if_pos hs, if_pos (by omega)]
        congr 2
        omega
      · rw [if_neg hs, if_neg (by omega)]
        rw [Array.getElem?_eq_none (by omega)]
    · rw [if_neg hj]
      by_cases h1 : 76 ≤ j ∧ j < 76 + n ∧ j < t.size
      · rw [if_pos h1, if_pos (by omega)]
      · rw [if_neg h1, if_neg (by omega)]
def R9 (a0 : Act) (w0 : World) (listed : Array Bool) (a : Act) (w : World) : Prop :=
  listed.size = 27 ∧ a.defers = a0.defers ∧ a.tmps.size = a0.tmps.size ∧ Below w0.heap.size w0 w ∧ ∃ vs : Nat → Value,
    (∀ j, a.tmps[j]? = if 76 ≤ j ∧ j < 103 ∧ listed.getD (j - 76) false = true then some (vs (j - 76)) else a0.tmps[j]?) ∧ ∀ i, i < 27 → listed.getD i false = true → P9 i (vs i) w
theorem R9.step {a0 : Act} {w0 : World} {listed : Array Bool} {a : Act} {w w' : World} (h : R9 a0 w0 listed a w) (hsz : a0.tmps.size = 175) (i : Nat) (hi : i < 27) (v : Value) (hp : P9 i v w') (hb : Below w.heap.size w w') :
    R9 a0 w0 (listed.setIfInBounds i true) (a.put (some (76 + i)) v) w' := by
  obtain ⟨h1, h2, h3, h4, vs, h5, h6⟩ := h
  refine ⟨by simpa using h1, h2, by simpa [Act.put] using h3, h4.trans (hb.mono h4.size), fun k => if k = i then v else vs k, fun j => ?_, fun k hk hl => ?_⟩
  · simp only [Act.put, Array.getElem?_setIfInBounds, h3, hsz, h5 j]
    by_cases hj : 76 + i = j
    · subst hj
      rw [if_pos rfl, if_pos (by omega), if_pos]
      · rw [if_pos (by omega)]
      · refine ⟨by omega, by omega, ?_⟩
        rw [show 76 + i - 76 = i by omega]
        simp [Array.getD_eq_getD_getElem?, Array.getElem?_setIfInBounds, h1, hi]
    · rw [if_neg hj]
      have e : (listed.setIfInBounds i true).getD (j - 76) false = if 76 ≤ j then listed.getD (j - 76) false else (listed.setIfInBounds i true).getD (j - 76) false := by
        by_cases hj2 : 76 ≤ j
        · rw [if_pos hj2]
          simp [Array.getD_eq_getD_getElem?, Array.getElem?_setIfInBounds, show ¬ i = j - 76 by omega]
        · rw [if_neg hj2]
      by_cases hj2 : 76 ≤ j
      · rw [if_pos hj2] at e
        rw [e, if_neg (show ¬ j - 76 = i by omega)]
      · rw [if_neg (by omega), if_neg (by omega)]
  · by_cases hki : k = i
    · subst hki
      show P9 k (if k = k then v else vs k) w'
      rw [if_pos rfl]; exact hp
    · show P9 k (if k = i then v else vs k) w'
      rw [if_neg hki]
      refine (h6 k hk ?_).below hb
      simpa [Array.getD_eq_getD_getElem?, Array.getElem?_setIfInBounds, Ne.symm hki] using hl
theorem R9.dep {a0 : Act} {w0 : World} {listed : Array Bool} {a : Act} {w : World} (h : R9 a0 w0 listed a w) (d : Nat) (hd : d < 27) (hl : listed.getD d false = true) : P9 d (a.eval (.tmp (76 + d))) w := by
  obtain ⟨h1, h2, h3, h4, vs, h5, h6⟩ := h
  have := h5 (76 + d)
  rw [if_pos ⟨by omega, by omega, by rw [show 76 + d - 76 = d by omega]; exact hl⟩, show 76 + d - 76 = d by omega] at this
  have e : a.eval (.tmp (76 + d)) = vs d := by
    show a.tmps.getD (76 + d) undef = _
    rw [Array.getD_eq_getD_getElem?, this]; rfl
  rw [e]
  exact h6 d hd hl
set_option maxRecDepth 100000 in
theorem R9.all {Q : Exit → Act → World → Prop} {a0 : Act} {w0 : World} (hsz : a0.tmps.size = 175) (listed : Array Bool) (i : Nat) (a : Act) (w : World) (h : R9 a0 w0 listed a w) (hr : i ∈ Region.ready .any ops9 listed) :
    wpOp Tryd.prog ops9 Q i (fun a' w' => R9 a0 w0 (listed.setIfInBounds i true) a' w') a w := by
  obtain ⟨hlf, o, ho, hall⟩ := ready_false hr
  have hi : i < 27 := by
    rcases Nat.lt_or_ge i 27 with h' | h'
    · exact h'
    · rw [Array.getElem?_eq_none (by simpa [ops9] using h')] at ho; cases ho
  have hii : i = 0 ∨ i = 1 ∨ i = 2 ∨ i = 3 ∨ i = 4 ∨ i = 5 ∨ i = 6 ∨ i = 7 ∨ i = 8 ∨ i = 9 ∨ i = 10 ∨ i = 11 ∨ i = 12 ∨ i = 13 ∨ i = 14 ∨ i = 15 ∨ i = 16 ∨ i = 17 ∨ i = 18 ∨ i = 19 ∨ i = 20 ∨ i = 21 ∨ i = 22 ∨ i = 23 ∨ i = 24 ∨ i = 25 ∨ i = 26 := by omega
  rcases hii with rfl | rfl | rfl | rfl | rfl | rfl | rfl | rfl | rfl | rfl | rfl | rfl | rfl | rfl | rfl | rfl | rfl | rfl | rfl | rfl | rfl | rfl | rfl | rfl | rfl | rfl | rfl
  · obtain rfl : o = { dst := some 76, op := Op.build 26 #[], type := 26, pos := "law.go:49", after := #[], guard := none } := (Option.some.inj ho).symm
    obtain ⟨v, W', hrun, hp, hb⟩ := step_0 a.eval (fun _ => rfl) w 
    exact wpOp_run ho rfl rfl hrun (h.step hsz 0 (by decide) v hp hb)
  · obtain rfl : o = { dst := some 77, op := Op.build 26 #[(0, Operand.const (Value.int IntKind.u8 10))], type := 26, pos := "law.go:49", after := #[], guard := none } := (Option.some.inj ho).symm
    obtain ⟨v, W', hrun, hp, hb⟩ := step_1 a.eval (fun _ => rfl) w 
    exact wpOp_run ho rfl rfl hrun (h.step hsz 1 (by decide) v hp hb)
  · obtain rfl : o = { dst := some 78, op := Op.build 26 #[(0, Operand.const (Value.int IntKind.u8 8)), (1, Operand.const (Value.int IntKind.u8 6))], type := 26, pos := "law.go:49", after := #[], guard := none } := (Option.some.inj ho).symm
    obtain ⟨v, W', hrun, hp, hb⟩ := step_2 a.eval (fun _ => rfl) w 
    exact wpOp_run ho rfl rfl hrun (h.step hsz 2 (by decide) v hp hb)
  · obtain rfl : o = { dst := some 79, op := Op.build 26 #[(0, Operand.const (Value.int IntKind.u8 8))], type := 26, pos := "law.go:49", after := #[], guard := none } := (Option.some.inj ho).symm
    obtain ⟨v, W', hrun, hp, hb⟩ := step_3 a.eval (fun _ => rfl) w 
    exact wpOp_run ho rfl rfl hrun (h.step hsz 3 (by decide) v hp hb)
  · obtain rfl : o = { dst := some 80, op := Op.build 26 #[(0, Operand.const (Value.int IntKind.u8 2)), (3, Operand.const (Value.string { data := #[120] }))], type := 26, pos := "law.go:49", after := #[], guard := none } := (Option.some.inj ho).symm
    obtain ⟨v, W', hrun, hp, hb⟩ := step_4 a.eval (fun _ => rfl) w 
    exact wpOp_run ho rfl rfl hrun (h.step hsz 4 (by decide) v hp hb)
  · obtain rfl : o = { dst := some 81, op := Op.build 26 #[(0, Operand.const (Value.int IntKind.u8 2)), (1, Operand.const (Value.int IntKind.u8 1))], type := 26, pos := "law.go:49", after := #[], guard := none } := (Option.some.inj ho).symm
    obtain ⟨v, W', hrun, hp, hb⟩ := step_5 a.eval (fun _ => rfl) w 
    exact wpOp_run ho rfl rfl hrun (h.step hsz 5 (by decide) v hp hb)
  · obtain rfl : o = { dst := some 82, op := Op.build 26 #[(0, Operand.const (Value.int IntKind.u8 3)), (2, Operand.const (Value.int IntKind.i64 256))], type := 26, pos := "law.go:49", after := #[], guard := none } := (Option.some.inj ho).symm
    obtain ⟨v, W', hrun, hp, hb⟩ := step_6 a.eval (fun _ => rfl) w 
    exact wpOp_run ho rfl rfl hrun (h.step hsz 6 (by decide) v hp hb)
  · obtain rfl : o = { dst := some 83, op := Op.build 26 #[(0, Operand.const (Value.int IntKind.u8 3)), (2, Operand.const (Value.int IntKind.i64 (-1)))], type := 26, pos := "law.go:49", after := #[], guard := none } := (Option.some.inj ho).symm
    obtain ⟨v, W', hrun, hp, hb⟩ := step_7 a.eval (fun _ => rfl) w 
    exact wpOp_run ho rfl rfl hrun (h.step hsz 7 (by decide) v hp hb)
  · obtain rfl : o = { dst := some 84, op := Op.build 26 #[(0, Operand.const (Value.int IntKind.u8 1)), (1, Operand.const (Value.int IntKind.u8 1)), (2, Operand.const (Value.int IntKind.i64 1))], type := 26, pos := "law.go:49", after := #[], guard := none } := (Option.some.inj ho).symm
    obtain ⟨v, W', hrun, hp, hb⟩ := step_8 a.eval (fun _ => rfl) w 
    exact wpOp_run ho rfl rfl hrun (h.step hsz 8 (by decide) v hp hb)
  · obtain rfl : o = { dst := some 85, op := Op.build 26 #[(0, Operand.const (Value.int IntKind.u8 9)), (1, Operand.const (Value.int IntKind.u8 32))], type := 26, pos := "law.go:49", after := #[], guard := none } := (Option.some.inj ho).symm
    obtain ⟨v, W', hrun, hp, hb⟩ := step_9 a.eval (fun _ => rfl) w 
    exact wpOp_run ho rfl rfl hrun (h.step hsz 9 (by decide) v hp hb)
  · obtain rfl : o = { dst := some 86, op := Op.buildSlice 22 1 #[(0, Operand.const (Value.int IntKind.i64 1))], type := 22, pos := "law.go:49", after := #[], guard := none } := (Option.some.inj ho).symm
    obtain ⟨v, W', hrun, hp, hb⟩ := step_10 a.eval (fun _ => rfl) w 
    exact wpOp_run ho rfl rfl hrun (h.step hsz 10 (by decide) v hp hb)
  · obtain rfl : o = { dst := some 87, op := Op.build 24 #[(0, Operand.tmp 86)], type := 24, pos := "law.go:49", after := #[{ on := 10, ground := Ground.data }], guard := none } := (Option.some.inj ho).symm
    simp [Region.binds] at hall
    have g10 := hall
    obtain ⟨v, W', hrun, hp, hb⟩ := step_11 a.eval (fun _ => rfl) w (h.dep 10 (by decide) (by simpa [Array.getD_eq_getD_getElem?] using g10))
    exact wpOp_run ho rfl rfl hrun (h.step hsz 11 (by decide) v hp hb)
  · obtain rfl : o = { dst := some 88, op := Op.build 26 #[(0, Operand.const (Value.int IntKind.u8 7)), (1, Operand.const (Value.int IntKind.u8 1)), (4, Operand.tmp 87)], type := 26, pos := "law.go:49", after := #[{ on := 11, ground := Ground.data }], guard := none } := (Option.some.inj ho).symm
    simp [Region.binds] at hall
    have g11 := hall
    obtain ⟨v, W', hrun, hp, hb⟩ := step_12 a.eval (fun _ => rfl) w (h.dep 11 (by decide) (by simpa [Array.getD_eq_getD_getElem?] using g11))
    exact wpOp_run ho rfl rfl hrun (h.step hsz 12 (by decide) v hp hb)
  · obtain rfl : o = { dst := some 89, op := Op.makeSlice 22 (Operand.const (Value.int IntKind.i64 8)) (Operand.const (Value.int IntKind.i64 8)), type := 22, pos := "law.go:49", after := #[], guard := none } := (Option.some.inj ho).symm
    obtain ⟨v, W', hrun, hp, hb⟩ := step_13 a.eval (fun _ => rfl) w 
    exact wpOp_run ho rfl rfl hrun (h.step hsz 13 (by decide) v hp hb)
  · obtain rfl : o = { dst := some 90, op := Op.makeSlice 22 (Operand.const (Value.int IntKind.i64 8)) (Operand.const (Value.int IntKind.i64 8)), type := 22, pos := "law.go:49", after := #[], guard := none } := (Option.some.inj ho).symm
    obtain ⟨v, W', hrun, hp, hb⟩ := step_14 a.eval (fun _ => rfl) w 
    exact wpOp_run ho rfl rfl hrun (h.step hsz 14 (by decide) v hp hb)
  · obtain rfl : o = { dst := some 91, op := Op.build 24 #[(0, Operand.tmp 89), (1, Operand.tmp 90)], type := 24, pos := "law.go:49", after := #[{ on := 13, ground := Ground.data }, { on := 14, ground := Ground.data }], guard := none } := (Option.some.inj ho).symm
    simp [Region.binds] at hall
    obtain ⟨g13, g14⟩ := hall
    obtain ⟨v, W', hrun, hp, hb⟩ := step_15 a.eval (fun _ => rfl) w (h.dep 13 (by decide) (by simpa [Array.getD_eq_getD_getElem?] using g13)) (h.dep 14 (by decide) (by simpa [Array.getD_eq_getD_getElem?] using g14))
    exact wpOp_run ho rfl rfl hrun (h.step hsz 15 (by decide) v hp hb)
  · obtain rfl : o = { dst := some 92, op := Op.build 26 #[(0, Operand.const (Value.int IntKind.u8 7)), (1, Operand.const (Value.int IntKind.u8 1)), (4, Operand.tmp 91)], type := 26, pos := "law.go:49", after := #[{ on := 15, ground := Ground.data }], guard := none } := (Option.some.inj ho).symm
    simp [Region.binds] at hall
    have g15 := hall
    obtain ⟨v, W', hrun, hp, hb⟩ := step_16 a.eval (fun _ => rfl) w (h.dep 15 (by decide) (by simpa [Array.getD_eq_getD_getElem?] using g15))
    exact wpOp_run ho rfl rfl hrun (h.step hsz 16 (by decide) v hp hb)
  · obtain rfl : o = { dst := some 93, op := Op.buildSlice 22 1 #[(0, Operand.const (Value.int IntKind.i64 1))], type := 22, pos := "law.go:49", after := #[], guard := none } := (Option.some.inj ho).symm
    obtain ⟨v, W', hrun, hp, hb⟩ := step_17 a.eval (fun _ => rfl) w 
    exact wpOp_run ho rfl rfl hrun (h.step hsz 17 (by decide) v hp hb)
  · obtain rfl : o = { dst := some 94, op := Op.buildSlice 22 1 #[(0, Operand.const (Value.int IntKind.i64 1))], type := 22, pos := "law.go:49", after := #[], guard := none } := (Option.some.inj ho).symm
    obtain ⟨v, W', hrun, hp, hb⟩ := step_18 a.eval (fun _ => rfl) w 
    exact wpOp_run ho rfl rfl hrun (h.step hsz 18 (by decide) v hp hb)
  · obtain rfl : o = { dst := some 95, op := Op.build 24 #[(0, Operand.tmp 93), (1, Operand.tmp 94)], type := 24, pos := "law.go:49", after := #[{ on := 17, ground := Ground.data }, { on := 18, ground := Ground.data }], guard := none } := (Option.some.inj ho).symm
    simp [Region.binds] at hall
    obtain ⟨g17, g18⟩ := hall
    obtain ⟨v, W', hrun, hp, hb⟩ := step_19 a.eval (fun _ => rfl) w (h.dep 17 (by decide) (by simpa [Array.getD_eq_getD_getElem?] using g17)) (h.dep 18 (by decide) (by simpa [Array.getD_eq_getD_getElem?] using g18))
    exact wpOp_run ho rfl rfl hrun (h.step hsz 19 (by decide) v hp hb)
  · obtain rfl : o = { dst := some 96, op := Op.build 26 #[(0, Operand.const (Value.int IntKind.u8 5)), (1, Operand.const (Value.int IntKind.u8 1)), (4, Operand.tmp 95)], type := 26, pos := "law.go:49", after := #[{ on := 19, ground := Ground.data }], guard := none } := (Option.some.inj ho).symm
    simp [Region.binds] at hall
    have g19 := hall
    obtain ⟨v, W', hrun, hp, hb⟩ := step_20 a.eval (fun _ => rfl) w (h.dep 19 (by decide) (by simpa [Array.getD_eq_getD_getElem?] using g19))
    exact wpOp_run ho rfl rfl hrun (h.step hsz 20 (by decide) v hp hb)
  · obtain rfl : o = { dst := some 97, op := Op.makeSlice 29 (Operand.const (Value.int IntKind.i64 65536)) (Operand.const (Value.int IntKind.i64 65536)), type := 29, pos := "law.go:49", after := #[], guard := none } := (Option.some.inj ho).symm
    obtain ⟨v, W', hrun, hp, hb⟩ := step_21 a.eval (fun _ => rfl) w 
    exact wpOp_run ho rfl rfl hrun (h.step hsz 21 (by decide) v hp hb)
  · obtain rfl : o = { dst := some 98, op := Op.convert 29 9 (Operand.tmp 97), type := 9, pos := "law.go:49", after := #[{ on := 21, ground := Ground.data }], guard := none } := (Option.some.inj ho).symm
    simp [Region.binds] at hall
    have g21 := hall
    obtain ⟨v, W', hrun, hp, hb⟩ := step_22 a.eval (fun _ => rfl) w (h.dep 21 (by decide) (by simpa [Array.getD_eq_getD_getElem?] using g21))
    exact wpOp_run ho rfl rfl hrun (h.step hsz 22 (by decide) v hp hb)
  · obtain rfl : o = { dst := some 99, op := Op.build 26 #[(0, Operand.const (Value.int IntKind.u8 1)), (1, Operand.const (Value.int IntKind.u8 1)), (3, Operand.tmp 98)], type := 26, pos := "law.go:49", after := #[{ on := 22, ground := Ground.data }], guard := none } := (Option.some.inj ho).symm
    simp [Region.binds] at hall
    have g22 := hall
    obtain ⟨v, W', hrun, hp, hb⟩ := step_23 a.eval (fun _ => rfl) w (h.dep 22 (by decide) (by simpa [Array.getD_eq_getD_getElem?] using g22))
    exact wpOp_run ho rfl rfl hrun (h.step hsz 23 (by decide) v hp hb)
  · obtain rfl : o = { dst := some 100, op := Op.buildSlice 27 14 #[(0, Operand.tmp 76), (1, Operand.tmp 77), (2, Operand.tmp 78), (3, Operand.tmp 79), (4, Operand.tmp 80), (5, Operand.tmp 81), (6, Operand.tmp 82), (7, Operand.tmp 83), (8, Operand.tmp 84), (9, Operand.tmp 85), (10, Operand.tmp 88), (11, Operand.tmp 92), (12, Operand.tmp 96), (13, Operand.tmp 99)], type := 27, pos := "law.go:49", after := #[{ on := 0, ground := Ground.data }, { on := 1, ground := Ground.data }, { on := 2, ground := Ground.data }, { on := 3, ground := Ground.data }, { on := 4, ground := Ground.data }, { on := 5, ground := Ground.data }, { on := 6, ground := Ground.data }, { on := 7, ground := Ground.data }, { on := 8, ground := Ground.data }, { on := 9, ground := Ground.data }, { on := 12, ground := Ground.data }, { on := 16, ground := Ground.data }, { on := 20, ground := Ground.data }, { on := 23, ground := Ground.data }], guard := none } := (Option.some.inj ho).symm
    simp [Region.binds] at hall
    obtain ⟨g0, g1, g2, g3, g4, g5, g6, g7, g8, g9, g12, g16, g20, g23⟩ := hall
    obtain ⟨v, W', hrun, hp, hb⟩ := step_24 a.eval (fun _ => rfl) w (h.dep 0 (by decide) (by simpa [Array.getD_eq_getD_getElem?] using g0)) (h.dep 1 (by decide) (by simpa [Array.getD_eq_getD_getElem?] using g1)) (h.dep 2 (by decide) (by simpa [Array.getD_eq_getD_getElem?] using g2)) (h.dep 3 (by decide) (by simpa [Array.getD_eq_getD_getElem?] using g3)) (h.dep 4 (by decide) (by simpa [Array.getD_eq_getD_getElem?] using g4)) (h.dep 5 (by decide) (by simpa [Array.getD_eq_getD_getElem?] using g5)) (h.dep 6 (by decide) (by simpa [Array.getD_eq_getD_getElem?] using g6)) (h.dep 7 (by decide) (by simpa [Array.getD_eq_getD_getElem?] using g7)) (h.dep 8 (by decide) (by simpa [Array.getD_eq_getD_getElem?] using g8)) (h.dep 9 (by decide) (by simpa [Array.getD_eq_getD_getElem?] using g9)) (h.dep 12 (by decide) (by simpa [Array.getD_eq_getD_getElem?] using g12)) (h.dep 16 (by decide) (by simpa [Array.getD_eq_getD_getElem?] using g16)) (h.dep 20 (by decide) (by simpa [Array.getD_eq_getD_getElem?] using g20)) (h.dep 23 (by decide) (by simpa [Array.getD_eq_getD_getElem?] using g23))
    exact wpOp_run ho rfl rfl hrun (h.step hsz 24 (by decide) v hp hb)
  · obtain rfl : o = { dst := some 101, op := Op.call { callee := Callee.builtin Builtin.len, args := #[Operand.tmp 100], argTypes := #[27] }, type := 3, pos := "law.go:49", after := #[{ on := 24, ground := Ground.data }], guard := none } := (Option.some.inj ho).symm
    simp [Region.binds] at hall
    have g24 := hall
    obtain ⟨v, W', hrun, hp, hb⟩ := step_25 a.eval (fun _ => rfl) w (h.dep 24 (by decide) (by simpa [Array.getD_eq_getD_getElem?] using g24))
    exact wpOp_run ho rfl rfl hrun (h.step hsz 25 (by decide) v hp hb)
  · obtain rfl : o = { dst := some 102, op := Op.move (Operand.const (Value.int IntKind.i64 0)), type := 3, pos := "law.go:49", after := #[], guard := none } := (Option.some.inj ho).symm
    obtain ⟨v, W', hrun, hp, hb⟩ := step_26 a.eval (fun _ => rfl) w 
    exact wpOp_run ho rfl rfl hrun (h.step hsz 26 (by decide) v hp hb)
theorem after9 : ((List.range 27).all fun i => ((ops9[i]?).map (fun o => o.after.all fun e => decide (e.on < i))).getD false) = true := by kernel_rfl
theorem all_listed {listed : Array Bool} (hs : listed.size = 27) (hr : Region.ready .any ops9 listed = []) : ∀ i, i < 27 → listed.getD i false = true := by
  intro i
  induction i using Nat.strongRecOn with
  | ind i ih =>
    intro hi
    have hlt : i < listed.size := by omega
    cases hb : listed[i] with
    | true => simp [Array.getD_eq_getD_getElem?, Array.getElem?_eq_getElem hlt, hb]
    | false =>
      exfalso
      have ho : ops9[i]? = some (ops9[i]'(by show i < 27; exact hi)) := Array.getElem?_eq_getElem _
      have ha := List.all_eq_true.1 after9 i (List.mem_range.2 hi)
      rw [ho] at ha
      simp only [Option.map_some, Option.getD_some] at ha
      have hm : i ∈ Region.ready .any ops9 listed := by
        unfold Region.ready
        rw [List.mem_filter]
        refine ⟨List.mem_range.2 hi, ?_⟩
        rw [ho]
        simp only [Option.map_some, Option.getD_some]
        rw [Bool.and_eq_true]
        constructor
        · simp [Array.getD_eq_getD_getElem?, Array.getElem?_eq_getElem hlt, hb]
        · rw [Array.all_eq_true] at ha ⊢
          intro k hk
          have h1 := ha k hk
          have h2 : (ops9[i]'(by show i < 27; exact hi)).after[k].on < i := by simpa using h1
          rw [ih _ h2 (by omega)]
          simp
      rw [hr] at hm
      cases hm
theorem region9_wp {Q : Exit → Act → World → Prop} (a0 : Act) (w0 : World) (hsz : a0.tmps.size = 175)
    (hq : ∀ vs w', Below w0.heap.size w0 w' → PRow (vs 24) w' → vs 25 = .int .i64 14 → vs 26 = .int .i64 0 → Q .normal { a0 with tmps := chain a0.tmps vs 27 } w') : (Code.region 9 ops9 true).wp Tryd.prog Q a0 w0 := by
  have h27 : ops9.size = 27 := rfl
  refine wp_region_any (by kernel_rfl) ?_
  refine wpAny_inv (R9 a0 w0) (fun listed i a w h hr => R9.all hsz listed i a w h hr) (fun listed a w h hr => ?_) _ _ _ _ (by rw [h27]; decide) ?_
  · obtain ⟨h1, h2, h3, h4, vs, h5, h6⟩ := h
    have hall := all_listed h1 hr
    have ht : a.tmps = chain a0.tmps vs 27 := by
      apply Array.ext_getElem?
      intro j
      rw [h5 j, chain_get, hsz]
      by_cases hj : 76 ≤ j ∧ j < 103
      · rw [if_pos ⟨hj.1, hj.2, hall _ (by omega)⟩, if_pos (by omega)]
      · rw [if_neg (fun h => hj ⟨h.1, h.2.1⟩), if_neg (by omega)]
    have hq' := hq vs w h4 (h6 24 (by decide) (hall 24 (by decide))) (h6 25 (by decide) (hall 25 (by decide))) (h6 26 (by decide) (hall 26 (by decide)))
    have ha : a = { a0 with tmps := chain a0.tmps vs 27 } := by
      cases a
      simp only at h2 ht
      rw [h2, ht]
    rw [ha]
    exact hq'
  · refine ⟨by rw [h27]; rfl, rfl, rfl, (Below.refl _ _).drew, fun _ => undef, fun j => ?_, fun i hi hl => ?_⟩
    · rw [if_neg]
      rintro ⟨_, _, h3⟩
      rw [h27, Array.getD_eq_getD_getElem?, Array.getElem?_replicate] at h3
      split at h3 <;> simp at h3
    · rw [h27, Array.getD_eq_getD_getElem?, Array.getElem?_replicate] at hl
      split at hl <;> simp at hl
end Go.Proofs.YtjipfdabkncnmaaDoor.S

/- The plain model of acts and bytes, and its laws: no program in sight. -/
namespace Go.Proofs.YtjipfdabkncnmaaDoor.S
structure SAct where
  kind : Int
  node : Int
  n : Int
  text : List UInt8
  keep : List Int
  torn : List Int

def hd (l : List UInt8) : Int := match l with | [] => 0 | c :: _ => (c.toNat : Int)

def readCrash : Nat → List UInt8 → List Int → List Int → List Int × List Int × List UInt8
  | 0, l, k, t => (k, t, l)
  | n + 1, l, k, t => readCrash n l.tail.tail (k ++ [hd l]) (t ++ [hd l.tail])

def textLen (l : List UInt8) : Nat := (256 * hd l + hd l.tail).toNat

/-- the act of a kind, and what is left: 'l' is what stands behind the kind's byte. -/
def readBody (kind : Int) (l : List UInt8) : SAct × List UInt8 :=
  if kind = 1 then (⟨1, 1 + hd l % 5, 0, (l.tail.tail.tail).take (textLen l.tail), [], []⟩, (l.tail.tail.tail).drop (textLen l.tail))
  else if kind = 5 then (⟨5, 1 + hd l % 5, hd l.tail, [], [], []⟩, l.tail.tail)
  else if kind = 6 then
    (⟨6, 1 + hd l % 5, hd l.tail, [], (readCrash (hd l.tail.tail % 8).toNat l.tail.tail.tail [] []).1, (readCrash (hd l.tail.tail % 8).toNat l.tail.tail.tail [] []).2.1⟩,
      (readCrash (hd l.tail.tail % 8).toNat l.tail.tail.tail [] []).2.2)
  else if kind = 7 then
    (⟨7, 1 + hd l % 5, 0, [], (readCrash (hd l.tail % 8).toNat l.tail.tail [] []).1, (readCrash (hd l.tail % 8).toNat l.tail.tail [] []).2.1⟩,
      (readCrash (hd l.tail % 8).toNat l.tail.tail [] []).2.2)
  else if kind = 8 then (⟨8, 1 + hd l % 5, 0, [], [], []⟩, l.tail)
  else if kind = 9 then (⟨9, hd l % 32, hd l.tail, [], [], []⟩, l.tail.tail)
  else (⟨kind, 0, hd l, [], [], []⟩, l.tail)

def readAct (l : List UInt8) : SAct × List UInt8 := readBody (1 + hd l % 9) l.tail

def decodeN : Nat → List UInt8 → List SAct
  | 0, _ => []
  | _ + 1, [] => []
  | k + 1, c :: r => (readAct (c :: r)).1 :: decodeN k (readAct (c :: r)).2

def byteOf (n : Int) : Bool := decide (0 ≤ n ∧ n < 256)
def nodeOk (a : SAct) : Bool := decide (1 ≤ a.node ∧ a.node ≤ 5)
def bare (a : SAct) : Bool := a.keep.isEmpty && a.torn.isEmpty
def crashOk (a : SAct) : Bool := decide (a.keep.length < 8) && decide (a.keep.length = a.torn.length) && a.keep.all byteOf && a.torn.all byteOf

def plain (a : SAct) : Bool :=
  if a.kind = 1 then nodeOk a && decide (a.n = 0) && decide (a.text.length < 65536) && bare a
  else if a.kind = 2 ∨ a.kind = 3 ∨ a.kind = 4 then decide (a.node = 0) && byteOf a.n && a.text.isEmpty && bare a
  else if a.kind = 5 then nodeOk a && byteOf a.n && a.text.isEmpty && bare a
  else if a.kind = 6 then nodeOk a && byteOf a.n && a.text.isEmpty && crashOk a
  else if a.kind = 7 then nodeOk a && decide (a.n = 0) && a.text.isEmpty && crashOk a
  else if a.kind = 8 then nodeOk a && decide (a.n = 0) && a.text.isEmpty && bare a
  else if a.kind = 9 then decide (a.node < 32) && byteOf a.n && a.text.isEmpty && bare a
  else false

def u8 (n : Int) : UInt8 := UInt8.ofNat (n % 256).toNat

def pairs : List Int → List Int → List UInt8
  | a :: r, b :: s => u8 a :: u8 b :: pairs r s
  | _, _ => []

def crashBytes (a : SAct) : List UInt8 := u8 a.keep.length :: pairs a.keep a.torn

def bytesOf (a : SAct) : List UInt8 :=
  u8 (a.kind - 1) ::
  if a.kind = 1 then u8 (a.node - 1) :: u8 (a.text.length / 256 : Nat) :: u8 a.text.length :: a.text
  else if a.kind = 5 then [u8 (a.node - 1), u8 a.n]
  else if a.kind = 6 then u8 (a.node - 1) :: u8 a.n :: crashBytes a
  else if a.kind = 7 then u8 (a.node - 1) :: crashBytes a
  else if a.kind = 8 then [u8 (a.node - 1)]
  else if a.kind = 9 then [u8 a.node, u8 a.n]
  else [u8 a.n]

def encAll (l : List SAct) : List UInt8 := l.flatMap bytesOf
def encode (l : List SAct) : List UInt8 × Int :=
  if 400 < l.length then ([], 3) else if l.all plain then (encAll l, 0) else ([], 1)

/-! plain laws -/
theorem hd_nonneg (l) : 0 ≤ hd l := by cases l <;> simp [hd]
theorem hd_lt (l) : hd l < 256 := by
  cases l with
  | nil => simp [hd]
  | cons c r => have := c.toNat_lt; simp [hd]; omega
theorem u8_toNat (n : Int) (h : byteOf n = true) : ((u8 n).toNat : Int) = n := by
  simp [byteOf] at h
  simp [u8]; omega
theorem hd_u8 (n : Int) (r) (h : byteOf n = true) : hd (u8 n :: r) = n := by simp [hd, u8_toNat n h]
theorem byteOf_of {n : Int} (h0 : 0 ≤ n) (h : n < 256) : byteOf n = true := by simp [byteOf]; omega
theorem byteOf_hd (l) : byteOf (hd l) = true := byteOf_of (hd_nonneg l) (hd_lt l)

theorem readCrash_len (n) : ∀ l k t, (readCrash n l k t).1.length = k.length + n ∧ (readCrash n l k t).2.1.length = t.length + n := by
  induction n with
  | zero => intro l k t; simp [readCrash]
  | succ n ih => intro l k t; simp [readCrash, ih]; omega
theorem readCrash_all (n) : ∀ l k t, k.all byteOf = true → t.all byteOf = true →
    (readCrash n l k t).1.all byteOf = true ∧ (readCrash n l k t).2.1.all byteOf = true := by
  induction n with
  | zero => intro l k t h1 h2; exact ⟨h1, h2⟩
  | succ n ih =>
    intro l k t h1 h2
    refine ih _ _ _ ?_ ?_
    · rw [List.all_append, h1]; simp [byteOf_hd]
    · rw [List.all_append, h2]; simp [byteOf_hd]
theorem readCrash_pairs : ∀ (k t : List Int) (k0 t0 : List Int) (s : List UInt8), k.length = t.length → k.all byteOf = true → t.all byteOf = true →
    readCrash k.length (pairs k t ++ s) k0 t0 = (k0 ++ k, t0 ++ t, s) := by
  intro k
  induction k with
  | nil => intro t k0 t0 s h _ _; cases t <;> simp_all [readCrash, pairs]
  | cons a r ih =>
    intro t k0 t0 s h h1 h2
    cases t with
    | nil => simp at h
    | cons b u =>
      simp only [List.all_cons, Bool.and_eq_true] at h1 h2
      simp only [List.length_cons, readCrash, pairs, List.cons_append, List.tail_cons]
      rw [hd_u8 _ _ h1.1, hd_u8 _ _ h2.1, ih u _ _ s (by simpa using h) h1.2 h2.2]
      simp

theorem readAct_bytes (a : SAct) (s : List UInt8) (h0 : 0 ≤ a.node) (h : plain a = true) : readAct (bytesOf a ++ s) = (a, s) := by
  obtain ⟨kind, node, n, text, keep, torn⟩ := a
  unfold plain at h
  split at h
  · -- 1
    rename_i hk
    simp only at hk; subst hk
    simp only [Bool.and_eq_true, nodeOk, bare, decide_eq_true_eq, List.isEmpty_iff] at h
    obtain ⟨⟨⟨hn, rfl⟩, ht⟩, rfl, rfl⟩ := h
    simp only [bytesOf, readAct, readBody, List.cons_append, List.tail_cons, if_true, Int.sub_self]
    rw [hd_u8 0 _ (by decide)]
    simp only [Int.zero_emod, Int.add_zero, if_true]
    rw [hd_u8 (node - 1) _ (byteOf_of (by omega) (by omega))]
    have e : textLen (u8 ((text.length / 256 : Nat) : Int) :: u8 (text.length : Int) :: (text ++ s)) = text.length := by
      simp [textLen, hd, u8]; omega
    rw [e]
    have : 1 + (node - 1) % 5 = node := by omega
    rw [this]
    simp
  · split at h
    · rename_i hk
      simp only [Bool.and_eq_true, bare, decide_eq_true_eq, List.isEmpty_iff] at h
      obtain ⟨⟨⟨rfl, hn⟩, rfl⟩, rfl, rfl⟩ := h
      rcases hk with hk | hk | hk <;> (simp only at hk; subst hk; simp [bytesOf, readAct, readBody, hd_u8 _ _ hn, hd_u8 1 _ (by decide), hd_u8 2 _ (by decide), hd_u8 3 _ (by decide)])
    · split at h
      · rename_i hk
        simp only at hk; subst hk
        simp only [Bool.and_eq_true, nodeOk, bare, decide_eq_true_eq, List.isEmpty_iff] at h
        obtain ⟨⟨⟨hn, hb⟩, rfl⟩, rfl, rfl⟩ := h
        have : 1 + (node - 1) % 5 = node := by omega
        simp [bytesOf, readAct, readBody, hd_u8 _ _ hb, hd_u8 4 _ (by decide), hd_u8 (node - 1) _ (byteOf_of (by omega) (by omega)), this]
      · split at h
        · rename_i hk
          simp only at hk; subst hk
          simp only [Bool.and_eq_true, nodeOk, crashOk, decide_eq_true_eq, List.isEmpty_iff] at h
          obtain ⟨⟨⟨hn, hb⟩, rfl⟩, ⟨⟨hl, he⟩, h1⟩, h2⟩ := h
          have e1 : 1 + (node - 1) % 5 = node := by omega
          have e2 : ((keep.length : Int) % 8).toNat = keep.length := by omega
          simp [bytesOf, readAct, readBody, crashBytes, hd_u8 _ _ hb, hd_u8 5 _ (by decide), hd_u8 (node - 1) _ (byteOf_of (by omega) (by omega)), hd_u8 (keep.length : Int) _ (byteOf_of (by omega) (by omega)), e1, e2,
            readCrash_pairs keep torn [] [] s he h1 h2]
        · split at h
          · rename_i hk
            simp only at hk; subst hk
            simp only [Bool.and_eq_true, nodeOk, crashOk, decide_eq_true_eq, List.isEmpty_iff] at h
            obtain ⟨⟨⟨hn, rfl⟩, rfl⟩, ⟨⟨hl, he⟩, h1⟩, h2⟩ := h
            have e1 : 1 + (node - 1) % 5 = node := by omega
            have e2 : ((keep.length : Int) % 8).toNat = keep.length := by omega
            simp [bytesOf, readAct, readBody, crashBytes, hd_u8 6 _ (by decide), hd_u8 (node - 1) _ (byteOf_of (by omega) (by omega)), hd_u8 (keep.length : Int) _ (byteOf_of (by omega) (by omega)), e1, e2,
              readCrash_pairs keep torn [] [] s he h1 h2]
          · split at h
            · rename_i hk
              simp only at hk; subst hk
              simp only [Bool.and_eq_true, nodeOk, bare, decide_eq_true_eq, List.isEmpty_iff] at h
              obtain ⟨⟨⟨hn, rfl⟩, rfl⟩, rfl, rfl⟩ := h
              have e1 : 1 + (node - 1) % 5 = node := by omega
              simp [bytesOf, readAct, readBody, hd_u8 7 _ (by decide), hd_u8 (node - 1) _ (byteOf_of (by omega) (by omega)), e1]
            · split at h
              · rename_i hk
                simp only at hk; subst hk
                simp only [Bool.and_eq_true, bare, decide_eq_true_eq, List.isEmpty_iff] at h
                obtain ⟨⟨⟨hn, hb⟩, rfl⟩, rfl, rfl⟩ := h
                simp only at h0
                have e1 : node % 32 = node := by omega
                simp [bytesOf, readAct, readBody, hd_u8 8 _ (by decide), hd_u8 _ _ hb, hd_u8 node _ (byteOf_of (by omega) (by omega)), e1]
              · cases h

theorem readAct_fst_node (l : List UInt8) : 0 ≤ (readAct l).1.node := by
  have h1 := hd_nonneg l.tail
  unfold readAct readBody
  (repeat' split) <;> simp only <;> omega

theorem readAct_plain (l : List UInt8) : plain (readAct l).1 = true := by
  have hk := hd_nonneg l
  have h1 := hd_nonneg l.tail
  have c1 := hd_nonneg l.tail.tail
  have c2 := hd_nonneg l.tail.tail.tail
  have hb := byteOf_hd
  have hlen := fun n l => readCrash_len n l [] []
  have hall := fun n l => readCrash_all n l [] [] rfl rfl
  have hmod : ∀ x : Int, 0 ≤ x → (x % 8).toNat < 8 := fun x _ => by omega
  have htl : textLen l.tail.tail < 65536 := by have := hd_lt l.tail.tail; have := hd_lt l.tail.tail.tail; unfold textLen; omega
  unfold readAct readBody
  split
  · simp [plain, nodeOk, bare]; omega
  split
  · simp [plain, nodeOk, bare, hb]; omega
  split
  · simp only [plain, nodeOk, crashOk, hb, hlen, (hall _ _).1, (hall _ _).2]; simp; omega
  split
  · simp only [plain, nodeOk, crashOk, hlen, (hall _ _).1, (hall _ _).2]; simp; omega
  split
  · simp [plain, nodeOk, bare]; omega
  split
  · simp [plain, bare, hb]; omega
  · have : 1 + hd l % 9 = 2 ∨ 1 + hd l % 9 = 3 ∨ 1 + hd l % 9 = 4 := by omega
    simp only [plain]
    rw [if_neg (by assumption), if_pos this]
    simp [hb, bare]

theorem decodeN_plain : ∀ (k : Nat) (l : List UInt8) (a : SAct), a ∈ decodeN k l → plain a = true ∧ 0 ≤ a.node := by
  intro k
  induction k with
  | zero => intro l a h; simp [decodeN] at h
  | succ k ih =>
    intro l a h
    cases l with
    | nil => simp [decodeN] at h
    | cons c r =>
      simp only [decodeN, List.mem_cons] at h
      rcases h with rfl | h
      · exact ⟨readAct_plain _, readAct_fst_node _⟩
      · exact ih _ _ h

theorem bytesOf_cons (a : SAct) : ∃ c r, bytesOf a = c :: r := ⟨_, _, rfl⟩

theorem decodeN_encode : ∀ (l : List SAct) (k : Nat) (s : List UInt8), (∀ a ∈ l, plain a = true ∧ 0 ≤ a.node) → decodeN k (encAll l ++ s) = (l ++ decodeN (k - l.length) s).take k := by
  intro l
  induction l with
  | nil =>
    intro k s _
    have : ∀ (k : Nat) (s), (decodeN k s).length ≤ k := by
      intro k
      induction k with
      | zero => intro s; simp [decodeN]
      | succ k ih => intro s; cases s <;> simp [decodeN, ih]
    simp [encAll, List.take_of_length_le (this k s)]
  | cons a l ih =>
    intro k s h
    cases k with
    | zero => simp [decodeN]
    | succ k =>
      obtain ⟨c, r, hc⟩ := bytesOf_cons a
      have e : encAll (a :: l) ++ s = bytesOf a ++ (encAll l ++ s) := by simp [encAll, List.append_assoc]
      have ha := h a (by simp)
      have hr := readAct_bytes a (encAll l ++ s) ha.2 ha.1
      rw [e, hc, List.cons_append, decodeN, ← List.cons_append, ← hc, hr]
      simp only
      rw [ih k s (fun b hb => h b (by simp [hb]))]
      simp

theorem decodeN_length_le (k : Nat) : ∀ (l : List UInt8), (decodeN k l).length ≤ k := by
  induction k with
  | zero => intro s; simp [decodeN]
  | succ k ih => intro s; cases s <;> simp [decodeN, ih]

theorem readCrash_rest (n) : ∀ l k t, (readCrash n l k t).2.2.length ≤ l.length := by
  induction n with
  | zero => intro l k t; simp [readCrash]
  | succ n ih => intro l k t; have := ih l.tail.tail (k ++ [hd l]) (t ++ [hd l.tail]); simp at this; simp only [readCrash]; omega

theorem readBody_rest (kind) (l) : (readBody kind l).2.length ≤ l.length := by
  have h := readCrash_rest
  unfold readBody
  (repeat' split) <;> simp only [List.length_drop, List.length_tail] <;> first
    | omega
    | (refine Nat.le_trans (h _ _ _ _) ?_; simp only [List.length_tail]; omega)

theorem decodeN_length_bytes (k : Nat) : ∀ (l : List UInt8), (decodeN k l).length ≤ l.length := by
  induction k with
  | zero => intro s; simp [decodeN]
  | succ k ih =>
    intro s
    cases s with
    | nil => simp [decodeN]
    | cons c r =>
      have h1 := ih (readAct (c :: r)).2
      have h2 : (readAct (c :: r)).2.length ≤ r.length := readBody_rest _ _
      simp [decodeN]; omega

theorem decodeN_nil_iff (k : Nat) (l : List UInt8) : (decodeN (k + 1) l).length = 0 ↔ l = [] := by
  cases l <;> simp [decodeN]

/-- encode of what is decoded, decoded again. -/
theorem decode_again (l : List UInt8) : decodeN 400 (encAll (decodeN 400 l)) = decodeN 400 l := by
  have h := decodeN_encode (decodeN 400 l) 400 [] (fun a ha => decodeN_plain _ _ _ ha)
  rw [List.append_nil] at h
  rw [h]
  have : decodeN (400 - (decodeN 400 l).length) [] = [] := by cases (400 - (decodeN 400 l).length) <;> simp [decodeN]
  rw [this, List.append_nil, List.take_of_length_le (decodeN_length_le _ _)]

theorem encode_decode (l : List UInt8) : encode (decodeN 400 l) = (encAll (decodeN 400 l), 0) := by
  unfold encode
  rw [if_neg (by have := decodeN_length_le 400 l; omega), if_pos]
  rw [List.all_eq_true]
  exact fun a ha => (decodeN_plain _ _ _ ha).1

theorem decode_behind (l : List SAct) (s : List UInt8) (hn : ∀ a ∈ l, 0 ≤ a.node) (hp : l.all plain = true) (h4 : l.length ≤ 400) :
    decodeN 400 (encAll l ++ s) = (l ++ decodeN 400 s).take 400 := by
  rw [List.all_eq_true] at hp
  rw [decodeN_encode l 400 s (fun a ha => ⟨hp a ha, hn a ha⟩)]
  have key : ∀ (j k : Nat) (s : List UInt8), j ≤ k → decodeN j s = (decodeN k s).take j := by
    intro j
    induction j with
    | zero => intro k s _; simp [decodeN]
    | succ j ih =>
      intro k s hk
      obtain ⟨k, rfl⟩ : ∃ m, k = m + 1 := ⟨k - 1, by omega⟩
      cases s with
      | nil => simp [decodeN]
      | cons c r => simp [decodeN, ← ih k _ (by omega)]
  rw [key (400 - l.length) 400 s (by omega), List.take_append, List.take_append, List.take_of_length_le h4, List.take_take]
  congr 2
  omega
end Go.Proofs.YtjipfdabkncnmaaDoor.S

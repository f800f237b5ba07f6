/- The script reader's byte and text, walked: what each takes off the bytes and what it leaves, for any bytes that a row holds. -/
import Derived.Test.YtjipfdabkncnmaaDoorPScriptTotalx1
import Derived.Test.YtjipfdabkncnmaaDoorSm
import Derived.Lib.Hide
import Derived.Outline
namespace Go.Proofs.YtjipfdabkncnmaaDoor.S
open Go.RowKit Go.Proofs.YtjipfdabkncnmaaDoorW.PrintWords Go.Proofs.YtjipfdabkncnmaaDoorW.PrintLast Go.Proofs.YtjipfdabkncnmaaDoorW.PrintMore
set_option linter.unusedVariables false
set_option linter.unusedSimpArgs false

def bi (l : List UInt8) : List Int := l.map fun b => (b.toNat : Int)

/-- block g is a reader that has still to read l; the bytes lie in the world w0. -/
def Rdr (w0 W : World) (g : Nat) (A : Option Addr) (c : Nat) (l : List UInt8) : Prop :=
  W.heap[g]? = some (.cells #[.slice A l.length c] 45 (0, 0)) ∧ w0.heap.size ≤ g ∧ l.length ≤ c ∧ Kd.C (Kd.int .u8) w0 A l.length (bi l)

theorem Rdr.cell {w0 W : World} {g : Nat} {A : Option Addr} {c : Nat} {l : List UInt8} (h : Rdr w0 W g A c l) : W.cell? ⟨g, 0, none⟩ = some (.slice A l.length c) := by
  rw [cell_of_row W g 0 _ 45 (0, 0) h.1]; rfl
theorem Rdr.free {w0 W : World} {g : Nat} {A : Option Addr} {c : Nat} {l : List UInt8} (h : Rdr w0 W g A c l) : W.frozen? ⟨g, 0, none⟩ = false := by
  simp [World.frozen?, h.1]

set_option maxHeartbeats 1000000 in
theorem byte_nil (w0 w : World) (g : Nat) (A : Option Addr) (c : Nat) (h : Rdr w0 w g A c []) :
    Calls Tryd.prog 32 #[.pointer (some ⟨g, 0, none⟩)] w fun e w' => e = .returned (.int .i64 0) ∧ w = w' := by
  have hc := h.cell
  simp only [List.length_nil] at hc
  clear h
  go_enter Tryd.func32, Tryd.ntmps32
  go_wp2
  go_ret
  exact ⟨rfl, rfl⟩

theorem Rdr.at_ {w0 W : World} {g : Nat} {A : Option Addr} {c : Nat} {b : UInt8} {l : List UInt8} (h : Rdr w0 W g A c (b :: l)) (hB : Below w0.heap.size w0 W) :
    ∃ ad, A = some ad ∧ W.cell? ad = some (.int .u8 (b.toNat : Int)) := by
  obtain ⟨h1, h2, h3, h4⟩ := h
  obtain ⟨e1, e2, e3⟩ := h4
  obtain ⟨ad, rfl, hc⟩ := e3 (by simp)
  obtain ⟨cs, hl, hR, hcell⟩ := hc 0 (b.toNat : Int) (by simp [bi])
  refine ⟨ad, rfl, ?_⟩
  have : cs = [.int .u8 (b.toNat : Int)] := hR
  subst this
  have := hcell 0 _ rfl
  simp only [Nat.zero_mul, Nat.add_zero] at this
  have e : ad.add 0 = ad := by simp [Addr.add]
  rw [e] at this
  exact pw_cell_below hB this

theorem Rdr.set_ {w0 w : World} {g : Nat} {A A' : Option Addr} {c c' : Nat} {l l' : List UInt8} (h : Rdr w0 w g A c l) (hl : l'.length ≤ c') (hC : Kd.C (Kd.int .u8) w0 A' l'.length (bi l')) :
    Rdr w0 (w.setCell ⟨g, 0, none⟩ (.slice A' l'.length c')) g A' c' l' := by
  refine ⟨?_, h.2.1, hl, hC⟩
  simp [World.setCell, Array.getElem?_modify, h.1]

/-- what stands from k on. -/
theorem drop_C {w0 : World} {ad : Addr} {l : List UInt8} (k : Nat) (h : Kd.C (Kd.int .u8) w0 (some ad) l.length (bi l)) :
    Kd.C (Kd.int .u8) w0 (some (ad.add k)) (l.drop k).length (bi (l.drop k)) := by
  obtain ⟨e1, e2, e3⟩ := h
  refine ⟨by simp [bi], by simp; omega, fun hn => ?_⟩
  simp only [List.length_drop] at hn
  obtain ⟨ad', e, hcell⟩ := e3 (by omega)
  injection e with e
  subst e
  refine ⟨_, rfl, fun j p hp => ?_⟩
  obtain ⟨cs, h1, h2, h3⟩ := hcell (k + j) p (by simpa [bi, List.getElem?_drop] using hp)
  refine ⟨cs, h1, h2, fun i u hu => ?_⟩
  have := h3 i u hu
  have e4 : (ad.add k).add (j * (Kd.int .u8).sz + i) = ad.add ((k + j) * (Kd.int .u8).sz + i) := by
    show (ad.add k).add (j * 1 + i) = ad.add ((k + j) * 1 + i)
    unfold Addr.add
    by_cases h0 : j * 1 + i = 0
    · rw [if_pos h0]
      by_cases hk : k = 0
      · rw [if_pos hk, if_pos (by omega)]
      · rw [if_neg hk, if_neg (by omega)]; simp
        try omega
    · rw [if_neg h0]
      by_cases hk : k = 0
      · rw [if_pos hk, if_neg (by omega)]; simp [hk]
      · rw [if_neg hk, if_neg (by omega)]; simp; omega
  rw [e4]; exact this
theorem nil_C (w0 : World) (A : Option Addr) : Kd.C (Kd.int .u8) w0 A ([] : List UInt8).length (bi []) := ⟨rfl, by simp, fun h => by simp at h⟩
/-- the model's cut 's[k:]'. -/
theorem cut_C {w0 : World} {ad : Addr} {l : List UInt8} (k c : Nat) (hc : l.length ≤ c) (h : Kd.C (Kd.int .u8) w0 (some ad) l.length (bi l)) :
    Kd.C (Kd.int .u8) w0 (some (if c = k then ad else ad.add k)) (l.drop k).length (bi (l.drop k)) := by
  by_cases e : c = k
  · have : l.drop k = [] := List.drop_eq_nil_of_le (by omega)
    rw [this]; exact nil_C _ _
  · rw [if_neg e]; exact drop_C k h
theorem keep_set {w : World} {g : Nat} (u : Value) : KeepBut w (w.setCell ⟨g, 0, none⟩ u) g none := (KeepBut.refl w g none).set_ 0 u

set_option maxHeartbeats 1000000 in
theorem byte_cons (w0 w : World) (g : Nat) (A : Option Addr) (c : Nat) (b : UInt8) (l : List UInt8) (h : Rdr w0 w g A c (b :: l)) (hB : Below w0.heap.size w0 w) :
    Calls Tryd.prog 32 #[.pointer (some ⟨g, 0, none⟩)] w fun e w' => e = .returned (.int .i64 (b.toNat : Int)) ∧ ∃ A' c', w' = w.setCell ⟨g, 0, none⟩ (.slice A' l.length c') ∧ Rdr w0 w' g A' c' l := by
  have hc := h.cell
  have hf := h.free
  have hlen := h.2.2.2.2.1
  have hcap := h.2.2.1
  obtain ⟨ad, rfl, hb⟩ := h.at_ hB
  have hn := h.set_ (A' := some (if c = 1 then ad else ad.add 1)) (c' := c - 1) (l' := l) (by simp at hcap; omega) (by simpa using cut_C 1 c hcap h.2.2.2)
  have H := Lib.hid hn
  simp only [List.length_cons] at hc hlen hcap
  clear h hn
  have hlt := b.toNat_lt
  by_cases hc1 : c = 1
  · subst hc1
    obtain rfl : l = [] := List.eq_nil_of_length_eq_zero (by omega)
    have e1 := H.out
    simp only [if_true, List.length_nil, Nat.sub_self] at e1
    have H1 := Lib.hid e1
    clear H e1
    simp only [List.length_nil] at hc hlen hcap
    go_enter Tryd.func32, Tryd.ntmps32
    go_wp2
    go_ret
    exact ⟨rfl, some ad, 0, rfl, H1.out⟩
  · have e1 := H.out
    rw [if_neg hc1] at e1
    have H1 := Lib.hid e1
    clear H e1
    go_enter Tryd.func32, Tryd.ntmps32
    go_wp2
    go_ret
    exact ⟨rfl, some (ad.add 1), _, rfl, H1.out⟩

/-- block g is a reader of l: the bytes lie in w0, of which nothing has turned. -/
structure Rd (w0 w : World) (g : Nat) (l : List UInt8) : Prop where
  out : ∃ A c, Rdr w0 w g A c l
  below : Below w0.heap.size w0 w
theorem below_set_hi {w0 w : World} {g : Nat} (h : Below w0.heap.size w0 w) (hg : w0.heap.size ≤ g) (u : Value) : Below w0.heap.size w0 (w.setCell ⟨g, 0, none⟩ u) := h.setCell (by simpa using hg) u

theorem byte_any (w0 w : World) (g : Nat) (l : List UInt8) (h : Rd w0 w g l) :
    Calls Tryd.prog 32 #[.pointer (some ⟨g, 0, none⟩)] w fun e w' => e = .returned (.int .i64 (hd l)) ∧ Rd w0 w' g l.tail ∧ KeepBut w w' g none ∧ w'.heap.size = w.heap.size := by
  obtain ⟨⟨A, c, hr⟩, hB⟩ := h
  cases l with
  | nil => exact (byte_nil w0 w g A c hr).mono fun e w' ⟨he, hw⟩ => by subst hw; exact ⟨he, ⟨⟨A, c, hr⟩, hB⟩, KeepBut.refl _ _ _, rfl⟩
  | cons b l =>
    refine (byte_cons w0 w g A c b l hr hB).mono fun e w' ⟨he, A', c', hw, hr'⟩ => ?_
    subst hw
    exact ⟨he, ⟨⟨A', c', hr'⟩, below_set_hi hB hr.2.1 _⟩, keep_set _, by simp [World.setCell]⟩

theorem hd_bd (l : List UInt8) : 0 ≤ hd l ∧ hd l ≤ 255 := by
  cases l with
  | nil => simp [hd]
  | cons c r => have := c.toNat_lt; simp [hd]; omega
theorem strOf_bi (l : List UInt8) : strOfNums (bi l) = ⟨l.toArray⟩ := by
  unfold strOfNums bi
  rw [List.map_map]
  congr 2
  conv => rhs; rw [← List.map_id l]
  apply List.map_congr_left
  intro a _
  simp
theorem take_C {w0 : World} {A : Option Addr} {l : List UInt8} (k : Nat) (hk : k ≤ l.length) (h : Kd.C (Kd.int .u8) w0 A l.length (bi l)) :
    Kd.C (Kd.int .u8) w0 A k (bi (l.take k)) := by
  obtain ⟨e1, e2, e3⟩ := h
  refine ⟨by simp [bi]; omega, by omega, fun hn => ?_⟩
  obtain ⟨ad, rfl, hc⟩ := e3 (by omega)
  refine ⟨ad, rfl, fun j p hp => hc j p ?_⟩
  simp only [bi, List.map_take] at hp ⊢
  rw [List.getElem?_take] at hp
  split at hp
  · exact hp
  · cases hp
attribute [local go_sem] max2_int min2_int max_two min_two
def txt (l : List UInt8) : List UInt8 := l.tail.tail.take (256 * hd l + hd l.tail).toNat
def txtRest (l : List UInt8) : List UInt8 := l.tail.tail.drop (256 * hd l + hd l.tail).toNat
set_option maxHeartbeats 1000000 in
theorem text_any (w0 w : World) (g : Nat) (l : List UInt8) (h : Rd w0 w g l) :
    Calls Tryd.prog 33 #[.pointer (some ⟨g, 0, none⟩)] w fun e w' => e = .returned (.string ⟨(txt l).toArray⟩) ∧
      Rd w0 w' g (txtRest l) ∧ KeepBut w w' g none ∧ w'.heap.size = w.heap.size := by
  have d1 := hd_bd l
  have d2 := hd_bd l.tail
  go_enter Tryd.func33, Tryd.ntmps33
  go_wp2_with fail
  refine (byte_any w0 _ g l h).mono ?_
  rintro e w1 ⟨rfl, h1, k1, z1⟩
  go_wp2_with fail
  refine (byte_any w0 _ g l.tail h1).mono ?_
  rintro e w2 ⟨rfl, h2, k2, z2⟩
  obtain ⟨⟨A, c, hr⟩, hB⟩ := h2
  have T1 : Hid (txt l = l.tail.tail.take (256 * hd l + hd l.tail).toNat) := Lib.hid rfl
  have T2 : Hid (txtRest l = l.tail.tail.drop (256 * hd l + hd l.tail).toNat) := Lib.hid rfl
  have hcell := hr.cell
  have hfree := hr.free
  have hcap := hr.2.2.1
  have hC := hr.2.2.2
  generalize hd l.tail = y at *
  generalize hd l = x at *
  generalize l.tail.tail = r at *
  have hlen := hC.2.1
  clear h
  have hnil : ∀ A' c', Rdr w0 (w2.setCell ⟨g, 0, none⟩ (.slice A' 0 c')) g A' c' [] := fun A' c' => hr.set_ (by simp) (nil_C _ _)
  have HN := Lib.hid hnil
  have hge := hr.2.1
  have hC2 := (Kd.C_below hC (show Below w0.heap.size w0 w2 from hB))
  have HS := Lib.hid hr
  have HC := Lib.hid hC
  have K := Lib.hid ((k1.trans k2 (.inl rfl)))
  have Z := Lib.hid (z2.trans z1)
  clear hnil hr hC k1 k2 z1 z2 h1
  by_cases hm : (r.length : Int) ≤ 256 * x + y
  · have hcv : (convert 29 9 (.slice A r.length c)).run Tryd.prog w2 = .ok (.string ⟨r.toArray⟩) w2 := by
      rw [← strOf_bi]; exact Kd.C_string Tryd.underlying29 Tryd.underlying5 Tryd.underlying9 hC2
    have E1 := Lib.hid (T1.out.trans (List.take_of_length_le (by omega)))
    have E2 := Lib.hid (T2.out.trans (List.drop_eq_nil_of_le (by omega)))
    clear T1 T2 hC2
    by_cases he : x * 256 + y = (r.length : Int)
    all_goals try (have hlt : (r.length : Int) < x * 256 + y := by omega)
    all_goals go_wp2
    all_goals
      go_ret
      rw [E1.out, E2.out]
      exact ⟨rfl, ⟨⟨_, _, HN.out _ _⟩, below_set_hi hB hge _⟩, K.out.set_ 0 _, by simp [World.setCell]; exact Z.out⟩
  · obtain ⟨m, hm'⟩ : ∃ m : Nat, x * 256 + y = m := ⟨(x * 256 + y).toNat, by omega⟩
    have hml : m < r.length := by omega
    obtain ⟨ad, rfl, -⟩ := HC.out.2.2 (by omega)
    have hcv : (convert 29 9 (.slice (some ad) m c)).run Tryd.prog w2 = .ok (.string ⟨(r.take m).toArray⟩) w2 := by
      rw [← strOf_bi]; exact Kd.C_string Tryd.underlying29 Tryd.underlying5 Tryd.underlying9 (take_C m (by omega) hC2)
    have hcm : ¬ c = m := by omega
    have e1 : (256 * x + y).toNat = m := by omega
    have hn := HS.out.set_ (A' := some (ad.add m)) (c' := c - m) (l' := r.drop m) (by simp; omega) (drop_C m HC.out)
    rw [List.length_drop] at hn
    have HN1 := Lib.hid hn
    rw [e1] at T1 T2
    clear e1 hC2 hn HN
    go_wp2
    go_ret
    rw [T1.out, T2.out]
    exact ⟨rfl, ⟨⟨_, _, HN1.out⟩, below_set_hi hB hge _⟩, K.out.set_ 0 _, by simp [World.setCell]; exact Z.out⟩
end Go.Proofs.YtjipfdabkncnmaaDoor.S

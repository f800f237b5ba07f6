/- The law ScriptRound comes to true at every five bytes, and they read behind the call as they read before: for all bytes, with the one listed package variable (bytes.ErrTooLarge) reading as the program's text lays it; in the last theorem that listing is tied to the program's text (the card). -/
import Derived.Test.YtjipfdabkncnmaaDoorRo
import Derived.Test.YtjipfdabkncnmaaDoorLaid
import Derived.Test.YtjipfdabkncnmaaDoorCards
import Derived.Test.YtjipfdabkncnmaaDoorTie
import Derived.SevenTiedAt
import Derived.Below
import Derived.OpenShut
import Derived.ChangeMaps5
namespace Go.Proofs.YtjipfdabkncnmaaDoor
open Go.ChangeShapes Go.WideShapes Go.RowKit Go.ChangeMaps
open S (own laidL laidWorld laidWorld_met)

theorem wf_u8 {n : Int} (h : (Lit.int .u8 n).wf = true) : 0 ≤ n ∧ n < 256 := by
  simp only [Lit.wf, Bool.and_eq_true, decide_eq_true_eq] at h
  have h1 : IntKind.u8.min = 0 := by decide
  have h2 : IntKind.u8.max = 255 := by decide
  omega
section
variable {H : Type} {enc : TypeId × Value → H} {P : Program} {w : World} {base : Nat} {spare : Nat → Bool} {held : Bool}
theorem five {t0 t1 t2 t3 t4 : TypeId} {args : Array Value} {ds : List (DataW H)} {ps : List MemPlace} (h : DataW.TrodAll enc P w base spare held [t0, t1, t2, t3, t4] args.toList ds ps) :
    ∃ v0 v1 v2 v3 v4 d0 d1 d2 d3 d4 q0 q1 q2 q3 q4, args = #[v0, v1, v2, v3, v4] ∧ ds = [d0, d1, d2, d3, d4] ∧ ps = q0 ++ (q1 ++ (q2 ++ (q3 ++ q4))) ∧ DataW.Trod enc P w base spare held t0 v0 d0 q0 ∧ DataW.Trod enc P w base spare held t1 v1 d1 q1 ∧ DataW.Trod enc P w base spare held t2 v2 d2 q2 ∧ DataW.Trod enc P w base spare held t3 v3 d3 q3 ∧ DataW.Trod enc P w base spare held t4 v4 d4 q4 := by
  obtain ⟨l⟩ := args
  obtain ⟨v0, r0, d0, s0, q0, p0, e0, rfl, rfl, h0, k0⟩ := trodAll_cons h
  obtain ⟨v1, r1, d1, s1, q1, p1, rfl, rfl, rfl, h1, k1⟩ := trodAll_cons k0
  obtain ⟨v2, r2, d2, s2, q2, p2, rfl, rfl, rfl, h2, k2⟩ := trodAll_cons k1
  obtain ⟨v3, r3, d3, s3, q3, p3, rfl, rfl, rfl, h3, k3⟩ := trodAll_cons k2
  obtain ⟨v4, r4, d4, s4, q4, p4, rfl, rfl, rfl, h4, k4⟩ := trodAll_cons k3
  obtain ⟨rfl, rfl, rfl⟩ := trodAll_nil k4
  simp only at e0
  subst e0
  exact ⟨v0, v1, v2, v3, v4, d0, d1, d2, d3, d4, q0, q1, q2, q3, q4, rfl, rfl, by simp, h0, h1, h2, h3, h4⟩
theorem five_mk {t0 t1 t2 t3 t4 : TypeId} {v0 v1 v2 v3 v4 : Value} {d0 d1 d2 d3 d4 : DataW H} (h0 : DataW.Trod enc P w base spare held t0 v0 d0 []) (h1 : DataW.Trod enc P w base spare held t1 v1 d1 []) (h2 : DataW.Trod enc P w base spare held t2 v2 d2 []) (h3 : DataW.Trod enc P w base spare held t3 v3 d3 []) (h4 : DataW.Trod enc P w base spare held t4 v4 d4 []) :
    DataW.TrodAll enc P w base spare held [t0, t1, t2, t3, t4] [v0, v1, v2, v3, v4] [d0, d1, d2, d3, d4] [] :=
  trodAll_cons_mk h0 (trodAll_cons_mk h1 (trodAll_cons_mk h2 (trodAll_cons_mk h3 (trodAll_cons_mk h4 trodAll_mk0))))
end

set_option maxRecDepth 100000 in
theorem round_lifted (os : Os) (started : os.Started) (H : Type) (enc : TypeId × Value → H) :
    ReturnsInHanded {} Tryd.checked os 8 .any (fun w args => (Rows.scriptRoundSpec.pre enc Tryd.prog Tryd.f8 [] false w args ∧ laidMetH Tryd.prog laidL w) ∧ sizedMet enc Tryd.prog Tryd.f8 (OpenSpec.ofChange Rows.scriptRoundSpec) false w args)
      (Rows.scriptRoundSpec.post enc Tryd.prog Tryd.f8 false true false false) := by
  refine returnsInHanded_of_change_and (C := Tryd.checked) (X := fun w _ => laidMetH Tryd.prog laidL w) (fun _ _ _ hh h => h.of_heap hh) own started (by kernel_rfl) Tryd.func8
    (ChangeSpec.witness_at (enc := enc) (C := Tryd.checked) (os := os) (X := fun w _ => laidMetH Tryd.prog laidL w) false (laidWorld os #[]) #[.int .u8 0, .int .u8 0, .int .u8 0, .int .u8 0, .int .u8 0] 8 rfl (by kernel_rfl) (by kernel_rfl) (by kernel_rfl) (by kernel_rfl) (by kernel_rfl) (laidWorld_met os _)) ?_
  intro W base args ds gs before hval0 hW _ _ hL _
  have hval : ∀ (j : Nat) t v, Tryd.f8.params[j]? = some t → args[j]? = some v → Value.okWide Tryd.prog W .any base t v := hval0
  have hW' := hW
  obtain ⟨p, q, hA0, hV0, rfl, hfz, hnd⟩ := hW
  have hA : DataW.TrodAll enc Tryd.prog W 0 (fun _ => true) true Tryd.f8.params.toList args.toList ds p := hA0
  have hV : DataW.TrodVars enc Tryd.prog W (fun _ => true) [] gs q := hV0
  rw [Tryd.params8] at hA hval
  obtain ⟨v0, v1, v2, v3, v4, d0, d1, d2, d3, d4, q0, q1, q2, q3, q4, rfl, rfl, rfl, h0, h1, h2, h3, h4⟩ := five hA
  obtain ⟨n0, rfl, rfl, rfl, w0⟩ := open_int Tryd.underlying5 (hval 0 5 v0 rfl rfl) h0
  obtain ⟨n1, rfl, rfl, rfl, w1⟩ := open_int Tryd.underlying5 (hval 1 5 v1 rfl rfl) h1
  obtain ⟨n2, rfl, rfl, rfl, w2⟩ := open_int Tryd.underlying5 (hval 2 5 v2 rfl rfl) h2
  obtain ⟨n3, rfl, rfl, rfl, w3⟩ := open_int Tryd.underlying5 (hval 3 5 v3 rfl rfl) h3
  obtain ⟨n4, rfl, rfl, rfl, w4⟩ := open_int Tryd.underlying5 (hval 4 5 v4 rfl rfl) h4
  obtain ⟨rfl, rfl⟩ : gs = [] ∧ q = [] := by
    cases gs with
    | nil => exact ⟨rfl, hV⟩
    | cons g r => exact absurd hV (by intro h; cases h)
  have e1 : Rows.scriptRoundSpec.fn H ([.lit (.int .u8 n0), .lit (.int .u8 n1), .lit (.int .u8 n2), .lit (.int .u8 n3), .lit (.int .u8 n4)] ++ []) = { results := [.lit (.bool true)], args := [.lit (.int .u8 n0), .lit (.int .u8 n1), .lit (.int .u8 n2), .lit (.int .u8 n3), .lit (.int .u8 n4)] } := by simp [Rows.scriptRoundSpec]
  refine (S.round_walk W n0 n1 n2 n3 n4 (wf_u8 w0) (wf_u8 w1) (wf_u8 w2) (wf_u8 w3) (wf_u8 w4)).mono fun e W' ⟨he, hw⟩ => ?_
  subst he
  refine ⟨_, rfl, _, _, _, [], [], [], hW', ?_, ?_, ?_, hw.frame _, fun h => by cases h⟩
  · rw [e1]; exact trodAll_mk1 (shut_bool Tryd.underlying4 true)
  · rw [e1]; exact five_mk (shut_int Tryd.underlying5 w0) (shut_int Tryd.underlying5 w1) (shut_int Tryd.underlying5 w2) (shut_int Tryd.underlying5 w3) (shut_int Tryd.underlying5 w4)
  · rw [e1]; rfl

theorem round_holds : Rows.ScriptRoundSaid :=
  OpenClaim.holds_of_wide 8 Tryd.f8 rfl rfl rfl rfl rfl rfl rfl ⟨rfl, rfl, rfl, rfl, rfl⟩ rfl rfl rfl rfl rfl (by kernel_rfl) Tryd.func8 (by kernel_rfl)
    (of_decide_eq_true (by kernel_rfl)) (by unfold Func.isWrapper; rw [if_neg (of_decide_eq_false (by kernel_rfl))]; exact ⟨rfl, rfl⟩)
    (fun os started H enc _ => round_lifted os started H enc)
set_option maxRecDepth 100000 in
theorem round_card : Rows.ScriptRoundCardSaid :=
  Claim7.holds_tied_plain_at .later [] [.sentinel] true (true, "fa7fdeb4326a6fc598442a71be8fec589388a4183b103d25861aca0f1e5879eb") false
    round_holds (fun _ h => by cases h) (by kernel_rfl) (fun _ h => by cases h) scriptRound_row_tie rfl ⟨rfl, rfl⟩ (by kernel_rfl) rfl
    (fun f fn hf hfn => by
      obtain rfl : f = 8 := Option.some.inj ((show Tryd.prog.funcNamed "wapentake/wapentakelaw26.ScriptRound" = some 8 by kernel_rfl).symm.trans hf) |>.symm
      obtain rfl : fn = Tryd.f8 := (Option.some.inj (Tryd.func8.symm.trans hfn)).symm
      exact ⟨by kernel_rfl, fun j t ht => by
        rw [Tryd.params8] at ht
        have h3 : t = 5 := by
          rcases j with _ | _ | _ | _ | _ | j
          · simpa using ht.symm
          · simpa using ht.symm
          · simpa using ht.symm
          · simpa using ht.symm
          · simpa using ht.symm
          · simp at ht
        subst h3
        exact (show Tryd.prog.wantsStandIn 5 = false by kernel_rfl)⟩)
    (by kernel_rfl)
#print axioms round_card
end Go.Proofs.YtjipfdabkncnmaaDoor

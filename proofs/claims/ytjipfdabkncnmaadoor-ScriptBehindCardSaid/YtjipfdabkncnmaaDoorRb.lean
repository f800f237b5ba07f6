/- The law ScriptBehind comes to true at every row of acts and every text, and both read behind the call as they read before: for every row of acts and every text that a machine holds, with the one listed package variable (bytes.ErrTooLarge) reading as the program's text lays it; in the last theorem that listing is tied to the program's text (the card). -/
import Derived.Test.YtjipfdabkncnmaaDoorBe
import Derived.Test.YtjipfdabkncnmaaDoorOp
import Derived.Test.YtjipfdabkncnmaaDoorLaid
import Derived.Test.YtjipfdabkncnmaaDoorCards
import Derived.Test.YtjipfdabkncnmaaDoorTie
import Derived.SevenTiedAt
import Derived.Below
import Derived.Carry
import Derived.ChangeMaps5
namespace Go.Proofs.YtjipfdabkncnmaaDoor
open Go.ChangeShapes Go.WideShapes Go.RowKit Go.ChangeMaps
open S (own laidL laidWorld laidWorld_met)

set_option maxRecDepth 100000 in
theorem behind_lifted (os : Os) (started : os.Started) (H : Type) (enc : TypeId × Value → H) :
    ReturnsInHanded {} Tryd.checked os 7 .any (fun w args => (Rows.scriptBehindSpec.pre enc Tryd.prog Tryd.f7 [] false w args ∧ laidMetH Tryd.prog laidL w) ∧ sizedMet enc Tryd.prog Tryd.f7 (OpenSpec.ofChange Rows.scriptBehindSpec) false w args)
      (Rows.scriptBehindSpec.post enc Tryd.prog Tryd.f7 false true false false) := by
  refine returnsInHanded_of_change_and (C := Tryd.checked) (X := fun w _ => laidMetH Tryd.prog laidL w) (fun _ _ _ hh h => h.of_heap hh) own started (by kernel_rfl) Tryd.func7
    (ChangeSpec.witness_at (enc := enc) (C := Tryd.checked) (os := os) (X := fun w _ => laidMetH Tryd.prog laidL w) false (laidWorld os #[]) #[.slice none 0 0, .string ⟨#[]⟩] 8 rfl (by kernel_rfl) (by kernel_rfl) (by kernel_rfl) (by kernel_rfl) (by kernel_rfl) (laidWorld_met os _)) ?_
  intro W base args ds gs before hval0 hW _ _ hL _
  have hval : ∀ (j : Nat) t v, Tryd.f7.params[j]? = some t → args[j]? = some v → Value.okWide Tryd.prog W .any base t v := hval0
  have hW' := hW
  obtain ⟨p, q, hA0, hV0, rfl, hfz, hnd⟩ := hW
  have hA : DataW.TrodAll enc Tryd.prog W 0 (fun _ => true) true Tryd.f7.params.toList args.toList ds p := hA0
  have hV : DataW.TrodVars enc Tryd.prog W (fun _ => true) [] gs q := hV0
  rw [Tryd.params7] at hA hval
  obtain ⟨v0, v1, d0, d1, p0, p1, rfl, rfl, rfl, h0, h1⟩ := trodAll_two hA
  obtain ⟨s, rfl, rfl, rfl, hs⟩ := open_string Tryd.underlying9 (hval 1 9 v1 rfl rfl) h1
  obtain ⟨A, n, c, rfl⟩ := okWide_slice Tryd.underlying27 (hval 0 27 v0 rfl rfl)
  have h0' := h0
  obtain ⟨fu, hfu⟩ := h0'
  obtain ⟨A', c', xs, hv, hc, hC, hx⟩ := S.acts_open hfu
  have hv' : Value.slice A n c = Value.slice A' xs.length c' := by
    have : [Value.slice A n c] = [Value.slice A' xs.length c'] := hv
    simpa using this
  injection hv' with e1 e2 e3
  subst e1 e2 e3
  have hlt : ∀ x ∈ p0, x.block < W.heap.size := fun x hx => hW'.lt x (by simp [hx])
  obtain ⟨rfl, rfl⟩ : gs = [] ∧ q = [] := by
    cases gs with
    | nil => exact ⟨rfl, hV⟩
    | cons g r => exact absurd hV (by intro h; cases h)
  have e1 : Rows.scriptBehindSpec.fn H ([d0, .lit (.string s.data.toList)] ++ []) = { results := [.lit (.bool true)], args := [d0, .lit (.string s.data.toList)] } := rfl
  refine (S.behind_walk W A xs.length c xs s rfl hC hc hx hs).mono fun e W' ⟨he, hw⟩ => ?_
  subst he
  refine ⟨_, rfl, _, _, _, [], p0 ++ [], [], hW', ?_, ?_, ?_, hw.frame _, fun h => by cases h⟩
  · rw [e1]; exact trodAll_mk1 (shut_bool Tryd.underlying4 true)
  · rw [e1]; exact trodAll_mk2 (Below.trod (by kernel_rfl) (by kernel_rfl) (of_decide_eq_true (by kernel_rfl)) h0 hw hlt) (shut_string Tryd.underlying9 hs)
  · rw [e1]; rfl

theorem behind_holds : Rows.ScriptBehindSaid :=
  OpenClaim.holds_of_wide 7 Tryd.f7 rfl rfl rfl rfl rfl rfl rfl ⟨rfl, rfl, rfl, rfl, rfl⟩ rfl rfl rfl rfl rfl (by kernel_rfl) Tryd.func7 (by kernel_rfl)
    (of_decide_eq_true (by kernel_rfl)) (by unfold Func.isWrapper; rw [if_neg (of_decide_eq_false (by kernel_rfl))]; exact ⟨rfl, rfl⟩)
    (fun os started H enc _ => behind_lifted os started H enc)
set_option maxRecDepth 100000 in
theorem behind_card : Rows.ScriptBehindCardSaid :=
  Claim7.holds_tied_plain_at .later [] [.sentinel] true (true, "fa7fdeb4326a6fc598442a71be8fec589388a4183b103d25861aca0f1e5879eb") false
    behind_holds (fun _ h => by cases h) (by kernel_rfl) (fun _ h => by cases h) scriptBehind_row_tie rfl ⟨rfl, rfl⟩ (by kernel_rfl) rfl
    (fun f fn hf hfn => by
      obtain rfl : f = 7 := Option.some.inj ((show Tryd.prog.funcNamed "wapentake/wapentakelaw26.ScriptBehind" = some 7 by kernel_rfl).symm.trans hf) |>.symm
      obtain rfl : fn = Tryd.f7 := (Option.some.inj (Tryd.func7.symm.trans hfn)).symm
      exact ⟨by kernel_rfl, fun j t ht => by
        rw [Tryd.params7] at ht
        have h3 : t = 27 ∨ t = 9 := by
          rcases j with _ | _ | j
          · exact Or.inl (by simpa using ht.symm)
          · exact Or.inr (by simpa using ht.symm)
          · simp at ht
        rcases h3 with rfl | rfl
        · exact (show Tryd.prog.wantsStandIn 27 = false by kernel_rfl)
        · exact (show Tryd.prog.wantsStandIn 9 = false by kernel_rfl)⟩)
    (by kernel_rfl)
#print axioms behind_card
end Go.Proofs.YtjipfdabkncnmaaDoor

/- slices.Grow at rows of numbers, walked: for a row without room, and for one that asks nothing. -/
import Derived.Test.YtjipfdabkncnmaaDoorSh
import Derived.Shelf.Spec.SlicesGrow
namespace Go.Proofs.YtjipfdabkncnmaaDoor.S
open Go.RowKit Go.Proofs.YtjipfdabkncnmaaDoorW.PrintWords Go.Proofs.YtjipfdabkncnmaaDoorW.PrintLast Go.Proofs.YtjipfdabkncnmaaDoorW.PrintMore
set_option linter.unusedVariables false
set_option linter.unusedSimpArgs false

def GrowPost (w : World) (e : Ending) (w' : World) : Prop := ∃ v, e = .returned v ∧ Own w' w.heap.size v [] ∧ Below w.heap.size w w'
theorem grow_zero (w : World) : Calls Tryd.prog 39 #[.slice none 0 0, .int .i64 0] w (GrowPost w) := by
  go_enter Tryd.func39, Tryd.ntmps39
  go_wp2
  go_ret
  exact ⟨_, rfl, own_nil _ _ _ _, Below.refl _ _⟩
def growRen : Go.Shelf.Ren := ⟨fun | 4 => 39 | n => n, fun | 25 => 3 | n => n, fun n => n⟩
theorem growLays : Go.Proofs.Lays8.n4 Tryd.prog growRen := {
  mixed := by kernel_rfl
  f4 := ⟨"slices.Grow[[]int,int]", by kernel_rfl, Tryd.func39.trans (congrArg some (by kernel_rfl))⟩
  t0 := Tryd.underlying0
  a0 := Tryd.isAgg0
  z0 := Tryd.sizeOf0
  v0 := Tryd.zeroValue0
  t3 := Tryd.underlying3
  a3 := Tryd.isAgg3
  z3 := Tryd.sizeOf3
  v3 := Tryd.zeroValue3
  t4 := Tryd.underlying4
  a4 := Tryd.isAgg4
  z4 := Tryd.sizeOf4
  v4 := Tryd.zeroValue4
  t9 := Tryd.underlying9
  a9 := Tryd.isAgg9
  z9 := Tryd.sizeOf9
  v9 := Tryd.zeroValue9
  t20 := Tryd.underlying20
  a20 := Tryd.isAgg20
  z20 := Tryd.sizeOf20
  v20 := Tryd.zeroValue20
  t22 := Tryd.underlying22
  a22 := Tryd.isAgg22
  z22 := Tryd.sizeOf22
  v22 := Tryd.zeroValue22 }
theorem grow_pos (n : Nat) (w : World) (hn : 0 < n) (hb : n ≤ 1000) : Calls Tryd.prog 39 #[.slice none 0 0, .int .i64 n] w (GrowPost w) := by
  obtain ⟨i0, hi0, hz0, hz1, hz2⟩ := info_parts int_info
  have h := Any8.slices_Grow_grow growLays i0 (.int .i64 0) hi0 hz0 (by omega) none 0 0 n [] w (Nat.le_refl _) (by omega) (by rw [hz2]; omega) (by omega) (by simp) (fun _ => rfl) (fun a h => by cases h)
  refine Calls.mono h ?_
  rintro e w' ⟨rfl, rfl⟩
  have hGn : n ≤ grownCap w (0 + n) 0 3 := Nat.le_trans (by omega) (grownCap_ge w _ _ _)
  have hG63 := grownCap_le_maxLen w (0 + n) 0 3 (by unfold maxLen; omega)
  refine ⟨_, rfl, ?_, (Below.refl _ _).drew.alloc (Nat.le_refl _) _⟩
  exact World.ownsRow_made w.drew _ _ (Nat.le_refl _) hG63 (by rw [Nat.zero_add] at hGn; simp [size_zeroCells, Value.cells]; show n + (grownCap w n 0 3 - n) = grownCap w n 0 3; omega)
end Go.Proofs.YtjipfdabkncnmaaDoor.S

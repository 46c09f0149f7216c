/-
  A part of the proof: the decimal number 1.5 as a text.
-/
import Derived.Test.YtcgibcjpkhefpaaGreatDoorW22
namespace Go.Proofs.YtcgibcjpkhefpaaGreatDoor
open Go.RowKit
abbrev t15 : ByteArray := ⟨#[49, 46, 53]⟩
theorem prefix_15 (w : World) : Calls Tryz.prog 98 #[.string t15] w fun e w' => e = .returned (.int .i64 0) ∧ ∃ m, w' = w.drewN m := by
  have h3 : (t15.size : Int) = 3 := rfl
  go_enter Tryz.func98, Tryz.ntmps98
  go_wp2
  go_ret
  exact ⟨rfl, 0, rfl⟩
set_option maxHeartbeats 2000000 in
set_option maxRecDepth 100000 in
theorem decimal_15 (w : World) : Calls Tryz.prog 102 #[.string t15] w fun e w' => e = .returned (.int .i64 3) ∧ Below w.heap.size w w' := by
  have hcell : ∀ m, ((w.alloc (.cells #[.int .i64 10] 3)).drewN m).cell? ⟨w.heap.size, 0, none⟩ = some (.int .i64 (10 : Nat)) := fun m => cell_new0 (w := w) rfl
  have h0 : Lx.run t15.data.toList 10 0 = 1 := by decide
  have h2 : Lx.run t15.data.toList 10 2 = 1 := by decide
  go_enter Tryz.func102, Tryz.ntmps102
  go_wp2_with fail
  refine (digitsOf_any 10 w).mono ?_
  rintro e w1 ⟨rfl, rfl⟩
  go_wp2_with fail
  refine (run_any t15 0 10 _ _ (by decide) (by omega) (hcell 0)).mono ?_
  rintro e w1 ⟨rfl, m1, rfl⟩
  rw [h0]
  go_wp2_with fail
  refine (run_any t15 2 10 _ _ (by decide) (by omega) (hcell m1)).mono ?_
  rintro e w1 ⟨rfl, m2, rfl⟩
  rw [h2]
  go_wp2
  go_ret
  exact ⟨rfl, (((Kf.refl (fun _ _ => False) w).alloc _).drewN _).below (Nat.le_refl _) (fun _ _ h => h.elim)⟩
end Go.Proofs.YtcgibcjpkhefpaaGreatDoor

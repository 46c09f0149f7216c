/-
  A part of the proof: the reference's letters.
-/
import Derived.Test.YtcgibcjpkhefpaaGreatDoorW26
namespace Go.Proofs.YtcgibcjpkhefpaaGreatDoor
open Go.RowKit
def rletB (n : Int) : Bool := (decide (97 ≤ n) && decide (n ≤ 122)) || (decide (65 ≤ n) && decide (n ≤ 90)) || n == 36 || n == 95
theorem rletB_eq : ∀ c : UInt8, Lx.isLet c = rletB c.toNat := u8_all (by decide +kernel)
set_option maxHeartbeats 1000000 in
theorem rletter_any (c : UInt8) (w : World) :
    Calls Tryz.prog 20 #[.int .u8 c.toNat] w fun e w' => e = .returned (.bool (Lx.isLet c)) ∧ w' = w := by
  rw [rletB_eq]
  unfold rletB
  go_enter Tryz.func20, Tryz.ntmps20
  go_wp2
  all_goals
    go_ret
    refine ⟨ret_bool ?_, rfl⟩
    first | rfl | (simp_all; done) | (simp_all; omega) | (simp; omega) | (rw [Bool.eq_iff_iff]; simp only [Bool.or_eq_true, Bool.and_eq_true, decide_eq_true_eq, beq_iff_eq]; omega) | trace_state
set_option maxHeartbeats 1000000 in
theorem rmore_any (c : UInt8) (w : World) :
    Calls Tryz.prog 21 #[.int .u8 c.toNat] w fun e w' => e = .returned (.bool (Lx.isLet c || Lx.isDig c)) ∧ w' = w := by
  rw [digB_eq]
  cases hl : Lx.isLet c
  all_goals
    go_enter Tryz.func21, Tryz.ntmps21
    go_wp2_with fail
    refine (rletter_any _ _).mono ?_
    rintro e w1 ⟨rfl, rfl⟩
    rw [hl]
    go_wp2
  all_goals
    go_ret
    refine ⟨ret_bool ?_, rfl⟩
    first | rfl | (simp_all; done) | (simp_all; omega) | (simp; omega) | (rw [Bool.eq_iff_iff]; simp only [Bool.or_eq_true, Bool.and_eq_true, decide_eq_true_eq, beq_iff_eq]; omega) | trace_state
end Go.Proofs.YtcgibcjpkhefpaaGreatDoor

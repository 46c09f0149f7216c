/-
  A part of the proof: a digit's worth.
-/
import Derived.Test.YtcgibcjpkhefpaaGreatDoorW20
namespace Go.Lx
def worth (c : UInt8) : Nat := if 48 ≤ c.toNat ∧ c.toNat ≤ 57 then c.toNat - 48 else if 97 ≤ (c ||| 32).toNat ∧ (c ||| 32).toNat ≤ 122 then (c ||| 32).toNat - 97 + 10 else 99
/-- How many bytes from place p on are digits of base n. -/
def run (l : List UInt8) (n p : Nat) : Nat := ((l.drop p).takeWhile fun c => decide (worth c < n)).length
end Go.Lx
namespace Go.Proofs.YtcgibcjpkhefpaaGreatDoor
open Go.RowKit
theorem or32b (c : UInt8) : bits .or .u8 (c.toNat : Int) 32 = ((c ||| 32).toNat : Int) := by
  revert c; exact u8_all (by decide +kernel)
set_option maxHeartbeats 1000000 in
set_option maxRecDepth 100000 in
theorem worth_any (c : UInt8) (w : World) : Calls Tryz.prog 103 #[.int .u8 c.toNat] w fun e w' => e = .returned (.int .i64 (Lx.worth c)) ∧ w' = w := by
  have h32 := or32b c
  have hc := c.toNat_lt
  have hc2 := (c ||| 32).toNat_lt
  unfold Lx.worth
  generalize (c ||| 32).toNat = d at *
  generalize c.toNat = n at *
  by_cases h1 : 48 ≤ (n : Int) ∧ (n : Int) ≤ 57
  · obtain ⟨h1, h2⟩ := h1
    rw [if_pos (by omega)]
    go_enter Tryz.func103, Tryz.ntmps103
    go_wp2
    all_goals
      go_ret
      exact ⟨congrArg (fun z => Ending.returned (.int .i64 z)) (by omega), rfl⟩
  · rw [if_neg (by omega)]
    by_cases h2 : 97 ≤ (d : Int) ∧ (d : Int) ≤ 122
    · rw [if_pos (by omega)]
      go_enter Tryz.func103, Tryz.ntmps103
      go_wp2
      all_goals
        go_ret
        exact ⟨congrArg (fun z => Ending.returned (.int .i64 z)) (by omega), rfl⟩
    · rw [if_neg (by omega)]
      go_enter Tryz.func103, Tryz.ntmps103
      go_wp2
      all_goals
        go_ret
        exact ⟨congrArg (fun z => Ending.returned (.int .i64 z)) (by omega), rfl⟩
theorem digitsOf_any (n : Int) (w : World) : Calls Tryz.prog 100 #[.int .i64 n] w fun e w' => e = .returned (.func (.func 119) #[] #[.pointer (some ⟨w.heap.size, 0, none⟩)]) ∧ w' = w.alloc (.cells #[.int .i64 n] 3) := by
  have hmf : ∀ (fn : Fn) (first cap : Array Value) (w : World), (Instr.makeFunc fn first cap).run Tryz.prog w = .ok (.func fn first cap) w := fun _ _ _ _ => rfl
  go_enter Tryz.func100, Tryz.ntmps100
  go_wp2
  go_ret
  exact ⟨rfl, rfl⟩
set_option maxHeartbeats 1000000 in
theorem digitsOf1_any (n : Nat) (c : UInt8) (k : Nat) (w : World) (h : w.cell? ⟨k, 0, none⟩ = some (.int .i64 n)) : Calls Tryz.prog 119 #[.int .u8 c.toNat, .pointer (some ⟨k, 0, none⟩)] w fun e w' => e = .returned (.bool (decide (Lx.worth c < n))) ∧ ∃ m, w' = w.drewN m := by
  go_enter Tryz.func119, Tryz.ntmps119
  go_wp2
  go_quiet ((go_at_call 103; exact Calls.quiet_of_same (worth_any _ _)))
  go_wp2
  go_ret
  exact ⟨ret_bool (by simp), _, rfl⟩
end Go.Proofs.YtcgibcjpkhefpaaGreatDoor

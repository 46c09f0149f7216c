/-
  strconv.ParseFloat at the one text "0.15e1" is 1.5, nil.
-/
import Derived.Test.YtcgibcjpkhefpaaGreatDoorF1
namespace Go.Proofs.YtcgibcjpkhefpaaGreatDoor
open Go.RowKit
theorem FvOk.drewN {w : World} (h : FvOk w) (n : Nat) : FvOk (w.drewN n) := ⟨h.opt, h.inf, h.tab, h.sz⟩
set_option maxHeartbeats 2000000 in
set_option maxRecDepth 100000 in
theorem special_f015 (w : World) : Calls Tryz.prog 166 #[.string f015] w fun e w' => e = .returned (.tuple #[.float .f64 0, .int .i64 0, .bool false]) ∧ ∃ m, w' = w.drewN m := by
  have he : (f015[0]'(by decide)).toNat = 48 := rfl
  go_enter Tryz.func166, Tryz.ntmps166
  go_wp2
  exact bodyPost_ret (v := .tuple #[.float .f64 0, .int .i64 0, .bool false]) (by simp [results, Tryz.results166]) rfl ⟨rfl, 0, rfl⟩
theorem bool2_no (w : World) : Calls Tryz.prog 175 #[.bool false] w fun e w' => e = .returned (.int .u64 0) ∧ w' = w := by
  go_enter Tryz.func175, Tryz.ntmps175
  go_wp2
  go_ret
  exact ⟨rfl, rfl⟩
set_option maxHeartbeats 4000000 in
set_option maxRecDepth 100000 in
theorem atof64_015 (w : World) (hF : FvOk w) : Calls Tryz.prog 156 #[.string f015] w fun e w' => e = .returned (.tuple #[.float .f64 4609434218613702656, .int .i64 6, .nilIface]) ∧ ∃ m, w' = w.drewN m := by
  have ho := hF.opt
  have HF := Lib.hid hF
  clear hF
  go_enter Tryz.func156, Tryz.ntmps156
  go_wp2_with fail
  refine (special_f015 _).mono ?_
  rintro e w1 ⟨rfl, m1, rfl⟩
  go_wp2_with fail
  refine (readFloat_015 _).mono ?_
  rintro e w1 ⟨rfl, m2, rfl⟩
  have ho2 : ((w.drewN m1).drewN m2).cell? ⟨10, 0, none⟩ = some (.bool true) := ho
  go_wp2_with fail
  refine (bool2_no _).mono ?_
  rintro e w1 ⟨rfl, rfl⟩
  go_wp2_with fail
  refine (exact_015 _ (HF.out.drewN (m1 + m2))).mono ?_
  rintro e w1 ⟨rfl, m3, rfl⟩
  go_wp2
  exact bodyPost_ret (v := .tuple #[.float .f64 4609434218613702656, .int .i64 6, .nilIface]) (by simp [results, Tryz.results156]) rfl ⟨rfl, _, rfl⟩
set_option maxHeartbeats 1000000 in
theorem pprefix_015 (w : World) (hF : FvOk w) : Calls Tryz.prog 129 #[.string f015, .int .i64 64] w fun e w' => e = .returned (.tuple #[.float .f64 4609434218613702656, .int .i64 6, .nilIface]) ∧ ∃ m, w' = w.drewN m := by
  have HF := Lib.hid hF
  clear hF
  go_enter Tryz.func129, Tryz.ntmps129
  go_wp2_with fail
  refine (atof64_015 _ HF.out).mono ?_
  rintro e w1 ⟨rfl, m1, rfl⟩
  go_wp2
  exact bodyPost_ret (v := .tuple #[.float .f64 4609434218613702656, .int .i64 6, .nilIface]) (by simp [results, Tryz.results129]) rfl ⟨rfl, _, rfl⟩
set_option maxHeartbeats 1000000 in
theorem iparse_015 (w : World) (hF : FvOk w) : Calls Tryz.prog 110 #[.string f015, .int .i64 64] w fun e w' => e = .returned (.tuple #[.float .f64 4609434218613702656, .nilIface]) ∧ ∃ m, w' = w.drewN m := by
  have HF := Lib.hid hF
  clear hF
  go_enter Tryz.func110, Tryz.ntmps110
  go_wp2_with fail
  refine (pprefix_015 _ HF.out).mono ?_
  rintro e w1 ⟨rfl, m1, rfl⟩
  go_wp2
  exact bodyPost_ret (v := .tuple #[.float .f64 4609434218613702656, .nilIface]) (by simp [results, Tryz.results110]) rfl ⟨rfl, _, rfl⟩
set_option maxHeartbeats 1000000 in
theorem parse_015 (w : World) (hF : FvOk w) : Calls Tryz.prog 84 #[.string f015, .int .i64 64] w fun e w' => e = .returned (.tuple #[.float .f64 4609434218613702656, .nilIface]) ∧ ∃ m, w' = w.drewN m := by
  have HF := Lib.hid hF
  clear hF
  go_enter Tryz.func84, Tryz.ntmps84
  go_wp2_with fail
  refine (iparse_015 _ HF.out).mono ?_
  rintro e w1 ⟨rfl, m1, rfl⟩
  go_wp2
  exact bodyPost_ret (v := .tuple #[.float .f64 4609434218613702656, .nilIface]) (by simp [results, Tryz.results84]) rfl ⟨rfl, _, rfl⟩
end Go.Proofs.YtcgibcjpkhefpaaGreatDoor

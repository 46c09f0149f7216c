/-
  A part of the proof: strconv's special at one text.
-/
import Derived.Test.YtcgibcjpkhefpaaGreatDoorW25
namespace Go.Proofs.YtcgibcjpkhefpaaGreatDoor
open Go.RowKit
abbrev t015 : ByteArray := ⟨#[48, 46, 49, 53, 101, 49]⟩
set_option maxHeartbeats 2000000 in
set_option maxRecDepth 100000 in
theorem special_015 (w : World) : Calls Tryz.prog 166 #[.string t015] w fun e w' => e = .returned (.tuple #[.float .f64 0, .int .i64 0, .bool false]) ∧ ∃ m, w' = w.drewN m := by
  have he : (t015[0]'(by decide)).toNat = 48 := rfl
  go_enter Tryz.func166, Tryz.ntmps166
  go_wp2
  exact bodyPost_ret (v := .tuple #[.float .f64 0, .int .i64 0, .bool false]) (by simp [results, Tryz.results166]) rfl ⟨rfl, 0, rfl⟩
end Go.Proofs.YtcgibcjpkhefpaaGreatDoor

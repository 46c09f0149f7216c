/-
  strconv.ParseFloat at the one text "0.15e1": 1.5, out of the two laid variables optimize and float64pow10.
-/
import Derived.Test.YtcgibcjpkhefpaaGreatDoorB0
import Derived.WalkMore
import Derived.Deep.LoopGhost
namespace Go.Proofs.YtcgibcjpkhefpaaGreatDoor
open Go.RowKit
abbrev f015 : ByteArray := ⟨#[48, 46, 49, 53, 101, 49]⟩
theorem u8_allF {P : UInt8 → Prop} (h : ∀ n : Fin 256, P (UInt8.ofNat n.val)) : ∀ c, P c := fun c => by
  have := h ⟨c.toNat, c.toNat_lt⟩
  simpa using this
theorem lower46 (w : World) : Calls Tryz.prog 187 #[.int .u8 46] w fun e w' => e = .returned (.int .u8 46) ∧ w' = w := by
  have h32 : bits .or .u8 46 32 = 46 := by decide +kernel
  go_enter Tryz.func187, Tryz.ntmps187
  go_wp2
  go_ret
  exact ⟨by rfl, rfl⟩
theorem lower101 (w : World) : Calls Tryz.prog 187 #[.int .u8 101] w fun e w' => e = .returned (.int .u8 101) ∧ w' = w := by
  have h32 : bits .or .u8 101 32 = 101 := by decide +kernel
  go_enter Tryz.func187, Tryz.ntmps187
  go_wp2
  go_ret
  exact ⟨by rfl, rfl⟩
set_option maxHeartbeats 4000000 in
set_option maxRecDepth 100000 in
theorem readFloat_015 (w : World) : Calls Tryz.prog 167 #[.string f015] w fun e w' => e = .returned (.tuple #[.int .u64 15, .int .i64 (-1), .bool false, .bool false, .bool false, .int .i64 6, .bool true]) ∧ ∃ m, w' = w.drewN m := by
  have b0 : (f015[0]'(by decide)).toNat = 48 := rfl
  have b1 : (f015[1]'(by decide)).toNat = 46 := rfl
  have b2 : (f015[2]'(by decide)).toNat = 49 := rfl
  have b3 : (f015[3]'(by decide)).toNat = 53 := rfl
  have b4 : (f015[4]'(by decide)).toNat = 101 := rfl
  have b5 : (f015[5]'(by decide)).toNat = 49 := rfl
  go_enter Tryz.func167, Tryz.ntmps167
  go_wp2
  go_step3
  go_wp2_with (go_at_call 187; refine (lower46 _).mono ?_; rintro e w2 ⟨rfl, rfl⟩)
  go_step3
  go_wp2
  go_loopg [2, 5, 7, 9, 13, 14, 15, 16, 17] 5 (fun k m tr i us dot dig nd ndm dp wr => wr = w2 ∧ tr = .bool false ∧ us = .bool false ∧ (
    (k = 5 ∧ m = .int .u64 0 ∧ i = .int .i64 0 ∧ dot = .bool false ∧ dig = .bool false ∧ nd = .int .i64 0 ∧ ndm = .int .i64 0 ∧ dp = .int .i64 0) ∨
    (k = 4 ∧ m = .int .u64 0 ∧ i = .int .i64 1 ∧ dot = .bool false ∧ dig = .bool true ∧ nd = .int .i64 0 ∧ ndm = .int .i64 0 ∧ dp = .int .i64 (-1)) ∨
    (k = 3 ∧ m = .int .u64 0 ∧ i = .int .i64 2 ∧ dot = .bool true ∧ dig = .bool true ∧ nd = .int .i64 0 ∧ ndm = .int .i64 0 ∧ dp = .int .i64 0) ∨
    (k = 2 ∧ m = .int .u64 1 ∧ i = .int .i64 3 ∧ dot = .bool true ∧ dig = .bool true ∧ nd = .int .i64 1 ∧ ndm = .int .i64 1 ∧ dp = .int .i64 0) ∨
    (k = 1 ∧ m = .int .u64 15 ∧ i = .int .i64 4 ∧ dot = .bool true ∧ dig = .bool true ∧ nd = .int .i64 2 ∧ ndm = .int .i64 2 ∧ dp = .int .i64 0)))
  case atStart => exact ⟨rfl, rfl, rfl, Or.inl ⟨rfl, rfl, rfl, rfl, rfl, rfl, rfl, rfl⟩⟩
  case round =>
    obtain ⟨rfl, rfl, rfl, hrel⟩ := hrel
    rcases hrel with ⟨rfl, rfl, rfl, rfl, rfl, rfl, rfl, rfl⟩ | ⟨rfl, rfl, rfl, rfl, rfl, rfl, rfl, rfl⟩ | ⟨rfl, rfl, rfl, rfl, rfl, rfl, rfl, rfl⟩ | ⟨rfl, rfl, rfl, rfl, rfl, rfl, rfl, rfl⟩ | ⟨rfl, rfl, rfl, rfl, rfl, rfl, rfl, rfl⟩
    · go_wp2
      go_roundg 4
      case measure => omega
      case rel => exact ⟨rfl, rfl, rfl, Or.inr (Or.inl ⟨rfl, rfl, rfl, rfl, rfl, rfl, rfl, rfl⟩)⟩
    · go_wp2
      go_roundg 3
      case measure => omega
      case rel => exact ⟨rfl, rfl, rfl, Or.inr (Or.inr (Or.inl ⟨rfl, rfl, rfl, rfl, rfl, rfl, rfl, rfl⟩))⟩
    · go_wp2
      go_roundg 2
      case measure => omega
      case rel => exact ⟨rfl, rfl, rfl, Or.inr (Or.inr (Or.inr (Or.inl ⟨rfl, rfl, rfl, rfl, rfl, rfl, rfl, rfl⟩)))⟩
    · go_wp2
      go_roundg 1
      case measure => omega
      case rel => exact ⟨rfl, rfl, rfl, Or.inr (Or.inr (Or.inr (Or.inr ⟨rfl, rfl, rfl, rfl, rfl, rfl, rfl, rfl⟩)))⟩
    · go_wp2
      go_loopg [7, 9, 20] 1 (fun k i us ex wv => wv = wr ∧ us = .bool false ∧ ((k = 1 ∧ i = .int .i64 5 ∧ ex = .int .i64 0) ∨ (k = 0 ∧ i = .int .i64 6 ∧ ex = .int .i64 1)))
      case atStart => exact ⟨rfl, rfl, Or.inl ⟨rfl, rfl, rfl⟩⟩
      case round =>
        obtain ⟨rfl, rfl, hrel⟩ := hrel
        rcases hrel with ⟨rfl, rfl, rfl⟩ | ⟨rfl, rfl, rfl⟩
        · go_wp2
          go_roundg 0
          case measure => omega
          case rel => exact ⟨rfl, rfl, Or.inr ⟨rfl, rfl, rfl⟩⟩
        · go_wp2
          rw [Exit.noGoto_ret]
          exact bodyPost_ret (v := .tuple #[.int .u64 15, .int .i64 (-1), .bool false, .bool false, .bool false, .int .i64 6, .bool true]) (by simp [results, Tryz.results167]) rfl ⟨rfl, 0, rfl⟩
end Go.Proofs.YtcgibcjpkhefpaaGreatDoor

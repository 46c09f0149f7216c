/-
  strconv.ParseFloat at the one text "0.15e1": 1.5, out of the two laid variables optimize and float64pow10.
  strconv.ParseFloat at the one text "0.15e1": the fast road: 15 / 10.
  strconv.ParseFloat at the one text "0.15e1" is 1.5, nil.
-/
import Derived.Test.YtcgibcjpkhefpaaGreatDoorZB
import Derived.WalkMore
import Derived.Deep.LoopGhost
namespace Go.Proofs.YtcgibcjpkhefpaaGreatDoor
open Go.RowKit
abbrev f015 : ByteArray := ⟨#[48, 46, 49, 53, 101, 49]⟩
theorem u8_allF {P : UInt8 → Prop} (h : ∀ n : Fin 256, P (UInt8.ofNat n.val)) : ∀ c, P c := fun c => by
  have := h ⟨c.toNat, c.toNat_lt⟩
  simpa using this
theorem lower46 (w : World) : Calls Tryz.prog 187 #[.int .u8 46] w fun e w' => e = .returned (.int .u8 46) ∧ w' = w := by
  have h32 : bits .or .u8 46 32 = 46 := by decide +kernel
  go_enter Tryz.func187, Tryz.ntmps187
  go_wp2
  go_ret
  exact ⟨by rfl, rfl⟩
theorem lower101 (w : World) : Calls Tryz.prog 187 #[.int .u8 101] w fun e w' => e = .returned (.int .u8 101) ∧ w' = w := by
  have h32 : bits .or .u8 101 32 = 101 := by decide +kernel
  go_enter Tryz.func187, Tryz.ntmps187
  go_wp2
  go_ret
  exact ⟨by rfl, rfl⟩
set_option maxHeartbeats 4000000 in
set_option maxRecDepth 100000 in
theorem readFloat_015 (w : World) : Calls Tryz.prog 167 #[.string f015] w fun e w' => e = .returned (.tuple #[.int .u64 15, .int .i64 (-1), .bool false, .bool false, .bool false, .int .i64 6, .bool true]) ∧ ∃ m, w' = w.drewN m := by
  have b0 : (f015[0]'(by decide)).toNat = 48 := rfl
  have b1 : (f015[1]'(by decide)).toNat = 46 := rfl
  have b2 : (f015[2]'(by decide)).toNat = 49 := rfl
  have b3 : (f015[3]'(by decide)).toNat = 53 := rfl
  have b4 : (f015[4]'(by decide)).toNat = 101 := rfl
  have b5 : (f015[5]'(by decide)).toNat = 49 := rfl
  go_enter Tryz.func167, Tryz.ntmps167
  go_wp2
  go_step3
  go_wp2_with (go_at_call 187; refine (lower46 _).mono ?_; rintro e w2 ⟨rfl, rfl⟩)
  go_step3
  go_wp2
  go_loopg [2, 5, 7, 9, 13, 14, 15, 16, 17] 5 (fun k m tr i us dot dig nd ndm dp wr => wr = w2 ∧ tr = .bool false ∧ us = .bool false ∧ (
    (k = 5 ∧ m = .int .u64 0 ∧ i = .int .i64 0 ∧ dot = .bool false ∧ dig = .bool false ∧ nd = .int .i64 0 ∧ ndm = .int .i64 0 ∧ dp = .int .i64 0) ∨
    (k = 4 ∧ m = .int .u64 0 ∧ i = .int .i64 1 ∧ dot = .bool false ∧ dig = .bool true ∧ nd = .int .i64 0 ∧ ndm = .int .i64 0 ∧ dp = .int .i64 (-1)) ∨
    (k = 3 ∧ m = .int .u64 0 ∧ i = .int .i64 2 ∧ dot = .bool true ∧ dig = .bool true ∧ nd = .int .i64 0 ∧ ndm = .int .i64 0 ∧ dp = .int .i64 0) ∨
    (k = 2 ∧ m = .int .u64 1 ∧ i = .int .i64 3 ∧ dot = .bool true ∧ dig = .bool true ∧ nd = .int .i64 1 ∧ ndm = .int .i64 1 ∧ dp = .int .i64 0) ∨
    (k = 1 ∧ m = .int .u64 15 ∧ i = .int .i64 4 ∧ dot = .bool true ∧ dig = .bool true ∧ nd = .int .i64 2 ∧ ndm = .int .i64 2 ∧ dp = .int .i64 0)))
  case atStart => exact ⟨rfl, rfl, rfl, Or.inl ⟨rfl, rfl, rfl, rfl, rfl, rfl, rfl, rfl⟩⟩
  case round =>
    obtain ⟨rfl, rfl, rfl, hrel⟩ := hrel
    rcases hrel with ⟨rfl, rfl, rfl, rfl, rfl, rfl, rfl, rfl⟩ | ⟨rfl, rfl, rfl, rfl, rfl, rfl, rfl, rfl⟩ | ⟨rfl, rfl, rfl, rfl, rfl, rfl, rfl, rfl⟩ | ⟨rfl, rfl, rfl, rfl, rfl, rfl, rfl, rfl⟩ | ⟨rfl, rfl, rfl, rfl, rfl, rfl, rfl, rfl⟩
    · go_wp2
      go_roundg 4
      case measure => omega
      case rel => exact ⟨rfl, rfl, rfl, Or.inr (Or.inl ⟨rfl, rfl, rfl, rfl, rfl, rfl, rfl, rfl⟩)⟩
    · go_wp2
      go_roundg 3
      case measure => omega
      case rel => exact ⟨rfl, rfl, rfl, Or.inr (Or.inr (Or.inl ⟨rfl, rfl, rfl, rfl, rfl, rfl, rfl, rfl⟩))⟩
    · go_wp2
      go_roundg 2
      case measure => omega
      case rel => exact ⟨rfl, rfl, rfl, Or.inr (Or.inr (Or.inr (Or.inl ⟨rfl, rfl, rfl, rfl, rfl, rfl, rfl, rfl⟩)))⟩
    · go_wp2
      go_roundg 1
      case measure => omega
      case rel => exact ⟨rfl, rfl, rfl, Or.inr (Or.inr (Or.inr (Or.inr ⟨rfl, rfl, rfl, rfl, rfl, rfl, rfl, rfl⟩)))⟩
    · go_wp2
      go_loopg [7, 9, 20] 1 (fun k i us ex wv => wv = wr ∧ us = .bool false ∧ ((k = 1 ∧ i = .int .i64 5 ∧ ex = .int .i64 0) ∨ (k = 0 ∧ i = .int .i64 6 ∧ ex = .int .i64 1)))
      case atStart => exact ⟨rfl, rfl, Or.inl ⟨rfl, rfl, rfl⟩⟩
      case round =>
        obtain ⟨rfl, rfl, hrel⟩ := hrel
        rcases hrel with ⟨rfl, rfl, rfl⟩ | ⟨rfl, rfl, rfl⟩
        · go_wp2
          go_roundg 0
          case measure => omega
          case rel => exact ⟨rfl, rfl, Or.inr ⟨rfl, rfl, rfl⟩⟩
        · go_wp2
          rw [Exit.noGoto_ret]
          exact bodyPost_ret (v := .tuple #[.int .u64 15, .int .i64 (-1), .bool false, .bool false, .bool false, .int .i64 6, .bool true]) (by simp [results, Tryz.results167]) rfl ⟨rfl, 0, rfl⟩
end Go.Proofs.YtcgibcjpkhefpaaGreatDoor
namespace Go.Proofs.YtcgibcjpkhefpaaGreatDoor
open Go.RowKit
/-- What the laid variables of internal/strconv hold, as far as the fast road reads them. -/
structure FvOk (w : World) : Prop where
  opt : w.cell? ⟨10, 0, none⟩ = some (.bool true)
  inf : w.cell? ⟨11, 0, none⟩ = some (.int .u64 52)
  tab : ∃ g o c, w.cell? ⟨16, 0, none⟩ = some (.slice (some ⟨g, o, none⟩) 23 c) ∧ g < w.heap.size ∧ w.cell? ⟨g, o + 1, none⟩ = some (.float .f64 4621819117588971520)
  sz : 16 < w.heap.size
theorem FvOk.below {w w' : World} {B : Nat} (h : FvOk w) (hb : Below B w w') (hB : w.heap.size ≤ B) : FvOk w' := by
  obtain ⟨g, o, c, h1, h2, h3⟩ := h.tab
  have hz := h.sz
  refine ⟨?_, ?_, ⟨g, o, c, ?_, ?_, ?_⟩, ?_⟩
  · rw [hb.cell (p := ⟨10, 0, none⟩) (by simp; omega)]; exact h.opt
  · rw [hb.cell (p := ⟨11, 0, none⟩) (by simp; omega)]; exact h.inf
  · rw [hb.cell (p := ⟨16, 0, none⟩) (by simp; omega)]; exact h1
  · have := hb.size; omega
  · rw [hb.cell (p := ⟨g, o + 1, none⟩) (by simp; omega)]; exact h3
  · have := hb.size; omega
set_option maxHeartbeats 4000000 in
set_option maxRecDepth 100000 in
theorem exact_015 (w : World) (hF : FvOk w) : Calls Tryz.prog 177 #[.int .u64 15, .int .i64 (-1), .bool false] w fun e w' => e = .returned (.tuple #[.float .f64 4609434218613702656, .bool true]) ∧ ∃ m, w' = w.drewN m := by
  have hi := hF.inf
  obtain ⟨g, o, c, h1, _, h3⟩ := hF.tab
  clear hF
  have hfi : floatOfInt FloatKind.f64 15 = 4624633867356078080 := by decide +kernel
  have hq : ∀ w, (binOp BinOp.quo 29 (Value.float FloatKind.f64 4624633867356078080) (Value.float FloatKind.f64 4621819117588971520)).run Tryz.prog w = .ok (Value.float FloatKind.f64 4609434218613702656) w := by
    intro w
    have hd : FloatKind.f64.format.div 4624633867356078080 4621819117588971520 = some 4609434218613702656 := by decide +kernel
    simp [binOp, go_sem]
    unfold Op.floatArith
    simp only [hd]
    rfl
  go_enter Tryz.func177, Tryz.ntmps177
  go_wp2
  exact bodyPost_ret (v := .tuple #[.float .f64 4609434218613702656, .bool true]) (by simp [results, Tryz.results177]) rfl ⟨rfl, 0, rfl⟩
end Go.Proofs.YtcgibcjpkhefpaaGreatDoor
namespace Go.Proofs.YtcgibcjpkhefpaaGreatDoor
open Go.RowKit
theorem FvOk.drewN {w : World} (h : FvOk w) (n : Nat) : FvOk (w.drewN n) := ⟨h.opt, h.inf, h.tab, h.sz⟩
set_option maxHeartbeats 2000000 in
set_option maxRecDepth 100000 in
theorem special_f015 (w : World) : Calls Tryz.prog 166 #[.string f015] w fun e w' => e = .returned (.tuple #[.float .f64 0, .int .i64 0, .bool false]) ∧ ∃ m, w' = w.drewN m := by
  have he : (f015[0]'(by decide)).toNat = 48 := rfl
  go_enter Tryz.func166, Tryz.ntmps166
  go_wp2
  exact bodyPost_ret (v := .tuple #[.float .f64 0, .int .i64 0, .bool false]) (by simp [results, Tryz.results166]) rfl ⟨rfl, 0, rfl⟩
theorem bool2_no (w : World) : Calls Tryz.prog 175 #[.bool false] w fun e w' => e = .returned (.int .u64 0) ∧ w' = w := by
  go_enter Tryz.func175, Tryz.ntmps175
  go_wp2
  go_ret
  exact ⟨rfl, rfl⟩
set_option maxHeartbeats 4000000 in
set_option maxRecDepth 100000 in
theorem atof64_015 (w : World) (hF : FvOk w) : Calls Tryz.prog 156 #[.string f015] w fun e w' => e = .returned (.tuple #[.float .f64 4609434218613702656, .int .i64 6, .nilIface]) ∧ ∃ m, w' = w.drewN m := by
  have ho := hF.opt
  have HF := Lib.hid hF
  clear hF
  go_enter Tryz.func156, Tryz.ntmps156
  go_wp2_with fail
  refine (special_f015 _).mono ?_
  rintro e w1 ⟨rfl, m1, rfl⟩
  go_wp2_with fail
  refine (readFloat_015 _).mono ?_
  rintro e w1 ⟨rfl, m2, rfl⟩
  have ho2 : ((w.drewN m1).drewN m2).cell? ⟨10, 0, none⟩ = some (.bool true) := ho
  go_wp2_with fail
  refine (bool2_no _).mono ?_
  rintro e w1 ⟨rfl, rfl⟩
  go_wp2_with fail
  refine (exact_015 _ (HF.out.drewN (m1 + m2))).mono ?_
  rintro e w1 ⟨rfl, m3, rfl⟩
  go_wp2
  exact bodyPost_ret (v := .tuple #[.float .f64 4609434218613702656, .int .i64 6, .nilIface]) (by simp [results, Tryz.results156]) rfl ⟨rfl, _, rfl⟩
set_option maxHeartbeats 1000000 in
theorem pprefix_015 (w : World) (hF : FvOk w) : Calls Tryz.prog 129 #[.string f015, .int .i64 64] w fun e w' => e = .returned (.tuple #[.float .f64 4609434218613702656, .int .i64 6, .nilIface]) ∧ ∃ m, w' = w.drewN m := by
  have HF := Lib.hid hF
  clear hF
  go_enter Tryz.func129, Tryz.ntmps129
  go_wp2_with fail
  refine (atof64_015 _ HF.out).mono ?_
  rintro e w1 ⟨rfl, m1, rfl⟩
  go_wp2
  exact bodyPost_ret (v := .tuple #[.float .f64 4609434218613702656, .int .i64 6, .nilIface]) (by simp [results, Tryz.results129]) rfl ⟨rfl, _, rfl⟩
set_option maxHeartbeats 1000000 in
theorem iparse_015 (w : World) (hF : FvOk w) : Calls Tryz.prog 110 #[.string f015, .int .i64 64] w fun e w' => e = .returned (.tuple #[.float .f64 4609434218613702656, .nilIface]) ∧ ∃ m, w' = w.drewN m := by
  have HF := Lib.hid hF
  clear hF
  go_enter Tryz.func110, Tryz.ntmps110
  go_wp2_with fail
  refine (pprefix_015 _ HF.out).mono ?_
  rintro e w1 ⟨rfl, m1, rfl⟩
  go_wp2
  exact bodyPost_ret (v := .tuple #[.float .f64 4609434218613702656, .nilIface]) (by simp [results, Tryz.results110]) rfl ⟨rfl, _, rfl⟩
set_option maxHeartbeats 1000000 in
theorem parse_015 (w : World) (hF : FvOk w) : Calls Tryz.prog 84 #[.string f015, .int .i64 64] w fun e w' => e = .returned (.tuple #[.float .f64 4609434218613702656, .nilIface]) ∧ ∃ m, w' = w.drewN m := by
  have HF := Lib.hid hF
  clear hF
  go_enter Tryz.func84, Tryz.ntmps84
  go_wp2_with fail
  refine (iparse_015 _ HF.out).mono ?_
  rintro e w1 ⟨rfl, m1, rfl⟩
  go_wp2
  exact bodyPost_ret (v := .tuple #[.float .f64 4609434218613702656, .nilIface]) (by simp [results, Tryz.results84]) rfl ⟨rfl, _, rfl⟩
end Go.Proofs.YtcgibcjpkhefpaaGreatDoor

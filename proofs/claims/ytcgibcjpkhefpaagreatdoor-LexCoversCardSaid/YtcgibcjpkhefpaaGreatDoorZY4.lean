/-
  The reference's point (36) at a text that begins with a code point.
-/
import Derived.Test.YtcgibcjpkhefpaaGreatDoorZA
import Derived.Test.YtcgibcjpkhefpaaGreatDoorZE
namespace Go.Lx
/-- The value of the first bytes. -/
def rv (c : Nat) (l : List UInt8) : Nat → Nat
  | 0 => 0
  | 1 => bn l 0 - c
  | k + 2 => 64 * rv c l (k + 1) + (bn l (k + 1) - 128)
theorem rv_succ (c : Nat) (l : List UInt8) {k : Nat} (hk : 1 ≤ k) : rv c l (k + 1) = 64 * rv c l k + (bn l k - 128) := by
  cases k with
  | zero => omega
  | succ k => rfl
theorem rv1 (c : Nat) (l : List UInt8) : rv c l 1 = bn l 0 - c := rfl
theorem rv2 (c : Nat) (l : List UInt8) : rv c l 2 = 64 * (bn l 0 - c) + (bn l 1 - 128) := rfl
theorem rv3 (c : Nat) (l : List UInt8) : rv c l 3 = 64 * (64 * (bn l 0 - c) + (bn l 1 - 128)) + (bn l 2 - 128) := rfl
theorem rv4 (c : Nat) (l : List UInt8) : rv c l 4 = 64 * (64 * (64 * (bn l 0 - c) + (bn l 1 - 128)) + (bn l 2 - 128)) + (bn l 3 - 128) := rfl
theorem rv_lt (c : Nat) (l : List UInt8) {k : Nat} (hk : k ≤ 3) : rv c l k ≤ 1200000 := by
  have h0 := bn_lt l 0
  have h1 := bn_lt l 1
  have h2 := bn_lt l 2
  have : k = 0 ∨ k = 1 ∨ k = 2 ∨ k = 3 := by omega
  rcases this with rfl | rfl | rfl | rfl
  · exact Nat.zero_le _
  · show bn l 0 - c ≤ 1200000; omega
  · rw [rv2]; omega
  · rw [rv3]; omega
theorem bn_idx (t : ByteArray) {k : Nat} (h : k < t.size) : (t[k]'h).toNat = bn t.data.toList k := by
  unfold bn
  rw [List.getElem?_eq_getElem (by simpa using h)]
  simp
  rfl
end Go.Lx
namespace Go.Proofs.YtcgibcjpkhefpaaGreatDoor
open Go.RowKit
theorem i32_in (x : Int) (h : -2147483648 ≤ x ∧ x < 2147483648) : IntKind.i32.wrap x = x := by
  simp [IntKind.wrap, IntKind.signed, IntKind.bits]
  omega
def PtPost (n : Nat) (w : World) (e : Ending) (w' : World) : Prop := (∃ r : Nat, r ≤ 1114111 ∧ e = .returned (.tuple #[.int .i32 r, .int .i64 n])) ∧ w' = w
set_option maxHeartbeats 1000000 in
theorem rpoint_1 (t : ByteArray) (w : World) (hn : 1 ≤ t.size) (h : Lx.bn t.data.toList 0 < 128) : Calls Tryz.prog 36 #[.string t] w (PtPost 1 w) := by
  have hz : 0 < t.size := by omega
  have hzi : (0 : Int) < t.size := by omega
  have e0 := Lx.bn_idx t hz
  have hb : ((t[0]'hz).toNat : Int) < 128 := by omega
  have hw : IntKind.i32.wrap ((t[0]'hz).toNat : Int) = ((t[0]'hz).toNat : Int) := i32_in _ (by omega)
  have HB := Lib.hid e0
  clear e0 h
  go_enter Tryz.func36, Tryz.ntmps36
  go_wp2
  exact bodyPost_ret (v := .tuple #[.int .i32 (t[0]'hz).toNat, .int .i64 1]) (by simp [results, Tryz.results36]) rfl ⟨⟨_, by omega, rfl⟩, rfl⟩
set_option maxHeartbeats 2000000 in
set_option maxRecDepth 100000 in
theorem rpoint_2 (t : ByteArray) (w : World) (hn : 2 ≤ t.size) (h0 : 194 ≤ Lx.bn t.data.toList 0 ∧ Lx.bn t.data.toList 0 ≤ 223) (hc : ∀ k, 1 ≤ k → k < 2 → Lx.cont (Lx.bn t.data.toList k)) : Calls Tryz.prog 36 #[.string t] w (PtPost 2 w) := by
  have hz : 0 < t.size := by omega
  have hzi : (0 : Int) < t.size := by omega
  have e0 := Lx.bn_idx t hz
  have d0 : decide (((t[0]'hz).toNat : Int) < 128) = false := by simp; omega
  have d1 : ((t[0]'hz).toNat : Int) ≤ 223 := by omega
  have g1 : (194 : Int) ≤ ((t[0]'hz).toNat : Int) := by omega
  have hw : IntKind.i32.wrap ((t[0]'hz).toNat : Int) = ((t[0]'hz).toNat : Int) := i32_in _ (by omega)
  have hw2 : IntKind.i32.wrap (((t[0]'hz).toNat : Int) - 192) = ((t[0]'hz).toNat : Int) - 192 := i32_in _ (by omega)
  have hsz : decide ((t.size : Int) < 2) = false := by simp; omega
  have HV := Lib.hid (show ((t[0]'hz).toNat : Int) - 192 = ((Lx.rv 192 t.data.toList 1 : Nat) : Int) by rw [Lx.rv1]; omega)
  have HC := Lib.hid hc
  have HR := Lib.hid (show Lx.rv 192 t.data.toList 2 ≤ 1114111 by have := Lx.bn_lt t.data.toList 0; have := Lx.bn_lt t.data.toList 1; rw [Lx.rv2]; omega)
  clear hc e0 h0
  go_enter Tryz.func36, Tryz.ntmps36
  go_wp2
  go_loopw [6, 7] (fun r i wr => ∃ k : Nat, 1 ≤ k ∧ k ≤ 2 ∧ i = .int .i64 k ∧ r = .int .i32 (Lx.rv 192 t.data.toList k : Nat) ∧ wr = w) (fun _ i _ => 2 - (intOf i).toNat)
  case atStart => exact ⟨1, Nat.le_refl _, by omega, rfl, by rw [HV.out], rfl⟩
  case round =>
    obtain ⟨k, hk1, hkn, rfl, rfl, rfl⟩ := hrel
    by_cases hlt : k < 2
    · have hks : k < t.size := by omega
      have hki : (k : Int) < t.size := by omega
      have hk2 : (k : Int) < 2 := by omega
      have ek := Lx.bn_idx t hks
      have hck := HC.out k hk1 hlt
      unfold Lx.cont at hck
      have hrl := Lx.rv_lt 192 t.data.toList (k := k) (by omega)
      have HS := Lib.hid (Lx.rv_succ 192 t.data.toList hk1)
      generalize Lx.rv 192 t.data.toList k = r at *
      have f1 : decide (((t[k]'hks).toNat : Int) < 128) = false := by simp; omega
      have f2 : decide ((191 : Int) < ((t[k]'hks).toNat : Int)) = false := by simp; omega
      have w1 : IntKind.i32.wrap (64 * (r : Int)) = 64 * (r : Int) := i32_in _ (by omega)
      have w2 : IntKind.i32.wrap ((t[k]'hks).toNat : Int) = ((t[k]'hks).toNat : Int) := i32_in _ (by omega)
      have w3 : IntKind.i32.wrap (64 * (r : Int) + ((t[k]'hks).toNat : Int)) = 64 * (r : Int) + ((t[k]'hks).toNat : Int) := i32_in _ (by omega)
      have w4 : IntKind.i32.wrap (64 * (r : Int) + ((t[k]'hks).toNat : Int) - 128) = 64 * (r : Int) + ((t[k]'hks).toNat : Int) - 128 := i32_in _ (by omega)
      have HE := Lib.hid (show 64 * (r : Int) + ((t[k]'hks).toNat : Int) - 128 = ((Lx.rv 192 t.data.toList (k + 1) : Nat) : Int) by rw [HS.out]; omega)
      clear ek hck hrl
      go_wp2
      go_roundw
      case rel => exact ⟨k + 1, by omega, by omega, rfl, by rw [HE.out], (by first | rfl | exact trivial)⟩
      case measure => simp [intOf]; omega
    · obtain rfl : k = 2 := by omega
      go_wp2
      exact bodyPost_ret (v := .tuple #[.int .i32 (Lx.rv 192 t.data.toList 2 : Nat), .int .i64 2]) (by simp [results, Tryz.results36]) rfl ⟨⟨_, HR.out, rfl⟩, rfl⟩
set_option maxHeartbeats 2000000 in
set_option maxRecDepth 100000 in
theorem rpoint_3 (t : ByteArray) (w : World) (hn : 3 ≤ t.size) (h0 : 224 ≤ Lx.bn t.data.toList 0 ∧ Lx.bn t.data.toList 0 ≤ 239) (hc : ∀ k, 1 ≤ k → k < 3 → Lx.cont (Lx.bn t.data.toList k)) (h3 : 2048 ≤ Lx.rv 224 t.data.toList 3 ∧ (Lx.rv 224 t.data.toList 3 < 55296 ∨ 57344 ≤ Lx.rv 224 t.data.toList 3)) : Calls Tryz.prog 36 #[.string t] w (PtPost 3 w) := by
  have hz : 0 < t.size := by omega
  have hzi : (0 : Int) < t.size := by omega
  have e0 := Lx.bn_idx t hz
  have d0 : decide (((t[0]'hz).toNat : Int) < 128) = false := by simp; omega
  have d1 : decide (((t[0]'hz).toNat : Int) ≤ 223) = false := by simp; omega
  have g1 : (194 : Int) ≤ ((t[0]'hz).toNat : Int) := by omega
  have d2 : ((t[0]'hz).toNat : Int) ≤ 239 := by omega
  have g2 : (224 : Int) ≤ ((t[0]'hz).toNat : Int) := by omega
  have hw : IntKind.i32.wrap ((t[0]'hz).toNat : Int) = ((t[0]'hz).toNat : Int) := i32_in _ (by omega)
  have hw2 : IntKind.i32.wrap (((t[0]'hz).toNat : Int) - 224) = ((t[0]'hz).toNat : Int) - 224 := i32_in _ (by omega)
  have hsz : decide ((t.size : Int) < 3) = false := by simp; omega
  have HV := Lib.hid (show ((t[0]'hz).toNat : Int) - 224 = ((Lx.rv 224 t.data.toList 1 : Nat) : Int) by rw [Lx.rv1]; omega)
  have HC := Lib.hid hc
  have HR := Lib.hid (show Lx.rv 224 t.data.toList 3 ≤ 1114111 by have := hc 1 (by omega) (by omega); have := hc 2 (by omega) (by omega); unfold Lx.cont at *; rw [Lx.rv3]; omega)
  have H3 := Lib.hid h3
  clear hc e0 h0 h3
  go_enter Tryz.func36, Tryz.ntmps36
  go_wp2
  go_loopw [6, 7] (fun r i wr => ∃ k : Nat, 1 ≤ k ∧ k ≤ 3 ∧ i = .int .i64 k ∧ r = .int .i32 (Lx.rv 224 t.data.toList k : Nat) ∧ wr = w) (fun _ i _ => 3 - (intOf i).toNat)
  case atStart => exact ⟨1, Nat.le_refl _, by omega, rfl, by rw [HV.out], rfl⟩
  case round =>
    obtain ⟨k, hk1, hkn, rfl, rfl, rfl⟩ := hrel
    by_cases hlt : k < 3
    · have hks : k < t.size := by omega
      have hki : (k : Int) < t.size := by omega
      have hk2 : (k : Int) < 3 := by omega
      have ek := Lx.bn_idx t hks
      have hck := HC.out k hk1 hlt
      unfold Lx.cont at hck
      have hrl := Lx.rv_lt 224 t.data.toList (k := k) (by omega)
      have HS := Lib.hid (Lx.rv_succ 224 t.data.toList hk1)
      generalize Lx.rv 224 t.data.toList k = r at *
      have f1 : decide (((t[k]'hks).toNat : Int) < 128) = false := by simp; omega
      have f2 : decide ((191 : Int) < ((t[k]'hks).toNat : Int)) = false := by simp; omega
      have w1 : IntKind.i32.wrap (64 * (r : Int)) = 64 * (r : Int) := i32_in _ (by omega)
      have w2 : IntKind.i32.wrap ((t[k]'hks).toNat : Int) = ((t[k]'hks).toNat : Int) := i32_in _ (by omega)
      have w3 : IntKind.i32.wrap (64 * (r : Int) + ((t[k]'hks).toNat : Int)) = 64 * (r : Int) + ((t[k]'hks).toNat : Int) := i32_in _ (by omega)
      have w4 : IntKind.i32.wrap (64 * (r : Int) + ((t[k]'hks).toNat : Int) - 128) = 64 * (r : Int) + ((t[k]'hks).toNat : Int) - 128 := i32_in _ (by omega)
      have HE := Lib.hid (show 64 * (r : Int) + ((t[k]'hks).toNat : Int) - 128 = ((Lx.rv 224 t.data.toList (k + 1) : Nat) : Int) by rw [HS.out]; omega)
      clear ek hck hrl
      go_wp2
      go_roundw
      case rel => exact ⟨k + 1, by omega, by omega, rfl, by rw [HE.out], (by first | rfl | exact trivial)⟩
      case measure => simp [intOf]; omega
    · obtain rfl : k = 3 := by omega
      obtain ⟨j1, j2⟩ := H3.out
      generalize Lx.rv 224 t.data.toList 3 = r at *
      have q1 : decide ((r : Int) < 2048) = false := by simp; omega
      rcases j2 with j2 | j2
      · have q2 : decide ((55296 : Int) ≤ (r : Int)) = false := by simp; omega
        go_wp2
        exact bodyPost_ret (v := .tuple #[.int .i32 r, .int .i64 3]) (by simp [results, Tryz.results36]) rfl ⟨⟨_, HR.out, rfl⟩, rfl⟩
      · have q2 : (55296 : Int) ≤ (r : Int) := by omega
        have q3 : decide ((r : Int) ≤ 57343) = false := by simp; omega
        go_wp2
        exact bodyPost_ret (v := .tuple #[.int .i32 r, .int .i64 3]) (by simp [results, Tryz.results36]) rfl ⟨⟨_, HR.out, rfl⟩, rfl⟩
set_option maxHeartbeats 2000000 in
set_option maxRecDepth 100000 in
theorem rpoint_4 (t : ByteArray) (w : World) (hn : 4 ≤ t.size) (h0 : 240 ≤ Lx.bn t.data.toList 0 ∧ Lx.bn t.data.toList 0 ≤ 244) (hc : ∀ k, 1 ≤ k → k < 4 → Lx.cont (Lx.bn t.data.toList k)) (h4 : 65536 ≤ Lx.rv 240 t.data.toList 4 ∧ Lx.rv 240 t.data.toList 4 ≤ 1114111) : Calls Tryz.prog 36 #[.string t] w (PtPost 4 w) := by
  have hz : 0 < t.size := by omega
  have hzi : (0 : Int) < t.size := by omega
  have e0 := Lx.bn_idx t hz
  have d0 : decide (((t[0]'hz).toNat : Int) < 128) = false := by simp; omega
  have d1 : decide (((t[0]'hz).toNat : Int) ≤ 223) = false := by simp; omega
  have g1 : (194 : Int) ≤ ((t[0]'hz).toNat : Int) := by omega
  have d2 : decide (((t[0]'hz).toNat : Int) ≤ 239) = false := by simp; omega
  have g2 : (224 : Int) ≤ ((t[0]'hz).toNat : Int) := by omega
  have d3 : ((t[0]'hz).toNat : Int) ≤ 244 := by omega
  have g3 : (240 : Int) ≤ ((t[0]'hz).toNat : Int) := by omega
  have hw : IntKind.i32.wrap ((t[0]'hz).toNat : Int) = ((t[0]'hz).toNat : Int) := i32_in _ (by omega)
  have hw2 : IntKind.i32.wrap (((t[0]'hz).toNat : Int) - 240) = ((t[0]'hz).toNat : Int) - 240 := i32_in _ (by omega)
  have hsz : decide ((t.size : Int) < 4) = false := by simp; omega
  have HV := Lib.hid (show ((t[0]'hz).toNat : Int) - 240 = ((Lx.rv 240 t.data.toList 1 : Nat) : Int) by rw [Lx.rv1]; omega)
  have HC := Lib.hid hc
  have H4 := Lib.hid h4
  have HR := Lib.hid h4.2
  clear hc e0 h0 h4
  go_enter Tryz.func36, Tryz.ntmps36
  go_wp2
  go_loopw [6, 7] (fun r i wr => ∃ k : Nat, 1 ≤ k ∧ k ≤ 4 ∧ i = .int .i64 k ∧ r = .int .i32 (Lx.rv 240 t.data.toList k : Nat) ∧ wr = w) (fun _ i _ => 4 - (intOf i).toNat)
  case atStart => exact ⟨1, Nat.le_refl _, by omega, rfl, by rw [HV.out], rfl⟩
  case round =>
    obtain ⟨k, hk1, hkn, rfl, rfl, rfl⟩ := hrel
    by_cases hlt : k < 4
    · have hks : k < t.size := by omega
      have hki : (k : Int) < t.size := by omega
      have hk2 : (k : Int) < 4 := by omega
      have ek := Lx.bn_idx t hks
      have hck := HC.out k hk1 hlt
      unfold Lx.cont at hck
      have hrl := Lx.rv_lt 240 t.data.toList (k := k) (by omega)
      have HS := Lib.hid (Lx.rv_succ 240 t.data.toList hk1)
      generalize Lx.rv 240 t.data.toList k = r at *
      have f1 : decide (((t[k]'hks).toNat : Int) < 128) = false := by simp; omega
      have f2 : decide ((191 : Int) < ((t[k]'hks).toNat : Int)) = false := by simp; omega
      have w1 : IntKind.i32.wrap (64 * (r : Int)) = 64 * (r : Int) := i32_in _ (by omega)
      have w2 : IntKind.i32.wrap ((t[k]'hks).toNat : Int) = ((t[k]'hks).toNat : Int) := i32_in _ (by omega)
      have w3 : IntKind.i32.wrap (64 * (r : Int) + ((t[k]'hks).toNat : Int)) = 64 * (r : Int) + ((t[k]'hks).toNat : Int) := i32_in _ (by omega)
      have w4 : IntKind.i32.wrap (64 * (r : Int) + ((t[k]'hks).toNat : Int) - 128) = 64 * (r : Int) + ((t[k]'hks).toNat : Int) - 128 := i32_in _ (by omega)
      have HE := Lib.hid (show 64 * (r : Int) + ((t[k]'hks).toNat : Int) - 128 = ((Lx.rv 240 t.data.toList (k + 1) : Nat) : Int) by rw [HS.out]; omega)
      clear ek hck hrl
      go_wp2
      go_roundw
      case rel => exact ⟨k + 1, by omega, by omega, rfl, by rw [HE.out], (by first | rfl | exact trivial)⟩
      case measure => simp [intOf]; omega
    · obtain rfl : k = 4 := by omega
      obtain ⟨j1, j2⟩ := H4.out
      generalize Lx.rv 240 t.data.toList 4 = r at *
      have q1 : decide ((r : Int) < 65536) = false := by simp; omega
      have q2 : decide ((1114111 : Int) < (r : Int)) = false := by simp; omega
      go_wp2
      exact bodyPost_ret (v := .tuple #[.int .i32 r, .int .i64 4]) (by simp [results, Tryz.results36]) rfl ⟨⟨_, HR.out, rfl⟩, rfl⟩
theorem rpoint_any (t : ByteArray) (n : Nat) (w : World) (hn : n ≤ t.size) (h : Lx.GoodN n (Lx.bn t.data.toList 0) (Lx.bn t.data.toList 1) (Lx.bn t.data.toList 2) (Lx.bn t.data.toList 3)) : Calls Tryz.prog 36 #[.string t] w (PtPost n w) := by
  unfold Lx.GoodN at h
  rcases h with ⟨rfl, h⟩ | ⟨rfl, h1, h2, h3⟩ | ⟨rfl, h1, h2, h3, h4, h5, h6⟩ | ⟨rfl, h1, h2, h3, h4, h5, h6, h7⟩
  · exact rpoint_1 t w hn h
  · refine rpoint_2 t w hn ⟨h1, h2⟩ (fun k a b => ?_)
    obtain rfl : k = 1 := by omega
    exact h3
  · have hv : Lx.rv 224 t.data.toList 3 = Lx.c3 (Lx.bn t.data.toList 0) (Lx.bn t.data.toList 1) (Lx.bn t.data.toList 2) := by
      unfold Lx.c3; unfold Lx.cont at *; rw [Lx.rv3]; omega
    refine rpoint_3 t w hn ⟨h1, h2⟩ (fun k a b => ?_) (by rw [hv]; exact ⟨h5, h6⟩)
    have : k = 1 ∨ k = 2 := by omega
    rcases this with rfl | rfl
    · exact h3
    · exact h4
  · have hv : Lx.rv 240 t.data.toList 4 = Lx.c4 (Lx.bn t.data.toList 0) (Lx.bn t.data.toList 1) (Lx.bn t.data.toList 2) (Lx.bn t.data.toList 3) := by
      unfold Lx.c4; unfold Lx.cont at *; rw [Lx.rv4]; omega
    refine rpoint_4 t w hn ⟨h1, h2⟩ (fun k a b => ?_) (by rw [hv]; exact ⟨h6, h7⟩)
    have : k = 1 ∨ k = 2 ∨ k = 3 := by omega
    rcases this with rfl | rfl | rfl
    · exact h3
    · exact h4
    · exact h5
end Go.Proofs.YtcgibcjpkhefpaaGreatDoor

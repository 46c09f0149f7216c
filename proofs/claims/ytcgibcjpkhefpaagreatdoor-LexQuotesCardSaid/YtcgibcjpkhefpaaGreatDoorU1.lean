/-
  The program's Units (28): even (47), unit (48): the units of a text.
-/
import Derived.Test.YtcgibcjpkhefpaaGreatDoorU0
import Derived.Laws.BitsAllLaws
namespace Go.Proofs.YtcgibcjpkhefpaaGreatDoor
open Go.RowKit
theorem andNot_one (n : Nat) (h : n < 9223372036854775808) : bits .andNot .i64 (n : Int) 1 = ((n / 2 * 2 : Nat) : Int) := by
  have key : (BitVec.ofInt 64 (n : Int) &&& ~~~BitVec.ofInt 64 1).toNat = n / 2 * 2 := by
    rw [BitVec.toNat_and, BitVec.toNat_ofInt]
    have e : (~~~BitVec.ofInt 64 1).toNat = 18446744073709551614 := by decide
    rw [e, nat_hi64_1]
    omega
  show IntKind.i64.wrap ((BitVec.ofInt 64 (n : Int) &&& ~~~BitVec.ofInt 64 1).toNat : Int) = _
  rw [key]
  exact IntWalk.i64_in _ (by omega)
set_option maxHeartbeats 1000000 in
theorem even_any (s : ByteArray) (w : World) (hs : s.size ≤ 262144) :
    Calls Tryz.prog 47 #[.string s] w fun e w' => e = .returned (.string (s.extract 0 (s.size / 2 * 2))) ∧ w' = w := by
  have ha := andNot_one s.size (by omega)
  have h1 : ((s.size / 2 * 2 : Nat) : Int) ≤ s.size := by omega
  have h2 : s.size / 2 * 2 ≤ s.size := by omega
  obtain ⟨n, hn⟩ : ∃ n, s.size / 2 * 2 = n := ⟨_, rfl⟩
  rw [hn] at ha h1 h2 ⊢
  clear hn
  go_enter Tryz.func47, Tryz.ntmps47
  go_wp2
  go_ret
  exact ⟨rfl, rfl⟩
theorem u8_or (x y : Nat) (hx : x < 256) (hy : y < 256) : bits .or .u16 ((x : Int) * 256) (y : Int) = (x : Int) * 256 + y := by
  have := u16_or_nat (x * 256) y (by omega) (by omega)
  have e : ((x * 256 : Nat) : Int) = (x : Int) * 256 := by omega
  rw [e] at this
  rw [this]
  have h := Nat.two_pow_add_eq_or_of_lt (i := 8) (show y < 2 ^ 8 from hy) x
  have h2 : 2 ^ 8 * x = x * 256 := Nat.mul_comm _ _
  rw [h2] at h
  rw [← h]
  rfl
set_option maxHeartbeats 1000000 in
theorem unit_any (t : ByteArray) (i : Nat) (w : World) (hs : t.size ≤ 262144) (hi : 2 * i + 1 < t.size) :
    Calls Tryz.prog 48 #[.string t, .int .i64 i] w fun e w' => e = .returned (.int .u16 (((Lx.pk t.data.toList (2 * i)).toNat : Int) * 256 + (Lx.pk t.data.toList (2 * i + 1)).toNat)) ∧ ∃ k, w' = w.drewN k := by
  have p1 : Lx.pk t.data.toList (2 * i) = t[2 * i]'(by omega) := by simp [Lx.pk, (show 2 * i < t.size by omega)]; rfl
  have p2 : Lx.pk t.data.toList (2 * i + 1) = t[2 * i + 1]'(by omega) := by simp [Lx.pk, hi]; rfl
  rw [p1, p2]
  have ha := (t[2 * i]'(by omega)).toNat_lt
  have hb := (t[2 * i + 1]'(by omega)).toNat_lt
  have w1 : IntKind.u16.wrap ((t[2 * i]'(by omega)).toNat : Int) = ((t[2 * i]'(by omega)).toNat : Int) := u16_in _ (by omega)
  have w2 : IntKind.u16.wrap (((t[2 * i]'(by omega)).toNat : Int) * 256) = ((t[2 * i]'(by omega)).toNat : Int) * 256 := u16_in _ (by omega)
  have w3 : IntKind.u16.wrap ((t[2 * i + 1]'(by omega)).toNat : Int) = ((t[2 * i + 1]'(by omega)).toNat : Int) := u16_in _ (by omega)
  have w4 := u8_or _ _ ha hb
  have hm : IntKind.i64.wrap (2 * (i : Int)) = 2 * (i : Int) := IntWalk.i64_in _ (by omega)
  have hm1 : IntKind.i64.wrap (2 * (i : Int) + 1) = 2 * (i : Int) + 1 := IntWalk.i64_in _ (by omega)
  have ht : (2 * (i : Int)).toNat = 2 * i := by omega
  have ht1 : (2 * (i : Int) + 1).toNat = 2 * i + 1 := by omega
  have g0 : 0 ≤ 2 * (i : Int) := by omega
  have g1 : 0 ≤ 2 * (i : Int) + 1 := by omega
  have l0 : 2 * (i : Int) < t.size := by omega
  have l1 : 2 * (i : Int) + 1 < t.size := by omega
  clear p1 p2
  go_enter Tryz.func48, Tryz.ntmps48
  go_wp2
  go_quiet (fail)
  go_wp2
  go_ret
  exact ⟨by rfl, _, rfl⟩
end Go.Proofs.YtcgibcjpkhefpaaGreatDoor

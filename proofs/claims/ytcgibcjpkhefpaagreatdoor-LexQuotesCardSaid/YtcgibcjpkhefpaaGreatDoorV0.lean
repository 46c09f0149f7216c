/-
  A part of the proof: hexadecimal digits of a unit, and what Quote has written so far.
-/
import Derived.Test.YtcgibcjpkhefpaaGreatDoorU3
namespace Go.Proofs.YtcgibcjpkhefpaaGreatDoor
open Go.RowKit
theorem hex_at (n : Nat) (h : n < 16) : ((⟨#[48, 49, 50, 51, 52, 53, 54, 55, 56, 57, 97, 98, 99, 100, 101, 102]⟩ : ByteArray)[n]'(by exact h)) = Lx.hx n := by
  have : ∀ k : Fin 16, ((⟨#[48, 49, 50, 51, 52, 53, 54, 55, 56, 57, 97, 98, 99, 100, 101, 102]⟩ : ByteArray)[k.val]'(k.isLt)) = Lx.hx k.val := by decide
  exact this ⟨n, h⟩
/-- What is written so far. -/
def qs (us : List Nat) (j : Nat) : List UInt8 := 34 :: (us.take j).flatMap Lx.q1
theorem qs_len (us : List Nat) (j : Nat) : (qs us j).length ≤ 6 * us.length + 1 := by
  have := (Lx.flat_len (us.take j)).2
  have h := List.length_take_le j us
  have h2 : (us.take j).length ≤ us.length := List.length_take_le' _ _
  simp only [qs, List.length_cons]; omega
theorem qs_next {us : List Nat} {j u : Nat} (h : us[j]? = some u) : qs us (j + 1) = qs us j ++ Lx.q1 u := by
  unfold qs
  rw [List.take_add_one, h]
  simp
theorem qs_end (us : List Nat) : qs us us.length ++ [34] = Lx.quoteB us := by
  simp [qs, Lx.quoteB]
theorem cells_at (w : World) (c : Array Value) (e : TypeId) (q : Nat) : (w.alloc (.cells c e)).cell? ((⟨w.heap.size, 0, none⟩ : Addr).add q) = c[q]? := by
  rw [show (⟨w.heap.size, 0, none⟩ : Addr).add q = ⟨w.heap.size, q, none⟩ from by unfold Addr.add; split <;> simp_all, cellU (heap_alloc_new w _) q]
def hxV (n : Nat) (h : n < 16) : Value := .int .u8 (((⟨#[48, 49, 50, 51, 52, 53, 54, 55, 56, 57, 97, 98, 99, 100, 101, 102]⟩ : ByteArray)[n]'h).toNat : Int)
theorem hxV_eq (n : Nat) (h : n < 16) : hxV n h = u8V (Lx.hx n) := by unfold hxV u8V; rw [hex_at n h]
theorem and15 (u k : Nat) (hu : u < 65536) (_hk : 0 < k) : bits .and .u16 ((u : Int) / (k : Int)) 15 = ((u / k % 16 : Nat) : Int) := by
  have h1 : u / k ≤ u := Nat.div_le_self _ _
  have := u16_and_nat (u / k) 15 (by omega) (by decide)
  have e : ((u / k : Nat) : Int) = (u : Int) / (k : Int) := by simp
  rw [e] at this
  have e2 : u / k &&& 15 = u / k % 16 := Nat.and_two_pow_sub_one_eq_mod _ 4
  rw [e2] at this
  exact this
theorem and15' (u : Nat) (hu : u < 65536) : bits .and .u16 (u : Int) 15 = ((u % 16 : Nat) : Int) := by
  have := u16_and_nat u 15 hu (by decide)
  rw [Nat.and_two_pow_sub_one_eq_mod u 4] at this
  exact this
theorem hex_parts {u : Nat} (hu : u < 65536) (hq : Lx.q1 u = [92, 117, Lx.hx (u / 4096 % 16), Lx.hx (u / 256 % 16), Lx.hx (u / 16 % 16), Lx.hx (u % 16)]) :
    ∃ a b c d : Nat, ∃ (ha : a < 16) (hb : b < 16) (hc : c < 16) (hd : d < 16), (u : Int) / 4096 = (a : Int) ∧ bits .and .u16 ((u : Int) / 256) 15 = (b : Int) ∧ bits .and .u16 ((u : Int) / 16) 15 = (c : Int) ∧ bits .and .u16 (u : Int) 15 = (d : Int) ∧
      [Value.int .u8 92, .int .u8 117, hxV a ha, hxV b hb, hxV c hc, hxV d hd] = (Lx.q1 u).map u8V ∧ 6 = (Lx.q1 u).length := by
  refine ⟨u / 4096, u / 256 % 16, u / 16 % 16, u % 16, by omega, by omega, by omega, by omega, by omega, and15 u 256 hu (by decide), and15 u 16 hu (by decide), and15' u hu, ?_, by rw [hq]; rfl⟩
  rw [hq, hxV_eq, hxV_eq, hxV_eq, hxV_eq, show u / 4096 % 16 = u / 4096 by omega]
  rfl
end Go.Proofs.YtcgibcjpkhefpaaGreatDoor

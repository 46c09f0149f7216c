/-
  A part of the proof: how many digits stand from a place on.
-/
import Derived.Test.YtcgibcjpkhefpaaGreatDoorW21
namespace Go.Lx
theorem run_end {l : List UInt8} {n p : Nat} (h : l.length ≤ p) : run l n p = 0 := by simp [run, List.drop_eq_nil_of_le h]
theorem run_no {l : List UInt8} {n p : Nat} (hp : p < l.length) (h : ¬ worth l[p] < n) : run l n p = 0 := by
  rw [run, List.drop_eq_getElem_cons hp, List.takeWhile_cons]
  simp [h]
theorem run_yes {l : List UInt8} {n p : Nat} (hp : p < l.length) (h : worth l[p] < n) : run l n p = run l n (p + 1) + 1 := by
  rw [run, List.drop_eq_getElem_cons hp, List.takeWhile_cons]
  simp [h, run]
theorem run_le {l : List UInt8} {n p : Nat} : run l n p ≤ l.length - p := by
  have := List.Sublist.length_le (List.takeWhile_sublist (fun c => decide (worth c < n)) (l := l.drop p))
  simpa [run] using this
end Go.Lx
namespace Go.Proofs.YtcgibcjpkhefpaaGreatDoor
open Go.RowKit
set_option maxHeartbeats 2000000 in
set_option maxRecDepth 100000 in
theorem run_any (t : ByteArray) (p n k : Nat) (w : World) (ht : t.size ≤ 262144) (hp : p ≤ 262145) (h : w.cell? ⟨k, 0, none⟩ = some (.int .i64 n)) :
    Calls Tryz.prog 99 #[.string t, .int .i64 p, .func (.func 119) #[] #[.pointer (some ⟨k, 0, none⟩)]] w fun e w' => e = .returned (.int .i64 (Lx.run t.data.toList n p)) ∧ ∃ m, w' = w.drewN m := by
  have hlen : t.data.toList.length = t.size := by simp
  go_enter Tryz.func99, Tryz.ntmps99
  go_wp2
  go_loopw [7] (fun i wr => ∃ j m : Nat, i = .int .i64 j ∧ wr = w.drewN m ∧ j ≤ t.size ∧ Lx.run t.data.toList n (p + j) + j = Lx.run t.data.toList n p) (fun i _ => t.size - (intOf i).toNat)
  case atStart => exact ⟨0, 0, rfl, rfl, by omega, by simp⟩
  case round =>
    obtain ⟨j, m, rfl, rfl, hj, hr⟩ := hrel
    have HR := Lib.hid hr
    clear hr
    by_cases hlt : p + j < t.size
    · have hc : ∃ c, t.data.toList[p + j]? = some c := ⟨_, List.getElem?_eq_getElem (by omega)⟩
      have hcell : (w.drewN m).cell? ⟨k, 0, none⟩ = some (.int .i64 n) := h
      have hg : decide ((p : Int) + j < t.size) = true := by simp; omega
      go_wp2_with fail
      refine (digitsOf1_any n _ k _ hcell).mono ?_
      rintro e w1 ⟨rfl, m1, rfl⟩
      have hel : (t[p + j]'hlt) = t.data.toList[p + j]'(by omega) := by simp; rfl
      by_cases hw : Lx.worth (t[p + j]'hlt) < n
      · have hwb : decide (Lx.worth (t[p + j]'hlt) < n) = true := by simpa using hw
        have hs := Lx.run_yes (l := t.data.toList) (p := p + j) (by omega) (by rw [← hel]; exact hw)
        go_wp2_with fail
        go_roundw
        case rel => exact ⟨j + 1, _, by simp, rfl, by omega, by have := HR.out; rw [show p + (j + 1) = p + j + 1 from rfl]; omega⟩
        case measure => simp [intOf]; omega
      · have hwb : decide (Lx.worth (t[p + j]'hlt) < n) = false := by simpa using hw
        have hs := Lx.run_no (l := t.data.toList) (p := p + j) (by omega) (by rw [← hel]; exact hw)
        go_wp2
        go_ret
        have := HR.out
        exact ⟨congrArg (fun z => Ending.returned (.int .i64 z)) (by omega), _, rfl⟩
    · have hg : decide ((p : Int) + j < t.size) = false := by simp; omega
      have hs := Lx.run_end (l := t.data.toList) (n := n) (p := p + j) (by omega)
      go_wp2
      go_ret
      have := HR.out
      exact ⟨congrArg (fun z => Ending.returned (.int .i64 z)) (by omega), _, rfl⟩
end Go.Proofs.YtcgibcjpkhefpaaGreatDoor

/-
  A part of the proof: the reference's Among.
-/
import Derived.Test.YtcgibcjpkhefpaaGreatDoorW28
namespace Go.Proofs.YtcgibcjpkhefpaaGreatDoor
open Go.RowKit
theorem toList_eq (s : ByteArray) : s.toList = s.data.toList := Lib.toList_data s
set_option maxHeartbeats 2000000 in
set_option maxRecDepth 100000 in
theorem among_any (g n cap : Nat) (ws : List (List UInt8)) (s : ByteArray) (w : World) (hn : ws.length = n) (hc : n ≤ cap) (hn4 : n ≤ 262144) (hx : ∀ i u, ws[i]? = some u → w.cell? ⟨g, i, none⟩ = some (.string ⟨u.toArray⟩)) :
    Calls Tryz.prog 16 #[.slice (some ⟨g, 0, none⟩) n cap, .string s] w fun e w' => e = .returned (.bool (ws.contains s.data.toList)) ∧ ∃ k, w' = w.drewN k := by
  go_enter Tryz.func16, Tryz.ntmps16
  go_wp2
  go_loopw [9] (fun i wr => ∃ j k : Nat, i = .int .i64 j ∧ wr = w.drewN k ∧ j ≤ n ∧ ∀ q < j, ws[q]? ≠ some s.data.toList) (fun i _ => n - (intOf i).toNat)
  case atStart => exact ⟨0, 0, rfl, rfl, by omega, fun q h => by omega⟩
  case round =>
    obtain ⟨j, k, rfl, rfl, hj, hr⟩ := hrel
    have HR := Lib.hid hr
    clear hr
    by_cases hlt : j < n
    · have hu := hx j _ (List.getElem?_eq_getElem (by omega))
      have hadd : (⟨g, 0, none⟩ : Addr).add j = ⟨g, j, none⟩ := by unfold Addr.add; split <;> simp_all
      have hst : s.toList = s.data.toList := toList_eq s
      cases hb : (ws[j]'(by omega) == s.data.toList) with
      | true =>
        have hb' := hb
        simp only [beq_iff_eq] at hb'
        go_wp2
        refine bodyPost_ret (v := .bool true) (by simp [results, Tryz.results16]) rfl ⟨ret_bool ?_, k, rfl⟩
        rw [← hb']; symm; simp
      | false =>
        have hb' := hb
        simp only [beq_eq_false_iff_ne, ne_eq] at hb'
        go_wp2
        refine ⟨⟨j + 1, k, by simp, rfl, by omega, fun q hq => ?_⟩, by simp [intOf]; omega⟩
        rcases Nat.lt_succ_iff_lt_or_eq.1 hq with hq | rfl
        · exact HR.out q hq
        · rw [List.getElem?_eq_getElem (by omega)]; simpa using hb'
    · go_wp2
      refine bodyPost_ret (v := .bool false) (by simp [results, Tryz.results16]) rfl ⟨ret_bool ?_, k, rfl⟩
      symm
      rw [Bool.eq_false_iff]
      intro h
      obtain ⟨q, hq⟩ := List.getElem?_of_mem (by simpa using h)
      exact HR.out q (by have := (List.getElem?_eq_some_iff.1 hq).1; omega) hq
end Go.Proofs.YtcgibcjpkhefpaaGreatDoor

/-
  A part of the proof: the reference's Word.
-/
import Derived.Test.YtcgibcjpkhefpaaGreatDoorW31
namespace Go.Proofs.YtcgibcjpkhefpaaGreatDoor
open Go.RowKit
set_option maxHeartbeats 2000000 in
set_option maxRecDepth 100000 in
theorem rword_any (s : ByteArray) (w : World) : Calls Tryz.prog 8 #[.string s] w fun e w' => e = .returned (.bool (wordList.contains s.data.toList)) ∧ Below w.heap.size w w' := by
  have hwl : wordList.length ≤ 262144 := by decide +kernel
  have hwl0 : 0 < wordList.length := by decide +kernel
  go_enter Tryz.func8, Tryz.ntmps8
  go_wp2_with fail
  refine (words_any _).mono ?_
  rintro e w1 ⟨v, rfl, ho, hb⟩
  obtain ⟨g, cap, cur, rfl, hg, hh, hc1, hc2, hc3, hc4⟩ : ∃ g cap cur, v = .slice (some ⟨g, 0, none⟩) wordList.length cap ∧ _ := by
    rcases ho.2 with ⟨_, h0⟩ | h
    · omega
    · exact h
  go_wp2_with fail
  refine (among_any g wordList.length cap wordList s _ rfl hc1 hwl (fun i u hi => ?_)).mono ?_
  · rw [cellN hh i]
    have hil : i < wordList.length := (List.getElem?_eq_some_iff.1 hi).1
    have h1 : (cur.toList.take (wordList.length * 1))[i]? = some (.string ⟨u.toArray⟩) := by rw [hc4, List.getElem?_map, hi]; rfl
    rw [List.getElem?_take_of_lt (by omega)] at h1
    simpa using h1
  rintro e w2 ⟨rfl, k, rfl⟩
  go_wp2
  exact bodyPost_ret (v := .bool (wordList.contains s.data.toList)) (by simp [results, Tryz.results8]) rfl ⟨rfl, ((Kf.of_below (fun _ _ => False) hb).drewN k).below (Nat.le_refl _) (fun _ _ h => h.elim)⟩
end Go.Proofs.YtcgibcjpkhefpaaGreatDoor

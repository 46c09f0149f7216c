/-
  A part of the proof: the reference's Words.
-/
import Derived.Test.YtcgibcjpkhefpaaGreatDoorW30
namespace Go.Proofs.YtcgibcjpkhefpaaGreatDoor
open Go.RowKit
/-- The reference's words. -/
def wordList : List (List UInt8) := splitGo Lx.words [] []
theorem words_call (t : ByteArray) (ht : splitGo t.data.toList [] [] = wordList ∧ t.size ≤ 262144 ∧ ∀ b ∈ t.data.toList, b.toNat < 128) (w : World) :
    Calls Tryz.prog 31 #[.string t] w fun e w' => ∃ v, e = .returned v ∧ w'.ownsRow w.heap.size 9 1 v wordList.length (wordList.map fun l => Value.string ⟨l.toArray⟩) ∧ Below w.heap.size w w' := by
  have := list_any t w ht.2.1 ht.2.2
  rw [ht.1] at this
  exact this
set_option maxHeartbeats 2000000 in
set_option maxRecDepth 100000 in
theorem words_any (w : World) : Calls Tryz.prog 17 #[] w fun e w' => ∃ v, e = .returned v ∧ w'.ownsRow w.heap.size 9 1 v wordList.length (wordList.map fun l => Value.string ⟨l.toArray⟩) ∧ Below w.heap.size w w' := by
  go_enter Tryz.func17, Tryz.ntmps17
  go_wp2_with fail
  refine (words_call _ (by decide +kernel) _).mono ?_
  rintro e w1 ⟨v, rfl, ho, hb⟩
  go_wp2
  exact bodyPost_ret (v := v) (by simp [results, Tryz.results17]) rfl ⟨_, rfl, ho, hb⟩
end Go.Proofs.YtcgibcjpkhefpaaGreatDoor

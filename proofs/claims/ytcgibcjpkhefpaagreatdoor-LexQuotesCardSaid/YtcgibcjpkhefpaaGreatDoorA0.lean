/-
  A part of the proof: what the laws ask of the memory that they begin in.
-/
import Derived.Test.YtcgibcjpkhefpaaGreatDoorW34
namespace Go.Proofs.YtcgibcjpkhefpaaGreatDoor
open Go.RowKit
/-- What the laws ask of the memory that they begin in. -/
structure Ready (w : World) : Prop where
  max : MaxOk w
  fv : FvOk w
  tab : ∀ w', Below w.heap.size w w' → Lib.TabIs Tryz.prog w' "strings.asciiSpace" .u8 Lib.asciiSpaceTab
theorem Ready.max_at {w0 w : World} (h : Ready w0) (hb : Below w0.heap.size w0 w) : ∃ m, w.cell? ⟨1, 0, none⟩ = some (.int .i64 m) := by
  obtain ⟨h1, m, hm⟩ := h.max
  exact ⟨m, by rw [hb.cell (p := ⟨1, 0, none⟩) h1]; exact hm⟩
theorem drew_below (w : World) (k : Nat) : Below w.heap.size w (w.drewN k) := ((Kf.refl (fun _ _ => False) w).drewN k).below (Nat.le_refl _) (fun _ _ h => h.elim)
end Go.Proofs.YtcgibcjpkhefpaaGreatDoor

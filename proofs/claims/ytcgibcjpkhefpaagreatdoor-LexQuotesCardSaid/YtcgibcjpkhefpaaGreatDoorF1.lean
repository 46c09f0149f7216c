/-
  strconv.ParseFloat at the one text "0.15e1": the fast road: 15 / 10.
-/
import Derived.Test.YtcgibcjpkhefpaaGreatDoorF0
namespace Go.Proofs.YtcgibcjpkhefpaaGreatDoor
open Go.RowKit
/-- What the laid variables of internal/strconv hold, as far as the fast road reads them. -/
structure FvOk (w : World) : Prop where
  opt : w.cell? ⟨10, 0, none⟩ = some (.bool true)
  inf : w.cell? ⟨11, 0, none⟩ = some (.int .u64 52)
  tab : ∃ g o c, w.cell? ⟨16, 0, none⟩ = some (.slice (some ⟨g, o, none⟩) 23 c) ∧ g < w.heap.size ∧ w.cell? ⟨g, o + 1, none⟩ = some (.float .f64 4621819117588971520)
  sz : 16 < w.heap.size
theorem FvOk.below {w w' : World} {B : Nat} (h : FvOk w) (hb : Below B w w') (hB : w.heap.size ≤ B) : FvOk w' := by
  obtain ⟨g, o, c, h1, h2, h3⟩ := h.tab
  have hz := h.sz
  refine ⟨?_, ?_, ⟨g, o, c, ?_, ?_, ?_⟩, ?_⟩
  · rw [hb.cell (p := ⟨10, 0, none⟩) (by simp; omega)]; exact h.opt
  · rw [hb.cell (p := ⟨11, 0, none⟩) (by simp; omega)]; exact h.inf
  · rw [hb.cell (p := ⟨16, 0, none⟩) (by simp; omega)]; exact h1
  · have := hb.size; omega
  · rw [hb.cell (p := ⟨g, o + 1, none⟩) (by simp; omega)]; exact h3
  · have := hb.size; omega
set_option maxHeartbeats 4000000 in
set_option maxRecDepth 100000 in
theorem exact_015 (w : World) (hF : FvOk w) : Calls Tryz.prog 177 #[.int .u64 15, .int .i64 (-1), .bool false] w fun e w' => e = .returned (.tuple #[.float .f64 4609434218613702656, .bool true]) ∧ ∃ m, w' = w.drewN m := by
  have hi := hF.inf
  obtain ⟨g, o, c, h1, _, h3⟩ := hF.tab
  clear hF
  have hfi : floatOfInt FloatKind.f64 15 = 4624633867356078080 := by decide +kernel
  have hq : ∀ w, (binOp BinOp.quo 29 (Value.float FloatKind.f64 4624633867356078080) (Value.float FloatKind.f64 4621819117588971520)).run Tryz.prog w = .ok (Value.float FloatKind.f64 4609434218613702656) w := by
    intro w
    have hd : FloatKind.f64.format.div 4624633867356078080 4621819117588971520 = some 4609434218613702656 := by decide +kernel
    simp [binOp, go_sem]
    unfold Op.floatArith
    simp only [hd]
    rfl
  go_enter Tryz.func177, Tryz.ntmps177
  go_wp2
  exact bodyPost_ret (v := .tuple #[.float .f64 4609434218613702656, .bool true]) (by simp [results, Tryz.results177]) rfl ⟨rfl, 0, rfl⟩
end Go.Proofs.YtcgibcjpkhefpaaGreatDoor

/-
  A part of the proof: digits.Literal at the text 1.5.
-/
import Derived.Test.YtcgibcjpkhefpaaGreatDoorW24
namespace Go.Proofs.YtcgibcjpkhefpaaGreatDoor
open Go.RowKit
/-- What strconv.ParseFloat answers at 0.15e1. -/
def Pf15 (w0 : World) : Prop := ∀ w1, Below w0.heap.size w0 w1 → Calls Tryz.prog 84 #[.string ⟨#[48, 46, 49, 53, 101, 49]⟩, .int .i64 64] w1 fun e w' => e = .returned (.tuple #[.float .f64 4609434218613702656, .nilIface]) ∧ Below w1.heap.size w1 w'
set_option maxHeartbeats 4000000 in
set_option maxRecDepth 100000 in
theorem literal_15 (w0 w : World) (hM : MaxOk w0) (hG : Below w0.heap.size w0 w) (hPF : Pf15 w0) :
    Calls Tryz.prog 79 #[.string t15] w fun e w' => e = .returned (.tuple #[.float .f64 4609434218613702656, .int .i64 3, .int .i64 0]) ∧ Below w.heap.size w w' := by
  obtain ⟨h1, m, hm⟩ := hM
  have hsl : t15.extract 0 3 = t15 := by decide +kernel
  have hsz := hG.size
  go_enter Tryz.func79, Tryz.ntmps79
  go_wp2_with fail
  refine (prefix_15 _).mono ?_
  rintro e w1 ⟨rfl, m1, rfl⟩
  go_wp2_with fail
  refine (decimal_15 _).mono ?_
  rintro e w1 ⟨rfl, hb⟩
  have hb1 : Below w.heap.size w w1 := ((Kf.refl (fun _ _ => False) w).drewN m1 |>.below (Nat.le_refl _) (fun _ _ h => h.elim)).trans hb
  have hG1 : Below w0.heap.size w0 w1 := hG.trans (hb1.mono hsz)
  have hsz1 := hG1.size
  go_wp2_with fail
  refine (float_15 w1 m (by omega) (by rw [hG1.cell (p := ⟨1, 0, none⟩) h1]; exact hm) (fun w2 h2 => hPF w2 (hG1.trans (h2.mono hsz1)))).mono ?_
  rintro e w2 ⟨rfl, hb2⟩
  go_wp2
  exact bodyPost_ret (v := .tuple #[.float .f64 4609434218613702656, .int .i64 3, .int .i64 0]) (by simp [results, Tryz.results79]) rfl ⟨rfl, hb1.trans (hb2.mono hb1.size)⟩
end Go.Proofs.YtcgibcjpkhefpaaGreatDoor

/-
  A part of the proof: the value of the text 1.5.
-/
import Derived.Test.YtcgibcjpkhefpaaGreatDoorW23
namespace Go.Proofs.YtcgibcjpkhefpaaGreatDoor
open Go.RowKit
theorem signed_none (w : World) : Calls Tryz.prog 123 #[.string ⟨#[]⟩] w fun e w' => e = .returned (.tuple #[.float .f64 4607182418800017408, .string ⟨#[]⟩]) ∧ ∃ m, w' = w.drewN m := by
  go_enter Tryz.func123, Tryz.ntmps123
  go_wp2_with fail
  refine (Tryz.strings_TrimPrefix _ _ _).mono ?_
  rintro e w1 ⟨rfl, rfl⟩
  go_wp2
  exact bodyPost_ret (v := .tuple #[.float .f64 4607182418800017408, .string ⟨#[]⟩]) (by rw [show Lib.trimPrefix [] [43] = [] by decide +kernel]; simp [results, Tryz.results123]) rfl ⟨rfl, 0, rfl⟩
theorem conv_one (w : World) : (convert 29 3 (.float .f64 4607182418800017408)).run Tryz.prog w = .ok (.int .i64 1) w := by
  simp [convert, go_sem]
  have h : (FloatKind.f64.decode 4607182418800017408).toInt .zero = some 1 := by decide +kernel
  unfold Conv.floatToInt
  rw [h]
  rfl
set_option maxHeartbeats 4000000 in
set_option maxRecDepth 100000 in
theorem float_15 (w : World) (m : Int) (h1 : 1 < w.heap.size) (hm : w.cell? ⟨1, 0, none⟩ = some (.int .i64 m))
    (hPF : ∀ w1, Below w.heap.size w w1 → Calls Tryz.prog 84 #[.string ⟨#[48, 46, 49, 53, 101, 49]⟩, .int .i64 64] w1 fun e w' => e = .returned (.tuple #[.float .f64 4609434218613702656, .nilIface]) ∧ Below w1.heap.size w1 w') :
    Calls Tryz.prog 104 #[.string t15] w fun e w' => e = .returned (.float .f64 4609434218613702656) ∧ Below w.heap.size w w' := by
  have hA : ∀ b ∈ t15.data.toList, b.toNat < 128 := by decide
  go_enter Tryz.func104, Tryz.ntmps104
  go_wp2_with fail
  refine (Tryz.strings_IndexAny_short t15 ⟨#[101, 69]⟩ _ (by decide) (by decide) (fun j b hb => hA b (List.mem_of_getElem? hb))).mono ?_
  rintro e w1 ⟨rfl, pos, rfl⟩
  rw [show Lib.indexAny t15.data.toList (⟨#[101, 69]⟩ : ByteArray).data.toList = -1 by decide +kernel]
  have hb1 : Below w.heap.size w (w.iter t15 pos) := (Below.refl _ _).alloc (Nat.le_refl _) _
  go_wp2_with fail
  refine (Tryz.strings_Cut t15 ⟨#[46]⟩ m _ (by decide) (by rw [hb1.cell (p := ⟨1, 0, none⟩) h1]; exact hm)).mono ?_
  rintro e w1 ⟨rfl, n1, rfl⟩
  rw [show Lib.cut t15.data.toList (⟨#[46]⟩ : ByteArray).data.toList = ([49], [53], true) by decide +kernel]
  go_wp2_with fail
  refine (Tryz.strings_TrimLeft_one _ 48 (by decide) _).mono ?_
  rintro e w1 ⟨rfl, rfl⟩
  rw [show Lib.trimLeftB ((⟨#[49]⟩ : ByteArray) ++ ⟨#[53]⟩).data.toList 48 = [49, 53] by decide +kernel]
  go_wp2_with fail
  refine (signed_none _).mono ?_
  rintro e w1 ⟨rfl, n2, rfl⟩
  go_wp2
  have hit : (((w.iter t15 pos).drewN (n1 + n2)).iter ⟨#[]⟩ 0).heap[(w.iter t15 pos).heap.size]? = some (.stringIter ⟨#[]⟩ 0) := World.iter_heap ((w.iter t15 pos).drewN (n1 + n2)) ⟨#[]⟩ 0
  have hb2 : Below w.heap.size w (((w.iter t15 pos).drewN (n1 + n2)).iter ⟨#[]⟩ 0) := ((((Kf.refl (fun _ _ => False) w).alloc (.stringIter t15 pos)).drewN (n1 + n2)).alloc (.stringIter ⟨#[]⟩ 0)).below (Nat.le_refl _) (fun _ _ h => h.elim)
  go_loopw [10] (fun x wr => x = .int .i64 0 ∧ wr = ((w.iter t15 pos).drewN (n1 + n2)).iter ⟨#[]⟩ 0) (fun _ _ => 0)
  case atStart => exact ⟨rfl, rfl⟩
  case round =>
    obtain ⟨rfl, rfl⟩ := hrel
    have hnx : ∀ ty, (Instr.next (.pointer (some ⟨(w.iter t15 pos).heap.size, 0, none⟩)) true ty).run Tryz.prog _ = _ := fun ty => Lib.run_next_end_at _ (w.iter t15 pos).heap.size ⟨#[]⟩ 0 ty hit (by decide)
    generalize ((w.iter t15 pos).drewN (n1 + n2)).iter ⟨#[]⟩ 0 = W at *
    have hcv := conv_one W
    go_wp2_with fail
    refine (Tryz.strconv_Itoa_small 1 (by omega) W).mono ?_
    rintro e w1 ⟨rfl, rfl⟩
    rw [show Lib.decDigits 1 = [49] by decide +kernel]
    go_wp2_with fail
    rw [show (((⟨#[48, 46]⟩ : ByteArray) ++ ⟨#[49, 53]⟩) ++ ⟨#[101]⟩) ++ ⟨[49].toArray⟩ = ⟨#[48, 46, 49, 53, 101, 49]⟩ from by decide +kernel]
    refine (hPF _ hb2).mono ?_
    rintro e w1 ⟨rfl, hb3⟩
    go_wp2
    go_ret
    exact ⟨rfl, hb2.trans (hb3.mono hb2.size)⟩
end Go.Proofs.YtcgibcjpkhefpaaGreatDoor

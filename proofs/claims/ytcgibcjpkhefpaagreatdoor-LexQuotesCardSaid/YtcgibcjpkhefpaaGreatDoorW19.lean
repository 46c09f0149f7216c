/-
  A part of the proof: units.Of at a text of bytes below 128.
-/
import Derived.Test.YtcgibcjpkhefpaaGreatDoorW18
namespace Go.Proofs.YtcgibcjpkhefpaaGreatDoor
open Go.RowKit
theorem dec_ascii (s : ByteArray) (pos : Nat) (h : pos < s.size) (ha : ∀ b ∈ s.data.toList, b.toNat < 128) : ∃ r, Utf8.decode s pos = (r, 1) ∧ r < 128 := by
  have hb : (s.get! pos).toNat < 128 := by
    have e : s.get! pos = s.data[pos]'h := by
      simp only [ByteArray.get!]
      exact getElem!_pos s.data pos h
    rw [e]
    exact ha _ (by simp)
  refine ⟨(s.get! pos).toNat, ?_, hb⟩
  unfold Utf8.decode
  simp [hb]
set_option maxHeartbeats 4000000 in
set_option maxRecDepth 100000 in
theorem units_ascii (s : ByteArray) (w : World) (ha : ∀ b ∈ s.data.toList, b.toNat < 128) (hs : s.size ≤ 262144) :
    Calls Tryz.prog 32 #[.string s] w fun e w' => (∃ X, e = .returned (.tuple #[.string X, .int .i64 0, .int .i64 0])) ∧ Below w.heap.size w w' := by
  have hdec := fun pos h => dec_ascii s pos h ha
  go_enter Tryz.func32, Tryz.ntmps32
  go_wp2
  go_loopw [] (fun wr => ∃ (q : Nat) (l : List UInt8), q ≤ s.size ∧ l.length ≤ 4 * q ∧ wr.heap[w.heap.size + 1]? = some (.stringIter s q) ∧ Bld w.heap.size w.heap.size l wr ∧ Below w.heap.size w wr) (fun wr => s.size - wr.iterPos (w.heap.size + 1))
  case atStart =>
    refine ⟨0, [], by omega, by simp, ?_, (bld_fresh w).alloc _, ((Below.refl _ _).alloc (Nat.le_refl _) _).alloc (by simp) _⟩
    have h2 := heap_alloc_new (w.alloc (.cells #[.pointer none, .slice none 0 0] 80)) (.stringIter s 0)
    rw [show (w.alloc (.cells #[.pointer none, .slice none 0 0] 80)).heap.size = w.heap.size + 1 by simp] at h2
    exact h2
  case round =>
    obtain ⟨q, l, hq, hl, hit, hB, hW⟩ := hrel
    have HM := Lib.hid (show wr.iterPos (w.heap.size + 1) = q by simp only [World.iterPos, hit])
    by_cases hlt : q < s.size
    · obtain ⟨r, hr, hr1⟩ := hdec q hlt
      have hnx : ∀ ty, (Instr.next (.pointer (some ⟨w.heap.size + 1, 0, none⟩)) true ty).run Tryz.prog wr = _ := fun ty => Lib.run_next_any_at wr (w.heap.size + 1) s q ty hit hlt
      rw [hr] at hnx
      simp only at hnx
      have HB1 := Lib.hid (hB.iterAt hit (q + 1))
      have HI1 := Lib.hid (Lib.iterAt_heap wr (w.heap.size + 1) s q (q + 1) hit)
      clear hB hit
      have h65 : ((r : Int) == 65533) = false := by simp; omega
      go_wp2_with fail
      refine (point_any (r : Int) (by omega) (by omega) _).mono ?_
      rintro e w1 ⟨rfl, hb⟩
      rw [Int.toNat_natCast]
      have HB2 := Lib.hid (HB1.out.keep hb)
      have HI2 := Lib.hid ((hb.block _ (lt_of_heap HI1.out)).trans HI1.out)
      go_wp2_with fail
      refine (bld_str _ HB2.out (by have := Lx.pointB_len r; simp [ByteArray.size]; omega)).mono ?_
      rintro e w2 ⟨rfl, hW2⟩
      have HW := Lib.hid hW2
      go_wp2_with fail
      go_roundw
      case rel =>
        refine ⟨q + 1, l ++ Lx.pointB r, by omega, ?_, HW.out.2.2.iter HI2.out (by omega), by simpa using HW.out.1, ?_⟩
        · have := Lx.pointB_len r
          simp; omega
        · refine Below.trans ?_ HW.out.2.1
          refine Below.trans ?_ (hb.mono ?_)
          · exact ((Kf.of_below (fun _ _ => False) hW).iterNew (by omega) s (q + 1)).below (Nat.le_refl _) (fun _ _ h => h.elim)
          · rw [Lib.iterAt_size]; exact hW.size
      case measure =>
        rw [HM.out]
        simp only [World.iterPos, HW.out.2.2.iter HI2.out (show w.heap.size + 1 ≠ w.heap.size by omega)]
        omega
    · have hnx : ∀ ty, (Instr.next (.pointer (some ⟨w.heap.size + 1, 0, none⟩)) true ty).run Tryz.prog wr = _ := fun ty => Lib.run_next_end_at wr (w.heap.size + 1) s q ty hit (by omega)
      go_wp2_with fail
      refine (bld_end hB).mono ?_
      rintro e w2 ⟨rfl, hW2⟩
      go_wp2
      exact bodyPost_ret (v := .tuple #[.string ⟨l.toArray⟩, .int .i64 0, .int .i64 0]) (by simp [results, Tryz.results32]) rfl ⟨⟨_, rfl⟩, hW.trans hW2.2.1⟩
end Go.Proofs.YtcgibcjpkhefpaaGreatDoor

/-
  units.Of at any text: a place of an error, or the text is UTF-8.
-/
import Derived.Test.YtcgibcjpkhefpaaGreatDoorZA
import Derived.Test.YtcgibcjpkhefpaaGreatDoorZK
namespace Go.Proofs.YtcgibcjpkhefpaaGreatDoor
open Go.RowKit
/-- The two tables of unicode/utf8, whatever else happens. -/
def UtOk (w0 : World) : Prop := ∀ w, Below w0.heap.size w0 w → Lib.Utf8Tabs 3 4 w
def OfPost (s : ByteArray) (w : World) (e : Ending) (w' : World) : Prop :=
  Below w.heap.size w w' ∧ ((∃ X, e = .returned (.tuple #[.string X, .int .i64 0, .int .i64 0]) ∧ Lx.Chain s.data.toList 0 s.data.toList.length) ∨ ∃ a : Nat, e = .returned (.tuple #[.string ⟨#[]⟩, .int .i64 a, .int .i64 10]))
set_option maxHeartbeats 4000000 in
set_option maxRecDepth 100000 in
theorem units_cov (s : ByteArray) (w0 w : World) (hU : UtOk w0) (hG : Below w0.heap.size w0 w) (hs : s.size ≤ 262144) :
    Calls Tryz.prog 32 #[.string s] w (OfPost s w) := by
  have hlen : s.data.toList.length = s.size := by simp
  have HU := Lib.hid hU
  have HG := Lib.hid hG
  clear hU hG
  go_enter Tryz.func32, Tryz.ntmps32
  go_wp2
  go_loopw [] (fun wr => ∃ (q : Nat) (l : List UInt8), q ≤ s.size ∧ l.length ≤ 4 * q ∧ wr.heap[w.heap.size + 1]? = some (.stringIter s q) ∧ Bld w.heap.size w.heap.size l wr ∧ Below w.heap.size w wr ∧ Lx.Chain s.data.toList 0 q) (fun wr => s.size - wr.iterPos (w.heap.size + 1))
  case atStart =>
    refine ⟨0, [], by omega, by simp, ?_, (bld_fresh w).alloc _, ((Below.refl _ _).alloc (Nat.le_refl _) _).alloc (by simp) _, .done _⟩
    have h2 := heap_alloc_new (w.alloc (.cells #[.pointer none, .slice none 0 0] 80)) (.stringIter s 0)
    rw [show (w.alloc (.cells #[.pointer none, .slice none 0 0] 80)).heap.size = w.heap.size + 1 by simp] at h2
    exact h2
  case round =>
    obtain ⟨q, l, hq, hl, hit, hB, hW, hC⟩ := hrel
    have HM := Lib.hid (show wr.iterPos (w.heap.size + 1) = q by simp only [World.iterPos, hit])
    have HC := Lib.hid hC
    clear hC
    by_cases hlt : q < s.size
    · obtain ⟨r, n, hr⟩ : ∃ r n, Utf8.decode s q = (r, n) := ⟨_, _, rfl⟩
      obtain ⟨hr1, hn1, hn2⟩ := Lx.dec_rng s q r n hlt hr
      have HGD := Lib.hid (fun h => Lx.good_dec s q r n hlt hr h)
      have HDX := Lib.hid (show Lib.decodeGo (s.extract q s.size) = (r, n) by rw [Lx.decode_ext s q hlt, hr])
      have hnx : ∀ ty, (Instr.next (.pointer (some ⟨w.heap.size + 1, 0, none⟩)) true ty).run Tryz.prog wr = _ := fun ty => Lib.run_next_any_at wr (w.heap.size + 1) s q ty hit hlt
      rw [hr] at hnx
      simp only at hnx
      have HB1 := Lib.hid (hB.iterAt hit (q + n))
      have HI1 := Lib.hid (Lib.iterAt_heap wr (w.heap.size + 1) s q (q + n) hit)
      have HBW := Lib.hid (show Below w.heap.size w (wr.iterAt (w.heap.size + 1) s (q + n)) from ((Kf.of_below (fun _ _ => False) hW).iterNew (by omega) s (q + n)).below (Nat.le_refl _) (fun _ _ h => h.elim))
      have HSZ := Lib.hid hW.size
      clear hB hit hr
      by_cases h65 : r = 65533
      · have h66 : ((r : Int) == 65533) = true := by simp [h65]
        clear h65
        have hq2 : (q : Int) ≤ (s.size : Int) := by omega
        go_wp2_with fail
        refine (Tryz.utf8_DecodeRuneInString _ _ (HU.out _ (HG.out.trans (HBW.out.mono HG.out.size)))).mono ?_
        rintro e w1 ⟨rfl, hb⟩
        rw [HDX.out]
        by_cases hn3 : n < 3
        · have hn4 : (n : Int) < 3 := by omega
          go_wp2_with fail
          exact bodyPost_ret (v := .tuple #[.string ⟨#[]⟩, .int .i64 q, .int .i64 10]) (by simp [results, Tryz.results32]) rfl ⟨HBW.out.trans (hb.mono HBW.out.size), Or.inr ⟨q, rfl⟩⟩
        · have hn4 : decide ((n : Int) < 3) = false := by simp; omega
          have HGG := Lib.hid (HGD.out (Or.inr (by omega)))
          have HBX := Lib.hid (HB1.out.keep hb)
          have HIX := Lib.hid ((hb.block _ (lt_of_heap HI1.out)).trans HI1.out)
          have HWX := Lib.hid (HBW.out.trans (hb.mono HBW.out.size))
          clear hb
          go_wp2_with fail
          refine (point_any (r : Int) (by omega) (by omega) _).mono ?_
          rintro e w3 ⟨rfl, hb3⟩
          rw [Int.toNat_natCast]
          have HB2 := Lib.hid (HBX.out.keep hb3)
          have HI2 := Lib.hid ((hb3.block _ (lt_of_heap HIX.out)).trans HIX.out)
          have HZ3 := Lib.hid (HWX.out.trans (hb3.mono (by exact HWX.out.size)))
          clear hb3
          go_wp2_with fail
          refine (bld_str _ HB2.out (by have := Lx.pointB_len r; simp [ByteArray.size]; omega)).mono ?_
          rintro e w2 ⟨rfl, hW2⟩
          have HW := Lib.hid hW2
          go_wp2_with fail
          go_roundw
          case rel =>
            refine ⟨q + n, l ++ Lx.pointB r, by omega, ?_, HW.out.2.2.iter HI2.out (by omega), by simpa using HW.out.1, HZ3.out.trans HW.out.2.1, HC.out.snoc HGG.out⟩
            have := Lx.pointB_len r
            simp; omega
          case measure =>
            rw [HM.out]
            simp only [World.iterPos, HW.out.2.2.iter HI2.out (show w.heap.size + 1 ≠ w.heap.size by omega)]
            omega
      · have h66 : ((r : Int) == 65533) = false := by simp; omega
        have HGG := Lib.hid (HGD.out (Or.inl h65))
        go_wp2_with fail
        refine (point_any (r : Int) (by omega) (by omega) _).mono ?_
        rintro e w3 ⟨rfl, hb3⟩
        rw [Int.toNat_natCast]
        have HB2 := Lib.hid (HB1.out.keep hb3)
        have HI2 := Lib.hid ((hb3.block _ (lt_of_heap HI1.out)).trans HI1.out)
        have HZ3 := Lib.hid (HBW.out.trans (hb3.mono (by exact HBW.out.size)))
        clear hb3
        go_wp2_with fail
        refine (bld_str _ HB2.out (by have := Lx.pointB_len r; simp [ByteArray.size]; omega)).mono ?_
        rintro e w2 ⟨rfl, hW2⟩
        have HW := Lib.hid hW2
        go_wp2_with fail
        go_roundw
        case rel =>
          refine ⟨q + n, l ++ Lx.pointB r, by omega, ?_, HW.out.2.2.iter HI2.out (by omega), by simpa using HW.out.1, HZ3.out.trans HW.out.2.1, HC.out.snoc HGG.out⟩
          have := Lx.pointB_len r
          simp; omega
        case measure =>
          rw [HM.out]
          simp only [World.iterPos, HW.out.2.2.iter HI2.out (show w.heap.size + 1 ≠ w.heap.size by omega)]
          omega
    · have hnx : ∀ ty, (Instr.next (.pointer (some ⟨w.heap.size + 1, 0, none⟩)) true ty).run Tryz.prog wr = _ := fun ty => Lib.run_next_end_at wr (w.heap.size + 1) s q ty hit (by omega)
      obtain rfl : q = s.size := by omega
      go_wp2_with fail
      refine (bld_end hB).mono ?_
      rintro e w2 ⟨rfl, hW2⟩
      go_wp2
      exact bodyPost_ret (v := .tuple #[.string ⟨l.toArray⟩, .int .i64 0, .int .i64 0]) (by simp [results, Tryz.results32]) rfl ⟨hW.trans hW2.2.1, Or.inl ⟨_, rfl, by rw [hlen]; exact HC.out⟩⟩
end Go.Proofs.YtcgibcjpkhefpaaGreatDoor

/-
  The walk of the scanner's plain: a code point as it stands.
-/
import Derived.Test.YtcgibcjpkhefpaaGreatDoorW3
import Derived.Lib.TrimU
import Derived.BigCall
namespace Go.Proofs.YtcgibcjpkhefpaaGreatDoor
open Go.RowKit
theorem width_pos (s : ByteArray) (pos : Nat) (h : pos < s.size) : 1 ≤ (Utf8.decode s pos).2 := by
  by_cases ha : (s[pos]'h).toNat < 128
  · rw [decode_ascii s pos h ha]
    exact Nat.le_refl _
  · exact (decode_high s pos h (by omega)).2
theorem decode_fits (s : ByteArray) (pos : Nat) (h : pos < s.size) : pos + (Utf8.decode s pos).2 ≤ s.size := by
  unfold Utf8.decode
  simp only
  repeat' split
  all_goals simp_all
  all_goals omega
theorem ext_eq (s : ByteArray) (p : Nat) : s.extract p s.size = ⟨(s.data.toList.drop p).toArray⟩ := by
  apply ByteArray.ext
  apply Array.toList_inj.1
  rw [strExt]
section
variable {b : Nat} {s : ByteArray} {lv ov : Value} {p : Nat} {ln : Bool} {opn : List Int} {B x : Nat} {l : List UInt8}
theorem plain_split (s : ByteArray) (p : Nat) : Lx.plain s.data.toList p = (Lx.pointB (Utf8.decode (s.extract p s.size) 0).1, p + (Utf8.decode (s.extract p s.size) 0).2) := by
  unfold Lx.plain Lib.decodeL; rw [ext_eq]
theorem pointB_len (r : Nat) : (Lx.pointB r).length ≤ 4 := by
  unfold Lx.pointB Lx.u16; split
  · simp
  · split <;> simp
set_option maxHeartbeats 1000000 in
set_option maxRecDepth 100000 in
theorem plain_any (w : World) (hs : s.size ≤ 140737488351232) (hp : p < s.size) (h : Scn b s lv p ln ov opn w) (hB : Bld B x l w) (hxB : x ≤ B) (hl : l.length + 4 ≤ 140737488355328) :
    Calls Tryz.prog 106 #[.pointer (some ⟨b, 0, none⟩), .pointer (some ⟨x, 0, none⟩)] w fun e w' => e = .returned (.tuple #[]) ∧ Kf (Sx b x) w w' ∧ Scn b s lv (Lx.plain s.data.toList p).2 ln ov opn w' ∧ Bld B x (l ++ (Lx.plain s.data.toList p).1) w' := by
  have h0 := h.c0
  have h1 := h.c1
  have hpi : (p : Int) ≤ (s.size : Int) := by omega
  rw [plain_split]
  have hts : (s.extract p s.size).size = s.size - p := by simp
  obtain ⟨t, ht⟩ : ∃ t, s.extract p s.size = t := ⟨_, rfl⟩
  rw [ht] at hts ⊢
  have hsz : t.size = s.size - p := hts
  obtain ⟨r, hr⟩ : ∃ r, (Utf8.decode t 0).1 = r := ⟨_, rfl⟩
  obtain ⟨n, hn⟩ : ∃ n, (Utf8.decode t 0).2 = n := ⟨_, rfl⟩
  have hr1 : r ≤ 1114111 := hr ▸ Lib.rune_le t 0
  have hn1 : 1 ≤ n := hn ▸ width_pos t 0 (by omega)
  rw [hr, hn]
  have hpl := pointB_len r
  have HT := Lib.hid ht
  have HR := Lib.hid hr
  have HN := Lib.hid hn
  have HZ := Lib.hid hsz
  have HS := Lib.hid h
  have HB := Lib.hid hB
  clear h hB ht hr hn hsz hts
  go_enter Tryz.func106, Tryz.ntmps106
  go_wp2
  go_region
  go_wp2
  rw [show s.extract p s.size = t from HT.out]
  go_loopw [] (fun wr => Scn b s lv p ln ov opn wr ∧ Kf (Sx b x) w wr ∧ ((wr.heap[w.heap.size]? = some (.stringIter t 0) ∧ Bld B x l wr) ∨ (wr.heap[w.heap.size]? = some (.stringIter t n) ∧ Bld B x (l ++ Lx.pointB r) wr))) (fun wr => t.size - wr.iterPos w.heap.size)
  case atStart => exact ⟨(HS.out.drew).alloc _, ((Kf.refl _ _).drew).alloc _, Or.inl ⟨World.iter_heap w.drew t 0, Bld.alloc (w := w.drew) HB.out _⟩⟩
  case round =>
    obtain ⟨hS, hK, ⟨hit, hBl⟩ | ⟨hit, hBl⟩⟩ := hrel
    · have hnx : ∀ ty, (Instr.next (.pointer (some ⟨w.heap.size, 0, none⟩)) true ty).run Tryz.prog wr = _ := fun ty => Lib.run_next_any_at wr w.heap.size t 0 ty hit (by have := HZ.out; omega)
      rw [show (Utf8.decode t 0).1 = r from HR.out, show (Utf8.decode t 0).2 = n from HN.out, Nat.zero_add] at hnx
      have HS1 := Lib.hid (hS.iterAt hit n)
      have HB1 := Lib.hid (hBl.iterAt hit n)
      have HK1 := Lib.hid (hK.iterNew (Nat.le_refl _) t n)
      have HI1 := Lib.hid (Lib.iterAt_heap wr w.heap.size t 0 n hit)
      have HM := Lib.hid (show wr.iterPos w.heap.size = 0 by simp only [World.iterPos, hit])
      clear hS hBl hK hit
      go_wp2_with fail
      refine (point_any (r : Int) (by omega) (by omega) _).mono ?_
      rintro e w1 ⟨rfl, hb⟩
      rw [Int.toNat_natCast]
      have HS2 := Lib.hid (HS1.out.keep hb)
      have HB2 := Lib.hid (HB1.out.keep hb)
      have HK2 := Lib.hid (HK1.out.trans (Kf.of_below _ hb))
      have HI2 := Lib.hid ((hb.block _ (lt_of_heap HI1.out)).trans HI1.out)
      clear hb
      go_wp2_with fail
      refine (bld_str _ HB2.out (by simp [ByteArray.size]; omega)).mono ?_
      rintro e w2 ⟨rfl, hW⟩
      have HW := Lib.hid hW
      clear hW
      go_wp2_with fail
      go_roundw
      case rel =>
        refine ⟨HS2.out.wrote HB2.out HW.out.2.2, HK2.out.trans (kf_builder (HW.out.2.1.mono hxB) HW.out.2.2), Or.inr ⟨HW.out.2.2.iter HI2.out (by have := HB.out.le; omega), ?_⟩⟩
        simpa using HW.out.1
      case measure =>
        have := HZ.out
        rw [HM.out]
        simp only [World.iterPos, HW.out.2.2.iter HI2.out (show w.heap.size ≠ x by have := HB.out.le; omega)]
        omega
    · by_cases hlt : n < t.size
      · have hnx : ∀ ty, (Instr.next (.pointer (some ⟨w.heap.size, 0, none⟩)) true ty).run Tryz.prog wr = _ := fun ty => Lib.run_next_any_at wr w.heap.size t n ty hit hlt
        have HS1 := hS.iterAt hit (n + (Utf8.decode t n).2)
        have HB1 := Lib.hid (hBl.iterAt hit (n + (Utf8.decode t n).2))
        have HK1 := Lib.hid (hK.iterNew (Nat.le_refl _) t (n + (Utf8.decode t n).2))
        have h0 := HS1.c0
        have h1 := HS1.c1
        have f1 := HS1.fz 1
        have HS1 := Lib.hid HS1
        have hnb : p + n ≤ s.size := by have := HZ.out; omega
        clear hS hBl hK hit
        go_wp2
        exact bodyPost_ret (v := .tuple #[]) (results_none rfl _ _ _) rfl ⟨rfl, HK1.out.set (fun _ _ => Or.inl rfl) _, HS1.out.setTo (by omega), HB1.out.setScn HS1.out 1 _⟩
      · have hnx : ∀ ty, (Instr.next (.pointer (some ⟨w.heap.size, 0, none⟩)) true ty).run Tryz.prog wr = _ := fun ty => Lib.run_next_end_at wr w.heap.size t n ty hit hlt
        have hnt : n ≤ t.size := by have := decode_fits t 0 (by have := HZ.out; omega); rw [HN.out] at this; omega
        have h0 := hS.c0
        have h1 := hS.c1
        have f1 := hS.fz 1
        have HS1 := Lib.hid hS
        have HB1 := Lib.hid hBl
        have HK1 := Lib.hid hK
        clear hS hBl hK hit
        go_wp2
        go_end0
        exact ⟨rfl, HK1.out.set (fun _ _ => Or.inl rfl) _, HS1.out.setTo (by have := HZ.out; omega), HB1.out.setScn HS1.out 1 _⟩
end
end Go.Proofs.YtcgibcjpkhefpaaGreatDoor

/-
  The walk of the scanner's plain: a code point as it stands.
  The walk of the scanner's escape, case by case.
  The scanner's escape: whatever stands behind a backslash.
  The walk of the scanner's text: a text literal.
  The walk of the scanner's piece: a piece of a template.
  The walks of slices.IndexFunc over the signs and of the scanner's sign.
  The walk of the scanner's sign, case by case.
-/
import Derived.Test.YtcgibcjpkhefpaaGreatDoorZA
import Derived.Test.YtcgibcjpkhefpaaGreatDoorZE
import Derived.Lib.TrimU
import Derived.BigCall
namespace Go.Proofs.YtcgibcjpkhefpaaGreatDoor
open Go.RowKit
theorem width_pos (s : ByteArray) (pos : Nat) (h : pos < s.size) : 1 ≤ (Utf8.decode s pos).2 := by
  by_cases ha : (s[pos]'h).toNat < 128
  · rw [decode_ascii s pos h ha]
    exact Nat.le_refl _
  · exact (decode_high s pos h (by omega)).2
theorem decode_fits (s : ByteArray) (pos : Nat) (h : pos < s.size) : pos + (Utf8.decode s pos).2 ≤ s.size := by
  unfold Utf8.decode
  simp only
  repeat' split
  all_goals simp_all
  all_goals omega
theorem ext_eq (s : ByteArray) (p : Nat) : s.extract p s.size = ⟨(s.data.toList.drop p).toArray⟩ := by
  apply ByteArray.ext
  apply Array.toList_inj.1
  rw [strExt]
section
variable {b : Nat} {s : ByteArray} {lv ov : Value} {p : Nat} {ln : Bool} {opn : List Int} {B x : Nat} {l : List UInt8}
theorem plain_split (s : ByteArray) (p : Nat) : Lx.plain s.data.toList p = (Lx.pointB (Utf8.decode (s.extract p s.size) 0).1, p + (Utf8.decode (s.extract p s.size) 0).2) := by
  unfold Lx.plain Lib.decodeL; rw [ext_eq]
theorem pointB_len (r : Nat) : (Lx.pointB r).length ≤ 4 := by
  unfold Lx.pointB Lx.u16; split
  · simp
  · split <;> simp
set_option maxHeartbeats 1000000 in
set_option maxRecDepth 100000 in
theorem plain_any (w : World) (hs : s.size ≤ 140737488351232) (hp : p < s.size) (h : Scn b s lv p ln ov opn w) (hB : Bld B x l w) (hxB : x ≤ B) (hl : l.length + 4 ≤ 140737488355328) :
    Calls Tryz.prog 106 #[.pointer (some ⟨b, 0, none⟩), .pointer (some ⟨x, 0, none⟩)] w fun e w' => e = .returned (.tuple #[]) ∧ Kf (Sx b x) w w' ∧ Scn b s lv (Lx.plain s.data.toList p).2 ln ov opn w' ∧ Bld B x (l ++ (Lx.plain s.data.toList p).1) w' := by
  have h0 := h.c0
  have h1 := h.c1
  have hpi : (p : Int) ≤ (s.size : Int) := by omega
  rw [plain_split]
  have hts : (s.extract p s.size).size = s.size - p := by simp
  obtain ⟨t, ht⟩ : ∃ t, s.extract p s.size = t := ⟨_, rfl⟩
  rw [ht] at hts ⊢
  have hsz : t.size = s.size - p := hts
  obtain ⟨r, hr⟩ : ∃ r, (Utf8.decode t 0).1 = r := ⟨_, rfl⟩
  obtain ⟨n, hn⟩ : ∃ n, (Utf8.decode t 0).2 = n := ⟨_, rfl⟩
  have hr1 : r ≤ 1114111 := hr ▸ Lib.rune_le t 0
  have hn1 : 1 ≤ n := hn ▸ width_pos t 0 (by omega)
  rw [hr, hn]
  have hpl := pointB_len r
  have HT := Lib.hid ht
  have HR := Lib.hid hr
  have HN := Lib.hid hn
  have HZ := Lib.hid hsz
  have HS := Lib.hid h
  have HB := Lib.hid hB
  clear h hB ht hr hn hsz hts
  go_enter Tryz.func106, Tryz.ntmps106
  go_wp2
  go_region
  go_wp2
  rw [show s.extract p s.size = t from HT.out]
  go_loopw [] (fun wr => Scn b s lv p ln ov opn wr ∧ Kf (Sx b x) w wr ∧ ((wr.heap[w.heap.size]? = some (.stringIter t 0) ∧ Bld B x l wr) ∨ (wr.heap[w.heap.size]? = some (.stringIter t n) ∧ Bld B x (l ++ Lx.pointB r) wr))) (fun wr => t.size - wr.iterPos w.heap.size)
  case atStart => exact ⟨(HS.out.drew).alloc _, ((Kf.refl _ _).drew).alloc _, Or.inl ⟨World.iter_heap w.drew t 0, Bld.alloc (w := w.drew) HB.out _⟩⟩
  case round =>
    obtain ⟨hS, hK, ⟨hit, hBl⟩ | ⟨hit, hBl⟩⟩ := hrel
    · have hnx : ∀ ty, (Instr.next (.pointer (some ⟨w.heap.size, 0, none⟩)) true ty).run Tryz.prog wr = _ := fun ty => Lib.run_next_any_at wr w.heap.size t 0 ty hit (by have := HZ.out; omega)
      rw [show (Utf8.decode t 0).1 = r from HR.out, show (Utf8.decode t 0).2 = n from HN.out, Nat.zero_add] at hnx
      have HS1 := Lib.hid (hS.iterAt hit n)
      have HB1 := Lib.hid (hBl.iterAt hit n)
      have HK1 := Lib.hid (hK.iterNew (Nat.le_refl _) t n)
      have HI1 := Lib.hid (Lib.iterAt_heap wr w.heap.size t 0 n hit)
      have HM := Lib.hid (show wr.iterPos w.heap.size = 0 by simp only [World.iterPos, hit])
      clear hS hBl hK hit
      go_wp2_with fail
      refine (point_any (r : Int) (by omega) (by omega) _).mono ?_
      rintro e w1 ⟨rfl, hb⟩
      rw [Int.toNat_natCast]
      have HS2 := Lib.hid (HS1.out.keep hb)
      have HB2 := Lib.hid (HB1.out.keep hb)
      have HK2 := Lib.hid (HK1.out.trans (Kf.of_below _ hb))
      have HI2 := Lib.hid ((hb.block _ (lt_of_heap HI1.out)).trans HI1.out)
      clear hb
      go_wp2_with fail
      refine (bld_str _ HB2.out (by simp [ByteArray.size]; omega)).mono ?_
      rintro e w2 ⟨rfl, hW⟩
      have HW := Lib.hid hW
      clear hW
      go_wp2_with fail
      go_roundw
      case rel =>
        refine ⟨HS2.out.wrote HB2.out HW.out.2.2, HK2.out.trans (kf_builder (HW.out.2.1.mono hxB) HW.out.2.2), Or.inr ⟨HW.out.2.2.iter HI2.out (by have := HB.out.le; omega), ?_⟩⟩
        simpa using HW.out.1
      case measure =>
        have := HZ.out
        rw [HM.out]
        simp only [World.iterPos, HW.out.2.2.iter HI2.out (show w.heap.size ≠ x by have := HB.out.le; omega)]
        omega
    · by_cases hlt : n < t.size
      · have hnx : ∀ ty, (Instr.next (.pointer (some ⟨w.heap.size, 0, none⟩)) true ty).run Tryz.prog wr = _ := fun ty => Lib.run_next_any_at wr w.heap.size t n ty hit hlt
        have HS1 := hS.iterAt hit (n + (Utf8.decode t n).2)
        have HB1 := Lib.hid (hBl.iterAt hit (n + (Utf8.decode t n).2))
        have HK1 := Lib.hid (hK.iterNew (Nat.le_refl _) t (n + (Utf8.decode t n).2))
        have h0 := HS1.c0
        have h1 := HS1.c1
        have f1 := HS1.fz 1
        have HS1 := Lib.hid HS1
        have hnb : p + n ≤ s.size := by have := HZ.out; omega
        clear hS hBl hK hit
        go_wp2
        exact bodyPost_ret (v := .tuple #[]) (results_none rfl _ _ _) rfl ⟨rfl, HK1.out.set (fun _ _ => Or.inl rfl) _, HS1.out.setTo (by omega), HB1.out.setScn HS1.out 1 _⟩
      · have hnx : ∀ ty, (Instr.next (.pointer (some ⟨w.heap.size, 0, none⟩)) true ty).run Tryz.prog wr = _ := fun ty => Lib.run_next_end_at wr w.heap.size t n ty hit hlt
        have hnt : n ≤ t.size := by have := decode_fits t 0 (by have := HZ.out; omega); rw [HN.out] at this; omega
        have h0 := hS.c0
        have h1 := hS.c1
        have f1 := hS.fz 1
        have HS1 := Lib.hid hS
        have HB1 := Lib.hid hBl
        have HK1 := Lib.hid hK
        clear hS hBl hK hit
        go_wp2
        go_end0
        exact ⟨rfl, HK1.out.set (fun _ _ => Or.inl rfl) _, HS1.out.setTo (by have := HZ.out; omega), HB1.out.setScn HS1.out 1 _⟩
end
end Go.Proofs.YtcgibcjpkhefpaaGreatDoor
namespace Go.Proofs.YtcgibcjpkhefpaaGreatDoor
open Go.RowKit
theorem idxEsc (c : UInt8) (w : World) :
    Calls Tryz.prog 117 #[.string ⟨#[110, 116, 98, 118, 102, 114]⟩, .int .u8 c.toNat] w fun e w' => e = .returned (.int .i64 (Lib.indexByte Lx.escs c)) ∧ w' = w := idxByte _ c w
theorem toNat_ne {c : UInt8} {n : UInt8} (h : c ≠ n) : (((c.toNat : Nat) : Int) == ((n.toNat : Nat) : Int)) = false := by
  rw [beq_eq_false_iff_ne]
  intro e
  apply h
  apply UInt8.toNat_inj.1
  omega
theorem hexGo_lt (l : List UInt8) : ∀ (f n v p n' v' q : Nat), Lx.hexGo l f n v p = some (n', v', q) → v' < (v + 1) * 16 ^ f
  | 0, n, v, p, n', v', q, h => by
    simp only [Lx.hexGo, Option.some.injEq, Prod.mk.injEq] at h
    obtain ⟨_, rfl, _⟩ := h
    simp
  | f + 1, n, v, p, n', v', q, h => by
    rw [Lx.hexGo] at h
    split at h
    · simp only [Option.some.injEq, Prod.mk.injEq] at h
      obtain ⟨_, rfl, _⟩ := h
      have : 1 ≤ 16 ^ (f + 1) := by have := Nat.pow_le_pow_right (n := 16) (by decide) (Nat.zero_le (f + 1)); simpa using this
      calc v < (v + 1) * 1 := by omega
        _ ≤ (v + 1) * 16 ^ (f + 1) := Nat.mul_le_mul_left _ this
    · rename_i k hk
      split at h
      · cases h
      · have ih := hexGo_lt l f _ _ _ _ _ _ h
        have hk15 := (hexd_some hk).2.1
        calc v' < (16 * v + k + 1) * 16 ^ f := ih
          _ ≤ (16 * (v + 1)) * 16 ^ f := Nat.mul_le_mul_right _ (by omega)
          _ = (v + 1) * 16 ^ (f + 1) := by rw [Nat.pow_succ]; simp [Nat.mul_comm, Nat.mul_assoc]
theorem hex_lt {l : List UInt8} {least most p v q : Nat} (h : Lx.hex l least most p = some (v, q)) : v < 16 ^ most := by
  unfold Lx.hex at h
  split at h
  · cases h
  · rename_i n v' q' hg
    split at h
    · cases h
    · simp only [Option.some.injEq, Prod.mk.injEq] at h
      obtain ⟨rfl, rfl⟩ := h
      have := hexGo_lt _ _ _ _ _ _ _ _ hg
      simpa using this
section
variable {b : Nat} {s : ByteArray} {lv ov : Value} {p : Nat} {ln : Bool} {opn : List Int} {B x : Nat} {l : List UInt8}
/-- Behind an escape. -/
def EscPost (b : Nat) (s : ByteArray) (lv : Value) (ln : Bool) (ov : Value) (opn : List Int) (B x : Nat) (l : List UInt8) (frm : Nat) (w : World) (r : Option (List UInt8 × Nat)) (e : Ending) (w' : World) : Prop :=
  Kf (Sx b x) w w' ∧ match r with
    | some (u, q) => e = .returned (.tuple #[]) ∧ Scn b s lv q ln ov opn w' ∧ Bld B x (l ++ u) w'
    | none => e = wrongAt frm

set_option maxHeartbeats 1000000 in
set_option maxRecDepth 100000 in
theorem esc_end (frm : Nat) (w : World) (hs : s.size ≤ 140737488351232) (hp : s.size ≤ p) (hp' : p ≤ s.size) (h : Scn b s lv p ln ov opn w) (hB : Bld B x l w) (_hxB : x ≤ B) (_hl : l.length + 4 ≤ 140737488355328)
     :
    Calls Tryz.prog 105 #[.pointer (some ⟨b, 0, none⟩), .pointer (some ⟨x, 0, none⟩), .int .i64 frm] w (EscPost b s lv ln ov opn B x l frm w (none)) := by
  have h0 := h.c0
  have h1 := h.c1
  have f1 := h.fz 1
  have hlt : (p : Int) ≤ (s.size : Int) := by omega
  have hge : decide ((s.size : Int) ≤ (p : Int)) = true := by simp; omega
  have hc := pk_zero (l := s.data.toList) (p := p) (by simpa using hp)
  have HC := Lib.hid hc
  clear hc
  have HS := Lib.hid h
  have HB := Lib.hid hB
  clear h hB
  go_enter Tryz.func105, Tryz.ntmps105
  go_wp2_with fail
  refine (peek0 _ hs (by omega) HS.out).mono ?_
  rintro e w1 ⟨rfl, n1, rfl⟩
  rw [HC.out]
  go_wp2_with fail
  refine (idxEsc 0 _).mono ?_
  rintro e w1 ⟨rfl, rfl⟩
  rw [show Lib.indexByte Lx.escs 0 = -1 from by decide]
  go_wp2
  go_quiet (fail)
  go_wp2_with fail
  exact ⟨rfl, (Kf.refl _ _).drewN _, rfl⟩
set_option maxHeartbeats 1000000 in
set_option maxRecDepth 100000 in
theorem esc_letter110 (frm : Nat) (w : World) (hs : s.size ≤ 140737488351232) (hp : p < s.size) (h : Scn b s lv p ln ov opn w) (hB : Bld B x l w) (hxB : x ≤ B) (hl : l.length + 4 ≤ 140737488355328)
    (hc : Lx.pk s.data.toList p = 110) :
    Calls Tryz.prog 105 #[.pointer (some ⟨b, 0, none⟩), .pointer (some ⟨x, 0, none⟩), .int .i64 frm] w (EscPost b s lv ln ov opn B x l frm w (some (Lx.u16 10, p + 1))) := by
  have h0 := h.c0
  have h1 := h.c1
  have f1 := h.fz 1
  have hlt : (p : Int) < (s.size : Int) := by omega
  have hge : decide ((s.size : Int) ≤ (p : Int)) = false := by simp; omega
  have HC := Lib.hid hc
  clear hc
  have HS := Lib.hid h
  have HB := Lib.hid hB
  clear h hB
  go_enter Tryz.func105, Tryz.ntmps105
  go_wp2_with fail
  refine (peek0 _ hs (by omega) HS.out).mono ?_
  rintro e w1 ⟨rfl, n1, rfl⟩
  rw [HC.out]
  go_wp2_with fail
  refine (idxEsc 110 _).mono ?_
  rintro e w1 ⟨rfl, rfl⟩
  rw [show Lib.indexByte Lx.escs 110 = 0 from by decide]
  go_wp2
  go_quiet (fail)
  go_wp2_with fail
  refine (put_any 10 (by decide) (Bld.alloc (Bld.setScn (HB.out.drewN _) (HS.out.drewN _) 1 _) _) (by omega)).mono ?_
  rintro e w1 ⟨rfl, hW⟩
  go_wp2_with fail
  go_end0
  refine ⟨?_, rfl, ?_, hW.1⟩
  · exact ((Kf.alloc (Kf.set (a := ⟨b, 1, none⟩) ((Kf.refl _ w).drewN _) (fun _ _ => Or.inl rfl) _) _)).trans (kf_builder (hW.2.1.mono hxB) hW.2.2)
  · exact (((HS.out.drewN _).setTo (by omega)).alloc _).wrote (Bld.alloc (Bld.setScn (HB.out.drewN _) (HS.out.drewN _) 1 _) _) hW.2.2
set_option maxHeartbeats 1000000 in
set_option maxRecDepth 100000 in
theorem esc_letter116 (frm : Nat) (w : World) (hs : s.size ≤ 140737488351232) (hp : p < s.size) (h : Scn b s lv p ln ov opn w) (hB : Bld B x l w) (hxB : x ≤ B) (hl : l.length + 4 ≤ 140737488355328)
    (hc : Lx.pk s.data.toList p = 116) :
    Calls Tryz.prog 105 #[.pointer (some ⟨b, 0, none⟩), .pointer (some ⟨x, 0, none⟩), .int .i64 frm] w (EscPost b s lv ln ov opn B x l frm w (some (Lx.u16 9, p + 1))) := by
  have h0 := h.c0
  have h1 := h.c1
  have f1 := h.fz 1
  have hlt : (p : Int) < (s.size : Int) := by omega
  have hge : decide ((s.size : Int) ≤ (p : Int)) = false := by simp; omega
  have HC := Lib.hid hc
  clear hc
  have HS := Lib.hid h
  have HB := Lib.hid hB
  clear h hB
  go_enter Tryz.func105, Tryz.ntmps105
  go_wp2_with fail
  refine (peek0 _ hs (by omega) HS.out).mono ?_
  rintro e w1 ⟨rfl, n1, rfl⟩
  rw [HC.out]
  go_wp2_with fail
  refine (idxEsc 116 _).mono ?_
  rintro e w1 ⟨rfl, rfl⟩
  rw [show Lib.indexByte Lx.escs 116 = 1 from by decide]
  go_wp2
  go_quiet (fail)
  go_wp2_with fail
  refine (put_any 9 (by decide) (Bld.alloc (Bld.setScn (HB.out.drewN _) (HS.out.drewN _) 1 _) _) (by omega)).mono ?_
  rintro e w1 ⟨rfl, hW⟩
  go_wp2_with fail
  go_end0
  refine ⟨?_, rfl, ?_, hW.1⟩
  · exact ((Kf.alloc (Kf.set (a := ⟨b, 1, none⟩) ((Kf.refl _ w).drewN _) (fun _ _ => Or.inl rfl) _) _)).trans (kf_builder (hW.2.1.mono hxB) hW.2.2)
  · exact (((HS.out.drewN _).setTo (by omega)).alloc _).wrote (Bld.alloc (Bld.setScn (HB.out.drewN _) (HS.out.drewN _) 1 _) _) hW.2.2
set_option maxHeartbeats 1000000 in
set_option maxRecDepth 100000 in
theorem esc_letter98 (frm : Nat) (w : World) (hs : s.size ≤ 140737488351232) (hp : p < s.size) (h : Scn b s lv p ln ov opn w) (hB : Bld B x l w) (hxB : x ≤ B) (hl : l.length + 4 ≤ 140737488355328)
    (hc : Lx.pk s.data.toList p = 98) :
    Calls Tryz.prog 105 #[.pointer (some ⟨b, 0, none⟩), .pointer (some ⟨x, 0, none⟩), .int .i64 frm] w (EscPost b s lv ln ov opn B x l frm w (some (Lx.u16 8, p + 1))) := by
  have h0 := h.c0
  have h1 := h.c1
  have f1 := h.fz 1
  have hlt : (p : Int) < (s.size : Int) := by omega
  have hge : decide ((s.size : Int) ≤ (p : Int)) = false := by simp; omega
  have HC := Lib.hid hc
  clear hc
  have HS := Lib.hid h
  have HB := Lib.hid hB
  clear h hB
  go_enter Tryz.func105, Tryz.ntmps105
  go_wp2_with fail
  refine (peek0 _ hs (by omega) HS.out).mono ?_
  rintro e w1 ⟨rfl, n1, rfl⟩
  rw [HC.out]
  go_wp2_with fail
  refine (idxEsc 98 _).mono ?_
  rintro e w1 ⟨rfl, rfl⟩
  rw [show Lib.indexByte Lx.escs 98 = 2 from by decide]
  go_wp2
  go_quiet (fail)
  go_wp2_with fail
  refine (put_any 8 (by decide) (Bld.alloc (Bld.setScn (HB.out.drewN _) (HS.out.drewN _) 1 _) _) (by omega)).mono ?_
  rintro e w1 ⟨rfl, hW⟩
  go_wp2_with fail
  go_end0
  refine ⟨?_, rfl, ?_, hW.1⟩
  · exact ((Kf.alloc (Kf.set (a := ⟨b, 1, none⟩) ((Kf.refl _ w).drewN _) (fun _ _ => Or.inl rfl) _) _)).trans (kf_builder (hW.2.1.mono hxB) hW.2.2)
  · exact (((HS.out.drewN _).setTo (by omega)).alloc _).wrote (Bld.alloc (Bld.setScn (HB.out.drewN _) (HS.out.drewN _) 1 _) _) hW.2.2
set_option maxHeartbeats 1000000 in
set_option maxRecDepth 100000 in
theorem esc_letter118 (frm : Nat) (w : World) (hs : s.size ≤ 140737488351232) (hp : p < s.size) (h : Scn b s lv p ln ov opn w) (hB : Bld B x l w) (hxB : x ≤ B) (hl : l.length + 4 ≤ 140737488355328)
    (hc : Lx.pk s.data.toList p = 118) :
    Calls Tryz.prog 105 #[.pointer (some ⟨b, 0, none⟩), .pointer (some ⟨x, 0, none⟩), .int .i64 frm] w (EscPost b s lv ln ov opn B x l frm w (some (Lx.u16 11, p + 1))) := by
  have h0 := h.c0
  have h1 := h.c1
  have f1 := h.fz 1
  have hlt : (p : Int) < (s.size : Int) := by omega
  have hge : decide ((s.size : Int) ≤ (p : Int)) = false := by simp; omega
  have HC := Lib.hid hc
  clear hc
  have HS := Lib.hid h
  have HB := Lib.hid hB
  clear h hB
  go_enter Tryz.func105, Tryz.ntmps105
  go_wp2_with fail
  refine (peek0 _ hs (by omega) HS.out).mono ?_
  rintro e w1 ⟨rfl, n1, rfl⟩
  rw [HC.out]
  go_wp2_with fail
  refine (idxEsc 118 _).mono ?_
  rintro e w1 ⟨rfl, rfl⟩
  rw [show Lib.indexByte Lx.escs 118 = 3 from by decide]
  go_wp2
  go_quiet (fail)
  go_wp2_with fail
  refine (put_any 11 (by decide) (Bld.alloc (Bld.setScn (HB.out.drewN _) (HS.out.drewN _) 1 _) _) (by omega)).mono ?_
  rintro e w1 ⟨rfl, hW⟩
  go_wp2_with fail
  go_end0
  refine ⟨?_, rfl, ?_, hW.1⟩
  · exact ((Kf.alloc (Kf.set (a := ⟨b, 1, none⟩) ((Kf.refl _ w).drewN _) (fun _ _ => Or.inl rfl) _) _)).trans (kf_builder (hW.2.1.mono hxB) hW.2.2)
  · exact (((HS.out.drewN _).setTo (by omega)).alloc _).wrote (Bld.alloc (Bld.setScn (HB.out.drewN _) (HS.out.drewN _) 1 _) _) hW.2.2
set_option maxHeartbeats 1000000 in
set_option maxRecDepth 100000 in
theorem esc_letter102 (frm : Nat) (w : World) (hs : s.size ≤ 140737488351232) (hp : p < s.size) (h : Scn b s lv p ln ov opn w) (hB : Bld B x l w) (hxB : x ≤ B) (hl : l.length + 4 ≤ 140737488355328)
    (hc : Lx.pk s.data.toList p = 102) :
    Calls Tryz.prog 105 #[.pointer (some ⟨b, 0, none⟩), .pointer (some ⟨x, 0, none⟩), .int .i64 frm] w (EscPost b s lv ln ov opn B x l frm w (some (Lx.u16 12, p + 1))) := by
  have h0 := h.c0
  have h1 := h.c1
  have f1 := h.fz 1
  have hlt : (p : Int) < (s.size : Int) := by omega
  have hge : decide ((s.size : Int) ≤ (p : Int)) = false := by simp; omega
  have HC := Lib.hid hc
  clear hc
  have HS := Lib.hid h
  have HB := Lib.hid hB
  clear h hB
  go_enter Tryz.func105, Tryz.ntmps105
  go_wp2_with fail
  refine (peek0 _ hs (by omega) HS.out).mono ?_
  rintro e w1 ⟨rfl, n1, rfl⟩
  rw [HC.out]
  go_wp2_with fail
  refine (idxEsc 102 _).mono ?_
  rintro e w1 ⟨rfl, rfl⟩
  rw [show Lib.indexByte Lx.escs 102 = 4 from by decide]
  go_wp2
  go_quiet (fail)
  go_wp2_with fail
  refine (put_any 12 (by decide) (Bld.alloc (Bld.setScn (HB.out.drewN _) (HS.out.drewN _) 1 _) _) (by omega)).mono ?_
  rintro e w1 ⟨rfl, hW⟩
  go_wp2_with fail
  go_end0
  refine ⟨?_, rfl, ?_, hW.1⟩
  · exact ((Kf.alloc (Kf.set (a := ⟨b, 1, none⟩) ((Kf.refl _ w).drewN _) (fun _ _ => Or.inl rfl) _) _)).trans (kf_builder (hW.2.1.mono hxB) hW.2.2)
  · exact (((HS.out.drewN _).setTo (by omega)).alloc _).wrote (Bld.alloc (Bld.setScn (HB.out.drewN _) (HS.out.drewN _) 1 _) _) hW.2.2
set_option maxHeartbeats 1000000 in
set_option maxRecDepth 100000 in
theorem esc_letter114 (frm : Nat) (w : World) (hs : s.size ≤ 140737488351232) (hp : p < s.size) (h : Scn b s lv p ln ov opn w) (hB : Bld B x l w) (hxB : x ≤ B) (hl : l.length + 4 ≤ 140737488355328)
    (hc : Lx.pk s.data.toList p = 114) :
    Calls Tryz.prog 105 #[.pointer (some ⟨b, 0, none⟩), .pointer (some ⟨x, 0, none⟩), .int .i64 frm] w (EscPost b s lv ln ov opn B x l frm w (some (Lx.u16 13, p + 1))) := by
  have h0 := h.c0
  have h1 := h.c1
  have f1 := h.fz 1
  have hlt : (p : Int) < (s.size : Int) := by omega
  have hge : decide ((s.size : Int) ≤ (p : Int)) = false := by simp; omega
  have HC := Lib.hid hc
  clear hc
  have HS := Lib.hid h
  have HB := Lib.hid hB
  clear h hB
  go_enter Tryz.func105, Tryz.ntmps105
  go_wp2_with fail
  refine (peek0 _ hs (by omega) HS.out).mono ?_
  rintro e w1 ⟨rfl, n1, rfl⟩
  rw [HC.out]
  go_wp2_with fail
  refine (idxEsc 114 _).mono ?_
  rintro e w1 ⟨rfl, rfl⟩
  rw [show Lib.indexByte Lx.escs 114 = 5 from by decide]
  go_wp2
  go_quiet (fail)
  go_wp2_with fail
  refine (put_any 13 (by decide) (Bld.alloc (Bld.setScn (HB.out.drewN _) (HS.out.drewN _) 1 _) _) (by omega)).mono ?_
  rintro e w1 ⟨rfl, hW⟩
  go_wp2_with fail
  go_end0
  refine ⟨?_, rfl, ?_, hW.1⟩
  · exact ((Kf.alloc (Kf.set (a := ⟨b, 1, none⟩) ((Kf.refl _ w).drewN _) (fun _ _ => Or.inl rfl) _) _)).trans (kf_builder (hW.2.1.mono hxB) hW.2.2)
  · exact (((HS.out.drewN _).setTo (by omega)).alloc _).wrote (Bld.alloc (Bld.setScn (HB.out.drewN _) (HS.out.drewN _) 1 _) _) hW.2.2
set_option maxHeartbeats 1000000 in
set_option maxRecDepth 100000 in
theorem esc_crlf (frm : Nat) (w : World) (hs : s.size ≤ 140737488351232) (hp : p < s.size) (h : Scn b s lv p ln ov opn w) (hB : Bld B x l w) (_hxB : x ≤ B) (_hl : l.length + 4 ≤ 140737488355328)
    (hc : Lx.pk s.data.toList p = 13) (hcr : Lx.pre [13, 10] s.data.toList p = true) :
    Calls Tryz.prog 105 #[.pointer (some ⟨b, 0, none⟩), .pointer (some ⟨x, 0, none⟩), .int .i64 frm] w (EscPost b s lv ln ov opn B x l frm w (some ([], p + 2))) := by
  have h0 := h.c0
  have h1 := h.c1
  have f1 := h.fz 1
  have hlt : (p : Int) < (s.size : Int) := by omega
  have hge : decide ((s.size : Int) ≤ (p : Int)) = false := by simp; omega
  have HC := Lib.hid hc
  clear hc
  have hle : p + 2 ≤ s.size := by have := pre_le hcr (by simp; omega); simpa using this
  have HCR := Lib.hid hcr
  clear hcr
  have HS := Lib.hid h
  have HB := Lib.hid hB
  clear h hB
  go_enter Tryz.func105, Tryz.ntmps105
  go_wp2_with fail
  refine (peek0 _ hs (by omega) HS.out).mono ?_
  rintro e w1 ⟨rfl, n1, rfl⟩
  rw [HC.out]
  go_wp2_with fail
  refine (idxEsc 13 _).mono ?_
  rintro e w1 ⟨rfl, rfl⟩
  rw [show Lib.indexByte Lx.escs 13 = -1 from by decide]
  go_wp2
  go_quiet (fail)
  go_wp2_with fail
  refine (has_any _ _ hs (by omega) (HS.out.drewN _)).mono ?_
  rintro e w1 ⟨rfl, n2, rfl⟩
  rw [show Lx.pre (⟨#[13, 10]⟩ : ByteArray).data.toList s.data.toList p = true from HCR.out]
  go_wp2
  go_end0
  exact ⟨so_sx (((Kf.refl _ _).drewN _).setB 1 _), rfl, (HS.out.drewN _).setTo (by omega), by rw [List.append_nil]; exact Bld.setScn (HB.out.drewN _) (HS.out.drewN _) 1 _⟩
set_option maxHeartbeats 1000000 in
set_option maxRecDepth 100000 in
theorem esc_line (frm : Nat) (w : World) (hs : s.size ≤ 140737488351232) (hp : p < s.size) (h : Scn b s lv p ln ov opn w) (hB : Bld B x l w) (_hxB : x ≤ B) (_hl : l.length + 4 ≤ 140737488355328)
    {q : Nat} (hi : Lib.indexByte Lx.escs (Lx.pk s.data.toList p) < 0) (hcr : Lx.pre [13, 10] s.data.toList p = false) (hnl : Lx.nl s.data.toList p = some q) :
    Calls Tryz.prog 105 #[.pointer (some ⟨b, 0, none⟩), .pointer (some ⟨x, 0, none⟩), .int .i64 frm] w (EscPost b s lv ln ov opn B x l frm w (some ([], q))) := by
  have h0 := h.c0
  have h1 := h.c1
  have f1 := h.fz 1
  have hlt : (p : Int) < (s.size : Int) := by omega
  have hge : decide ((s.size : Int) ≤ (p : Int)) = false := by simp; omega
  obtain ⟨c, hc⟩ : ∃ c, Lx.pk s.data.toList p = c := ⟨_, rfl⟩
  rw [hc] at hi
  have HC := Lib.hid hc
  clear hc
  have HCR := Lib.hid hcr
  have HNL := Lib.hid hnl
  clear hcr hnl
  have HS := Lib.hid h
  have HB := Lib.hid hB
  clear h hB
  go_enter Tryz.func105, Tryz.ntmps105
  go_wp2_with fail
  refine (peek0 _ hs (by omega) HS.out).mono ?_
  rintro e w1 ⟨rfl, n1, rfl⟩
  rw [HC.out]
  go_wp2_with fail
  refine (idxEsc _ _).mono ?_
  rintro e w1 ⟨rfl, rfl⟩
  go_wp2
  go_quiet (fail)
  go_wp2_with fail
  refine (has_any _ _ hs (by omega) (HS.out.drewN _)).mono ?_
  rintro e w1 ⟨rfl, n2, rfl⟩
  rw [show Lx.pre (⟨#[13, 10]⟩ : ByteArray).data.toList s.data.toList p = false from HCR.out]
  go_wp2_with fail
  refine (newline_any _ hs (by omega) (HS.out.drewN _)).mono ?_
  rintro e w1 ⟨rfl, hk, hS1⟩
  rw [HNL.out] at hS1 ⊢
  have HS1 := Lib.hid hS1
  have HK := Lib.hid (show Kf (So b) w w1 from ((Kf.refl _ _).drewN _).trans hk)
  have HB1 := Lib.hid (Bld.so HB.out HS.out HK.out)
  clear hS1 hk
  go_wp2
  go_end0
  exact ⟨so_sx HK.out, rfl, HS1.out, by rw [List.append_nil]; exact HB1.out⟩
set_option maxHeartbeats 1000000 in
set_option maxRecDepth 100000 in
theorem esc_digit (frm : Nat) (w : World) (hs : s.size ≤ 140737488351232) (hp : p < s.size) (h : Scn b s lv p ln ov opn w) (hB : Bld B x l w) (_hxB : x ≤ B) (_hl : l.length + 4 ≤ 140737488355328)
    (hi : Lib.indexByte Lx.escs (Lx.pk s.data.toList p) < 0) (hcr : Lx.pre [13, 10] s.data.toList p = false) (hnl : Lx.nl s.data.toList p = none) (hdg : Lx.isDig (Lx.pk s.data.toList p) = true) (hz : Lx.pk s.data.toList p ≠ 48) :
    Calls Tryz.prog 105 #[.pointer (some ⟨b, 0, none⟩), .pointer (some ⟨x, 0, none⟩), .int .i64 frm] w (EscPost b s lv ln ov opn B x l frm w (none)) := by
  have h0 := h.c0
  have h1 := h.c1
  have f1 := h.fz 1
  have hlt : (p : Int) < (s.size : Int) := by omega
  have hge : decide ((s.size : Int) ≤ (p : Int)) = false := by simp; omega
  obtain ⟨c, hc⟩ : ∃ c, Lx.pk s.data.toList p = c := ⟨_, rfl⟩
  rw [hc] at hi hdg hz
  have tz : ((c.toNat : Int) != 48) = true := by have := toNat_ne hz; simpa [bne] using this
  have HDG := Lib.hid hdg
  clear hdg hz
  have HC := Lib.hid hc
  clear hc
  have HCR := Lib.hid hcr
  have HNL := Lib.hid hnl
  clear hcr hnl
  have HS := Lib.hid h
  have HB := Lib.hid hB
  clear h hB
  go_enter Tryz.func105, Tryz.ntmps105
  go_wp2_with fail
  refine (peek0 _ hs (by omega) HS.out).mono ?_
  rintro e w1 ⟨rfl, n1, rfl⟩
  rw [HC.out]
  go_wp2_with fail
  refine (idxEsc _ _).mono ?_
  rintro e w1 ⟨rfl, rfl⟩
  go_wp2
  go_quiet (fail)
  go_wp2_with fail
  refine (has_any _ _ hs (by omega) (HS.out.drewN _)).mono ?_
  rintro e w1 ⟨rfl, n2, rfl⟩
  rw [show Lx.pre (⟨#[13, 10]⟩ : ByteArray).data.toList s.data.toList p = false from HCR.out]
  go_wp2_with fail
  refine (newline_any _ hs (by omega) (HS.out.drewN _)).mono ?_
  rintro e w1 ⟨rfl, hk, hS1⟩
  rw [HNL.out] at hS1 ⊢
  have hS1 : Scn b s lv p ln ov opn w1 := hS1
  have HS1 := Lib.hid hS1
  have HK := Lib.hid (show Kf (So b) w w1 from ((Kf.refl _ _).drewN _).trans hk)
  have HB1 := Lib.hid (Bld.so HB.out HS.out HK.out)
  have k0 := hS1.c0
  have k1 := hS1.c1
  have g1 := hS1.fz 1
  clear hS1 hk
  go_wp2_with fail
  refine (digit_any _ _).mono ?_
  rintro e w2 ⟨rfl, rfl⟩
  rw [HDG.out]
  go_wp2
  exact ⟨rfl, so_sx HK.out, rfl⟩
set_option maxHeartbeats 1000000 in
set_option maxRecDepth 100000 in
theorem esc_zero_bad (frm : Nat) (w : World) (hs : s.size ≤ 140737488351232) (hp : p < s.size) (h : Scn b s lv p ln ov opn w) (hB : Bld B x l w) (_hxB : x ≤ B) (_hl : l.length + 4 ≤ 140737488355328)
    (hcr : Lx.pre [13, 10] s.data.toList p = false) (hnl : Lx.nl s.data.toList p = none) (hc : Lx.pk s.data.toList p = 48) (hd : Lx.isDig (Lx.pk s.data.toList (p + 1)) = true) :
    Calls Tryz.prog 105 #[.pointer (some ⟨b, 0, none⟩), .pointer (some ⟨x, 0, none⟩), .int .i64 frm] w (EscPost b s lv ln ov opn B x l frm w (none)) := by
  have h0 := h.c0
  have h1 := h.c1
  have f1 := h.fz 1
  have hlt : (p : Int) < (s.size : Int) := by omega
  have hge : decide ((s.size : Int) ≤ (p : Int)) = false := by simp; omega
  have HDN := Lib.hid hd
  clear hd
  have HC := Lib.hid hc
  clear hc
  have HCR := Lib.hid hcr
  have HNL := Lib.hid hnl
  clear hcr hnl
  have HS := Lib.hid h
  have HB := Lib.hid hB
  clear h hB
  go_enter Tryz.func105, Tryz.ntmps105
  go_wp2_with fail
  refine (peek0 _ hs (by omega) HS.out).mono ?_
  rintro e w1 ⟨rfl, n1, rfl⟩
  rw [HC.out]
  go_wp2_with fail
  refine (idxEsc 48 _).mono ?_
  rintro e w1 ⟨rfl, rfl⟩
  rw [show Lib.indexByte Lx.escs 48 = -1 from by decide]
  go_wp2
  go_quiet (fail)
  go_wp2_with fail
  refine (has_any _ _ hs (by omega) (HS.out.drewN _)).mono ?_
  rintro e w1 ⟨rfl, n2, rfl⟩
  rw [show Lx.pre (⟨#[13, 10]⟩ : ByteArray).data.toList s.data.toList p = false from HCR.out]
  go_wp2_with fail
  refine (newline_any _ hs (by omega) (HS.out.drewN _)).mono ?_
  rintro e w1 ⟨rfl, hk, hS1⟩
  rw [HNL.out] at hS1 ⊢
  have hS1 : Scn b s lv p ln ov opn w1 := hS1
  have HS1 := Lib.hid hS1
  have HK := Lib.hid (show Kf (So b) w w1 from ((Kf.refl _ _).drewN _).trans hk)
  have HB1 := Lib.hid (Bld.so HB.out HS.out HK.out)
  have k0 := hS1.c0
  have k1 := hS1.c1
  have g1 := hS1.fz 1
  clear hS1 hk
  go_wp2_with fail
  refine (digit_any 48 _).mono ?_
  rintro e w2 ⟨rfl, rfl⟩
  rw [show Lx.isDig 48 = true from rfl]
  go_wp2_with fail
  refine (peek1 _ hs (by omega) HS1.out).mono ?_
  rintro e w2 ⟨rfl, n3, rfl⟩
  go_wp2_with fail
  refine (digit_any _ _).mono ?_
  rintro e w2 ⟨rfl, rfl⟩
  rw [HDN.out]
  go_wp2
  exact ⟨rfl, so_sx (HK.out.drewN _), rfl⟩
set_option maxHeartbeats 1000000 in
set_option maxRecDepth 100000 in
theorem esc_zero (frm : Nat) (w : World) (hs : s.size ≤ 140737488351232) (hp : p < s.size) (h : Scn b s lv p ln ov opn w) (hB : Bld B x l w) (hxB : x ≤ B) (hl : l.length + 4 ≤ 140737488355328)
    (hcr : Lx.pre [13, 10] s.data.toList p = false) (hnl : Lx.nl s.data.toList p = none) (hc : Lx.pk s.data.toList p = 48) (hd : Lx.isDig (Lx.pk s.data.toList (p + 1)) = false) :
    Calls Tryz.prog 105 #[.pointer (some ⟨b, 0, none⟩), .pointer (some ⟨x, 0, none⟩), .int .i64 frm] w (EscPost b s lv ln ov opn B x l frm w (some (Lx.u16 0, p + 1))) := by
  have h0 := h.c0
  have h1 := h.c1
  have f1 := h.fz 1
  have hlt : (p : Int) < (s.size : Int) := by omega
  have hge : decide ((s.size : Int) ≤ (p : Int)) = false := by simp; omega
  have HDN := Lib.hid hd
  clear hd
  have HC := Lib.hid hc
  clear hc
  have HCR := Lib.hid hcr
  have HNL := Lib.hid hnl
  clear hcr hnl
  have HS := Lib.hid h
  have HB := Lib.hid hB
  clear h hB
  go_enter Tryz.func105, Tryz.ntmps105
  go_wp2_with fail
  refine (peek0 _ hs (by omega) HS.out).mono ?_
  rintro e w1 ⟨rfl, n1, rfl⟩
  rw [HC.out]
  go_wp2_with fail
  refine (idxEsc 48 _).mono ?_
  rintro e w1 ⟨rfl, rfl⟩
  rw [show Lib.indexByte Lx.escs 48 = -1 from by decide]
  go_wp2
  go_quiet (fail)
  go_wp2_with fail
  refine (has_any _ _ hs (by omega) (HS.out.drewN _)).mono ?_
  rintro e w1 ⟨rfl, n2, rfl⟩
  rw [show Lx.pre (⟨#[13, 10]⟩ : ByteArray).data.toList s.data.toList p = false from HCR.out]
  go_wp2_with fail
  refine (newline_any _ hs (by omega) (HS.out.drewN _)).mono ?_
  rintro e w1 ⟨rfl, hk, hS1⟩
  rw [HNL.out] at hS1 ⊢
  have hS1 : Scn b s lv p ln ov opn w1 := hS1
  have HS1 := Lib.hid hS1
  have HK := Lib.hid (show Kf (So b) w w1 from ((Kf.refl _ _).drewN _).trans hk)
  have HB1 := Lib.hid (Bld.so HB.out HS.out HK.out)
  have k0 := hS1.c0
  have k1 := hS1.c1
  have g1 := hS1.fz 1
  clear hS1 hk
  go_wp2_with fail
  refine (digit_any 48 _).mono ?_
  rintro e w2 ⟨rfl, rfl⟩
  rw [show Lx.isDig 48 = true from rfl]
  go_wp2_with fail
  refine (peek1 _ hs (by omega) HS1.out).mono ?_
  rintro e w2 ⟨rfl, n3, rfl⟩
  go_wp2_with fail
  refine (digit_any _ _).mono ?_
  rintro e w2 ⟨rfl, rfl⟩
  rw [HDN.out]
  go_wp2_with fail
  refine (put_any 0 (by decide) (Bld.setScn (HB1.out.drewN _) (HS1.out.drewN _) 1 _) (by omega)).mono ?_
  rintro e w4 ⟨rfl, hW⟩
  go_wp2_with fail
  go_end0
  exact ⟨(so_sx ((HK.out.drewN _).setB 1 _)).trans (kf_builder (hW.2.1.mono hxB) hW.2.2), rfl, ((HS1.out.drewN _).setTo (by omega)).wrote (Bld.setScn (HB1.out.drewN _) (HS1.out.drewN _) 1 _) hW.2.2, hW.1⟩
set_option maxHeartbeats 1000000 in
set_option maxRecDepth 100000 in
theorem esc_x_bad (frm : Nat) (w : World) (hs : s.size ≤ 140737488351232) (hp : p < s.size) (h : Scn b s lv p ln ov opn w) (hB : Bld B x l w) (_hxB : x ≤ B) (_hl : l.length + 4 ≤ 140737488355328)
    (hcr : Lx.pre [13, 10] s.data.toList p = false) (hnl : Lx.nl s.data.toList p = none) (hc : Lx.pk s.data.toList p = 120) (hx : Lx.hex s.data.toList 2 2 (p + 1) = none) :
    Calls Tryz.prog 105 #[.pointer (some ⟨b, 0, none⟩), .pointer (some ⟨x, 0, none⟩), .int .i64 frm] w (EscPost b s lv ln ov opn B x l frm w (none)) := by
  have h0 := h.c0
  have h1 := h.c1
  have f1 := h.fz 1
  have hlt : (p : Int) < (s.size : Int) := by omega
  have hge : decide ((s.size : Int) ≤ (p : Int)) = false := by simp; omega
  have HX := Lib.hid hx
  clear hx
  have HC := Lib.hid hc
  clear hc
  have HCR := Lib.hid hcr
  have HNL := Lib.hid hnl
  clear hcr hnl
  have HS := Lib.hid h
  have HB := Lib.hid hB
  clear h hB
  go_enter Tryz.func105, Tryz.ntmps105
  go_wp2_with fail
  refine (peek0 _ hs (by omega) HS.out).mono ?_
  rintro e w1 ⟨rfl, n1, rfl⟩
  rw [HC.out]
  go_wp2_with fail
  refine (idxEsc 120 _).mono ?_
  rintro e w1 ⟨rfl, rfl⟩
  rw [show Lib.indexByte Lx.escs 120 = -1 from by decide]
  go_wp2
  go_quiet (fail)
  go_wp2_with fail
  refine (has_any _ _ hs (by omega) (HS.out.drewN _)).mono ?_
  rintro e w1 ⟨rfl, n2, rfl⟩
  rw [show Lx.pre (⟨#[13, 10]⟩ : ByteArray).data.toList s.data.toList p = false from HCR.out]
  go_wp2_with fail
  refine (newline_any _ hs (by omega) (HS.out.drewN _)).mono ?_
  rintro e w1 ⟨rfl, hk, hS1⟩
  rw [HNL.out] at hS1 ⊢
  have hS1 : Scn b s lv p ln ov opn w1 := hS1
  have HS1 := Lib.hid hS1
  have HK := Lib.hid (show Kf (So b) w w1 from ((Kf.refl _ _).drewN _).trans hk)
  have HB1 := Lib.hid (Bld.so HB.out HS.out HK.out)
  have k0 := hS1.c0
  have k1 := hS1.c1
  have g1 := hS1.fz 1
  clear hS1 hk
  go_wp2_with fail
  refine (digit_any 120 _).mono ?_
  rintro e w2 ⟨rfl, rfl⟩
  rw [show Lx.isDig 120 = false from rfl]
  go_wp2_with fail
  refine (hex_any 2 2 frm _ hs (by omega) (by decide) (by decide) (HS1.out.setTo (q := p + 1) (by omega))).mono ?_
  rintro e w3 hP
  rw [HX.out] at hP
  obtain ⟨hK3, he⟩ := hP
  subst he
  unfold wrongAt
  go_wp2
  exact ⟨rfl, so_sx ((HK.out.setB 1 _).trans hK3), rfl⟩
set_option maxHeartbeats 1000000 in
set_option maxRecDepth 100000 in
theorem esc_x (frm : Nat) (w : World) (hs : s.size ≤ 140737488351232) (hp : p < s.size) (h : Scn b s lv p ln ov opn w) (hB : Bld B x l w) (hxB : x ≤ B) (hl : l.length + 4 ≤ 140737488355328)
    (hcr : Lx.pre [13, 10] s.data.toList p = false) (hnl : Lx.nl s.data.toList p = none) (hc : Lx.pk s.data.toList p = 120) {v q : Nat} (hx : Lx.hex s.data.toList 2 2 (p + 1) = some (v, q)) :
    Calls Tryz.prog 105 #[.pointer (some ⟨b, 0, none⟩), .pointer (some ⟨x, 0, none⟩), .int .i64 frm] w (EscPost b s lv ln ov opn B x l frm w (some (Lx.u16 v, q))) := by
  have h0 := h.c0
  have h1 := h.c1
  have f1 := h.fz 1
  have hlt : (p : Int) < (s.size : Int) := by omega
  have hge : decide ((s.size : Int) ≤ (p : Int)) = false := by simp; omega
  have hv := hex_lt hx
  simp only [Nat.reducePow] at hv
  have HX := Lib.hid hx
  clear hx
  have HC := Lib.hid hc
  clear hc
  have HCR := Lib.hid hcr
  have HNL := Lib.hid hnl
  clear hcr hnl
  have HS := Lib.hid h
  have HB := Lib.hid hB
  clear h hB
  go_enter Tryz.func105, Tryz.ntmps105
  go_wp2_with fail
  refine (peek0 _ hs (by omega) HS.out).mono ?_
  rintro e w1 ⟨rfl, n1, rfl⟩
  rw [HC.out]
  go_wp2_with fail
  refine (idxEsc 120 _).mono ?_
  rintro e w1 ⟨rfl, rfl⟩
  rw [show Lib.indexByte Lx.escs 120 = -1 from by decide]
  go_wp2
  go_quiet (fail)
  go_wp2_with fail
  refine (has_any _ _ hs (by omega) (HS.out.drewN _)).mono ?_
  rintro e w1 ⟨rfl, n2, rfl⟩
  rw [show Lx.pre (⟨#[13, 10]⟩ : ByteArray).data.toList s.data.toList p = false from HCR.out]
  go_wp2_with fail
  refine (newline_any _ hs (by omega) (HS.out.drewN _)).mono ?_
  rintro e w1 ⟨rfl, hk, hS1⟩
  rw [HNL.out] at hS1 ⊢
  have hS1 : Scn b s lv p ln ov opn w1 := hS1
  have HS1 := Lib.hid hS1
  have HK := Lib.hid (show Kf (So b) w w1 from ((Kf.refl _ _).drewN _).trans hk)
  have HB1 := Lib.hid (Bld.so HB.out HS.out HK.out)
  have k0 := hS1.c0
  have k1 := hS1.c1
  have g1 := hS1.fz 1
  clear hS1 hk
  go_wp2_with fail
  refine (digit_any 120 _).mono ?_
  rintro e w2 ⟨rfl, rfl⟩
  rw [show Lx.isDig 120 = false from rfl]
  go_wp2_with fail
  refine (hex_any 2 2 frm _ hs (by omega) (by decide) (by decide) (HS1.out.setTo (q := p + 1) (by omega))).mono ?_
  rintro e w3 hP
  rw [HX.out] at hP
  obtain ⟨hK3, rfl, hS3⟩ := hP
  have HS3 := Lib.hid hS3
  have HK3 := Lib.hid ((HK.out.setB 1 _).trans hK3)
  have HB3 := Lib.hid (Bld.so (Bld.setScn HB1.out HS1.out 1 _) (HS1.out.setTo (q := p + 1) (by omega)) hK3)
  clear hS3 hK3
  go_wp2_with fail
  refine (put_any v (by omega) HB3.out (by omega)).mono ?_
  rintro e w4 ⟨rfl, hW⟩
  go_wp2_with fail
  go_end0
  exact ⟨(so_sx HK3.out).trans (kf_builder (hW.2.1.mono hxB) hW.2.2), rfl, HS3.out.wrote HB3.out hW.2.2, hW.1⟩
set_option maxHeartbeats 1000000 in
set_option maxRecDepth 100000 in
theorem esc_u_bad (frm : Nat) (w : World) (hs : s.size ≤ 140737488351232) (hp : p < s.size) (h : Scn b s lv p ln ov opn w) (hB : Bld B x l w) (_hxB : x ≤ B) (_hl : l.length + 4 ≤ 140737488355328)
    (hcr : Lx.pre [13, 10] s.data.toList p = false) (hnl : Lx.nl s.data.toList p = none) (hc : Lx.pk s.data.toList p = 117) (hb : Lx.pk s.data.toList (p + 1) ≠ 123) (hx : Lx.hex s.data.toList 4 4 (p + 1) = none) :
    Calls Tryz.prog 105 #[.pointer (some ⟨b, 0, none⟩), .pointer (some ⟨x, 0, none⟩), .int .i64 frm] w (EscPost b s lv ln ov opn B x l frm w (none)) := by
  have h0 := h.c0
  have h1 := h.c1
  have f1 := h.fz 1
  have hlt : (p : Int) < (s.size : Int) := by omega
  have hge : decide ((s.size : Int) ≤ (p : Int)) = false := by simp; omega
  have tb : (((Lx.pk s.data.toList (p + 1)).toNat : Int) == 123) = false := toNat_ne hb
  clear hb
  have HX := Lib.hid hx
  clear hx
  have HC := Lib.hid hc
  clear hc
  have HCR := Lib.hid hcr
  have HNL := Lib.hid hnl
  clear hcr hnl
  have HS := Lib.hid h
  have HB := Lib.hid hB
  clear h hB
  go_enter Tryz.func105, Tryz.ntmps105
  go_wp2_with fail
  refine (peek0 _ hs (by omega) HS.out).mono ?_
  rintro e w1 ⟨rfl, n1, rfl⟩
  rw [HC.out]
  go_wp2_with fail
  refine (idxEsc 117 _).mono ?_
  rintro e w1 ⟨rfl, rfl⟩
  rw [show Lib.indexByte Lx.escs 117 = -1 from by decide]
  go_wp2
  go_quiet (fail)
  go_wp2_with fail
  refine (has_any _ _ hs (by omega) (HS.out.drewN _)).mono ?_
  rintro e w1 ⟨rfl, n2, rfl⟩
  rw [show Lx.pre (⟨#[13, 10]⟩ : ByteArray).data.toList s.data.toList p = false from HCR.out]
  go_wp2_with fail
  refine (newline_any _ hs (by omega) (HS.out.drewN _)).mono ?_
  rintro e w1 ⟨rfl, hk, hS1⟩
  rw [HNL.out] at hS1 ⊢
  have hS1 : Scn b s lv p ln ov opn w1 := hS1
  have HS1 := Lib.hid hS1
  have HK := Lib.hid (show Kf (So b) w w1 from ((Kf.refl _ _).drewN _).trans hk)
  have HB1 := Lib.hid (Bld.so HB.out HS.out HK.out)
  have k0 := hS1.c0
  have k1 := hS1.c1
  have g1 := hS1.fz 1
  clear hS1 hk
  go_wp2_with fail
  refine (digit_any 117 _).mono ?_
  rintro e w2 ⟨rfl, rfl⟩
  rw [show Lx.isDig 117 = false from rfl]
  go_wp2_with fail
  refine (peek1 _ hs (by omega) HS1.out).mono ?_
  rintro e w2 ⟨rfl, n3, rfl⟩
  go_wp2_with fail
  refine (hex_any 4 4 frm _ hs (by omega) (by decide) (by decide) ((HS1.out.drewN _).setTo (q := p + 1) (by omega))).mono ?_
  rintro e w3 hP
  rw [HX.out] at hP
  obtain ⟨hK3, he⟩ := hP
  subst he
  unfold wrongAt
  go_wp2
  exact ⟨rfl, so_sx (((HK.out.drewN _).setB 1 _).trans hK3), rfl⟩
set_option maxHeartbeats 1000000 in
set_option maxRecDepth 100000 in
theorem esc_u (frm : Nat) (w : World) (hs : s.size ≤ 140737488351232) (hp : p < s.size) (h : Scn b s lv p ln ov opn w) (hB : Bld B x l w) (hxB : x ≤ B) (hl : l.length + 4 ≤ 140737488355328)
    (hcr : Lx.pre [13, 10] s.data.toList p = false) (hnl : Lx.nl s.data.toList p = none) (hc : Lx.pk s.data.toList p = 117) (hb : Lx.pk s.data.toList (p + 1) ≠ 123) {v q : Nat} (hx : Lx.hex s.data.toList 4 4 (p + 1) = some (v, q)) :
    Calls Tryz.prog 105 #[.pointer (some ⟨b, 0, none⟩), .pointer (some ⟨x, 0, none⟩), .int .i64 frm] w (EscPost b s lv ln ov opn B x l frm w (some (Lx.u16 v, q))) := by
  have h0 := h.c0
  have h1 := h.c1
  have f1 := h.fz 1
  have hlt : (p : Int) < (s.size : Int) := by omega
  have hge : decide ((s.size : Int) ≤ (p : Int)) = false := by simp; omega
  have tb : (((Lx.pk s.data.toList (p + 1)).toNat : Int) == 123) = false := toNat_ne hb
  clear hb
  have hv := hex_lt hx
  simp only [Nat.reducePow] at hv
  have HX := Lib.hid hx
  clear hx
  have HC := Lib.hid hc
  clear hc
  have HCR := Lib.hid hcr
  have HNL := Lib.hid hnl
  clear hcr hnl
  have HS := Lib.hid h
  have HB := Lib.hid hB
  clear h hB
  go_enter Tryz.func105, Tryz.ntmps105
  go_wp2_with fail
  refine (peek0 _ hs (by omega) HS.out).mono ?_
  rintro e w1 ⟨rfl, n1, rfl⟩
  rw [HC.out]
  go_wp2_with fail
  refine (idxEsc 117 _).mono ?_
  rintro e w1 ⟨rfl, rfl⟩
  rw [show Lib.indexByte Lx.escs 117 = -1 from by decide]
  go_wp2
  go_quiet (fail)
  go_wp2_with fail
  refine (has_any _ _ hs (by omega) (HS.out.drewN _)).mono ?_
  rintro e w1 ⟨rfl, n2, rfl⟩
  rw [show Lx.pre (⟨#[13, 10]⟩ : ByteArray).data.toList s.data.toList p = false from HCR.out]
  go_wp2_with fail
  refine (newline_any _ hs (by omega) (HS.out.drewN _)).mono ?_
  rintro e w1 ⟨rfl, hk, hS1⟩
  rw [HNL.out] at hS1 ⊢
  have hS1 : Scn b s lv p ln ov opn w1 := hS1
  have HS1 := Lib.hid hS1
  have HK := Lib.hid (show Kf (So b) w w1 from ((Kf.refl _ _).drewN _).trans hk)
  have HB1 := Lib.hid (Bld.so HB.out HS.out HK.out)
  have k0 := hS1.c0
  have k1 := hS1.c1
  have g1 := hS1.fz 1
  clear hS1 hk
  go_wp2_with fail
  refine (digit_any 117 _).mono ?_
  rintro e w2 ⟨rfl, rfl⟩
  rw [show Lx.isDig 117 = false from rfl]
  go_wp2_with fail
  refine (peek1 _ hs (by omega) HS1.out).mono ?_
  rintro e w2 ⟨rfl, n3, rfl⟩
  go_wp2_with fail
  refine (hex_any 4 4 frm _ hs (by omega) (by decide) (by decide) ((HS1.out.drewN _).setTo (q := p + 1) (by omega))).mono ?_
  rintro e w3 hP
  rw [HX.out] at hP
  obtain ⟨hK3, rfl, hS3⟩ := hP
  have HS3 := Lib.hid hS3
  have HK3 := Lib.hid (((HK.out.drewN _).setB 1 _).trans hK3)
  have HB3 := Lib.hid (Bld.so (Bld.setScn (HB1.out.drewN _) (HS1.out.drewN _) 1 _) ((HS1.out.drewN _).setTo (q := p + 1) (by omega)) hK3)
  clear hS3 hK3
  go_wp2_with fail
  refine (put_any v (by omega) HB3.out (by omega)).mono ?_
  rintro e w4 ⟨rfl, hW⟩
  go_wp2_with fail
  go_end0
  exact ⟨(so_sx HK3.out).trans (kf_builder (hW.2.1.mono hxB) hW.2.2), rfl, HS3.out.wrote HB3.out hW.2.2, hW.1⟩
set_option maxHeartbeats 1000000 in
set_option maxRecDepth 100000 in
theorem esc_brace_bad (frm : Nat) (w : World) (hs : s.size ≤ 140737488351232) (hp : p < s.size) (h : Scn b s lv p ln ov opn w) (hB : Bld B x l w) (_hxB : x ≤ B) (_hl : l.length + 4 ≤ 140737488355328)
    (hcr : Lx.pre [13, 10] s.data.toList p = false) (hnl : Lx.nl s.data.toList p = none) (hc : Lx.pk s.data.toList p = 117) (hpb : Lx.pk s.data.toList (p + 1) = 123) (hle : p + 2 ≤ s.size) (hx : Lx.hex s.data.toList 1 s.size (p + 2) = none) :
    Calls Tryz.prog 105 #[.pointer (some ⟨b, 0, none⟩), .pointer (some ⟨x, 0, none⟩), .int .i64 frm] w (EscPost b s lv ln ov opn B x l frm w (none)) := by
  have h0 := h.c0
  have h1 := h.c1
  have f1 := h.fz 1
  have hlt : (p : Int) < (s.size : Int) := by omega
  have hge : decide ((s.size : Int) ≤ (p : Int)) = false := by simp; omega
  have HPB := Lib.hid hpb
  clear hpb
  have HX := Lib.hid hx
  clear hx
  have HC := Lib.hid hc
  clear hc
  have HCR := Lib.hid hcr
  have HNL := Lib.hid hnl
  clear hcr hnl
  have HS := Lib.hid h
  have HB := Lib.hid hB
  clear h hB
  go_enter Tryz.func105, Tryz.ntmps105
  go_wp2_with fail
  refine (peek0 _ hs (by omega) HS.out).mono ?_
  rintro e w1 ⟨rfl, n1, rfl⟩
  rw [HC.out]
  go_wp2_with fail
  refine (idxEsc 117 _).mono ?_
  rintro e w1 ⟨rfl, rfl⟩
  rw [show Lib.indexByte Lx.escs 117 = -1 from by decide]
  go_wp2
  go_quiet (fail)
  go_wp2_with fail
  refine (has_any _ _ hs (by omega) (HS.out.drewN _)).mono ?_
  rintro e w1 ⟨rfl, n2, rfl⟩
  rw [show Lx.pre (⟨#[13, 10]⟩ : ByteArray).data.toList s.data.toList p = false from HCR.out]
  go_wp2_with fail
  refine (newline_any _ hs (by omega) (HS.out.drewN _)).mono ?_
  rintro e w1 ⟨rfl, hk, hS1⟩
  rw [HNL.out] at hS1 ⊢
  have hS1 : Scn b s lv p ln ov opn w1 := hS1
  have HS1 := Lib.hid hS1
  have HK := Lib.hid (show Kf (So b) w w1 from ((Kf.refl _ _).drewN _).trans hk)
  have HB1 := Lib.hid (Bld.so HB.out HS.out HK.out)
  have k0 := hS1.c0
  have k1 := hS1.c1
  have g1 := hS1.fz 1
  clear hS1 hk
  go_wp2_with fail
  refine (digit_any 117 _).mono ?_
  rintro e w2 ⟨rfl, rfl⟩
  rw [show Lx.isDig 117 = false from rfl]
  go_wp2_with fail
  refine (peek1 _ hs (by omega) HS1.out).mono ?_
  rintro e w2 ⟨rfl, n3, rfl⟩
  rw [HPB.out]
  go_wp2_with fail
  refine (hex_any 1 s.size frm _ hs hle (by decide) (by omega) ((HS1.out.drewN _).setTo (x := (p : Int) + 2) (q := p + 2) (by omega))).mono ?_
  rintro e w3 hP
  rw [HX.out] at hP
  obtain ⟨hK3, he⟩ := hP
  subst he
  unfold wrongAt
  go_wp2
  exact ⟨rfl, so_sx (((HK.out.drewN _).setB 1 _).trans hK3), rfl⟩
set_option maxHeartbeats 1000000 in
set_option maxRecDepth 100000 in
theorem esc_brace_open (frm : Nat) (w : World) (hs : s.size ≤ 140737488351232) (hp : p < s.size) (h : Scn b s lv p ln ov opn w) (hB : Bld B x l w) (_hxB : x ≤ B) (_hl : l.length + 4 ≤ 140737488355328)
    (hcr : Lx.pre [13, 10] s.data.toList p = false) (hnl : Lx.nl s.data.toList p = none) (hc : Lx.pk s.data.toList p = 117) (hpb : Lx.pk s.data.toList (p + 1) = 123) (hle : p + 2 ≤ s.size) {r q : Nat} (hq : q ≤ s.size) (hx : Lx.hex s.data.toList 1 s.size (p + 2) = some (r, q)) (ht : Lx.pk s.data.toList q ≠ 125) :
    Calls Tryz.prog 105 #[.pointer (some ⟨b, 0, none⟩), .pointer (some ⟨x, 0, none⟩), .int .i64 frm] w (EscPost b s lv ln ov opn B x l frm w (none)) := by
  have h0 := h.c0
  have h1 := h.c1
  have f1 := h.fz 1
  have hlt : (p : Int) < (s.size : Int) := by omega
  have hge : decide ((s.size : Int) ≤ (p : Int)) = false := by simp; omega
  have tt : (((Lx.pk s.data.toList q).toNat : Int) == 125) = false := toNat_ne ht
  clear ht
  have HPB := Lib.hid hpb
  clear hpb
  have HX := Lib.hid hx
  clear hx
  have HC := Lib.hid hc
  clear hc
  have HCR := Lib.hid hcr
  have HNL := Lib.hid hnl
  clear hcr hnl
  have HS := Lib.hid h
  have HB := Lib.hid hB
  clear h hB
  go_enter Tryz.func105, Tryz.ntmps105
  go_wp2_with fail
  refine (peek0 _ hs (by omega) HS.out).mono ?_
  rintro e w1 ⟨rfl, n1, rfl⟩
  rw [HC.out]
  go_wp2_with fail
  refine (idxEsc 117 _).mono ?_
  rintro e w1 ⟨rfl, rfl⟩
  rw [show Lib.indexByte Lx.escs 117 = -1 from by decide]
  go_wp2
  go_quiet (fail)
  go_wp2_with fail
  refine (has_any _ _ hs (by omega) (HS.out.drewN _)).mono ?_
  rintro e w1 ⟨rfl, n2, rfl⟩
  rw [show Lx.pre (⟨#[13, 10]⟩ : ByteArray).data.toList s.data.toList p = false from HCR.out]
  go_wp2_with fail
  refine (newline_any _ hs (by omega) (HS.out.drewN _)).mono ?_
  rintro e w1 ⟨rfl, hk, hS1⟩
  rw [HNL.out] at hS1 ⊢
  have hS1 : Scn b s lv p ln ov opn w1 := hS1
  have HS1 := Lib.hid hS1
  have HK := Lib.hid (show Kf (So b) w w1 from ((Kf.refl _ _).drewN _).trans hk)
  have HB1 := Lib.hid (Bld.so HB.out HS.out HK.out)
  have k0 := hS1.c0
  have k1 := hS1.c1
  have g1 := hS1.fz 1
  clear hS1 hk
  go_wp2_with fail
  refine (digit_any 117 _).mono ?_
  rintro e w2 ⟨rfl, rfl⟩
  rw [show Lx.isDig 117 = false from rfl]
  go_wp2_with fail
  refine (peek1 _ hs (by omega) HS1.out).mono ?_
  rintro e w2 ⟨rfl, n3, rfl⟩
  rw [HPB.out]
  go_wp2_with fail
  refine (hex_any 1 s.size frm _ hs hle (by decide) (by omega) ((HS1.out.drewN _).setTo (x := (p : Int) + 2) (q := p + 2) (by omega))).mono ?_
  rintro e w3 hP
  rw [HX.out] at hP
  obtain ⟨hK3, rfl, hS3⟩ := hP
  have k3 := hS3.c1
  have g3 := hS3.fz 1
  have HS3 := Lib.hid hS3
  have HK3 := Lib.hid (((HK.out.drewN _).setB 1 _).trans hK3)
  have HB3 := Lib.hid (Bld.so (Bld.setScn (HB1.out.drewN _) (HS1.out.drewN _) 1 _) ((HS1.out.drewN _).setTo (x := (p : Int) + 2) (q := p + 2) (by omega)) hK3)
  clear hS3 hK3
  go_wp2_with fail
  refine (peek0 _ hs hq HS3.out).mono ?_
  rintro e w4 ⟨rfl, n4, rfl⟩
  go_wp2
  exact ⟨rfl, so_sx (HK3.out.drewN _), rfl⟩
set_option maxHeartbeats 1000000 in
set_option maxRecDepth 100000 in
theorem esc_brace (frm : Nat) (w : World) (hs : s.size ≤ 140737488351232) (hp : p < s.size) (h : Scn b s lv p ln ov opn w) (hB : Bld B x l w) (hxB : x ≤ B) (hl : l.length + 4 ≤ 140737488355328)
    (hcr : Lx.pre [13, 10] s.data.toList p = false) (hnl : Lx.nl s.data.toList p = none) (hc : Lx.pk s.data.toList p = 117) (hpb : Lx.pk s.data.toList (p + 1) = 123) (hle : p + 2 ≤ s.size) {r q : Nat} (hq : q < s.size) (hr : (r : Int) ≤ 1114111) (hx : Lx.hex s.data.toList 1 s.size (p + 2) = some (r, q)) (ht : Lx.pk s.data.toList q = 125) :
    Calls Tryz.prog 105 #[.pointer (some ⟨b, 0, none⟩), .pointer (some ⟨x, 0, none⟩), .int .i64 frm] w (EscPost b s lv ln ov opn B x l frm w (some (Lx.pointB r, q + 1))) := by
  have h0 := h.c0
  have h1 := h.c1
  have f1 := h.fz 1
  have hlt : (p : Int) < (s.size : Int) := by omega
  have hge : decide ((s.size : Int) ≤ (p : Int)) = false := by simp; omega
  have hpl := pointB_len r
  have HT := Lib.hid ht
  clear ht
  have HPB := Lib.hid hpb
  clear hpb
  have HX := Lib.hid hx
  clear hx
  have HC := Lib.hid hc
  clear hc
  have HCR := Lib.hid hcr
  have HNL := Lib.hid hnl
  clear hcr hnl
  have HS := Lib.hid h
  have HB := Lib.hid hB
  clear h hB
  go_enter Tryz.func105, Tryz.ntmps105
  go_wp2_with fail
  refine (peek0 _ hs (by omega) HS.out).mono ?_
  rintro e w1 ⟨rfl, n1, rfl⟩
  rw [HC.out]
  go_wp2_with fail
  refine (idxEsc 117 _).mono ?_
  rintro e w1 ⟨rfl, rfl⟩
  rw [show Lib.indexByte Lx.escs 117 = -1 from by decide]
  go_wp2
  go_quiet (fail)
  go_wp2_with fail
  refine (has_any _ _ hs (by omega) (HS.out.drewN _)).mono ?_
  rintro e w1 ⟨rfl, n2, rfl⟩
  rw [show Lx.pre (⟨#[13, 10]⟩ : ByteArray).data.toList s.data.toList p = false from HCR.out]
  go_wp2_with fail
  refine (newline_any _ hs (by omega) (HS.out.drewN _)).mono ?_
  rintro e w1 ⟨rfl, hk, hS1⟩
  rw [HNL.out] at hS1 ⊢
  have hS1 : Scn b s lv p ln ov opn w1 := hS1
  have HS1 := Lib.hid hS1
  have HK := Lib.hid (show Kf (So b) w w1 from ((Kf.refl _ _).drewN _).trans hk)
  have HB1 := Lib.hid (Bld.so HB.out HS.out HK.out)
  have k0 := hS1.c0
  have k1 := hS1.c1
  have g1 := hS1.fz 1
  clear hS1 hk
  go_wp2_with fail
  refine (digit_any 117 _).mono ?_
  rintro e w2 ⟨rfl, rfl⟩
  rw [show Lx.isDig 117 = false from rfl]
  go_wp2_with fail
  refine (peek1 _ hs (by omega) HS1.out).mono ?_
  rintro e w2 ⟨rfl, n3, rfl⟩
  rw [HPB.out]
  go_wp2_with fail
  refine (hex_any 1 s.size frm _ hs hle (by decide) (by omega) ((HS1.out.drewN _).setTo (x := (p : Int) + 2) (q := p + 2) (by omega))).mono ?_
  rintro e w3 hP
  rw [HX.out] at hP
  obtain ⟨hK3, rfl, hS3⟩ := hP
  have k3 := hS3.c1
  have g3 := hS3.fz 1
  have HS3 := Lib.hid hS3
  have HK3 := Lib.hid (((HK.out.drewN _).setB 1 _).trans hK3)
  have HB3 := Lib.hid (Bld.so (Bld.setScn (HB1.out.drewN _) (HS1.out.drewN _) 1 _) ((HS1.out.drewN _).setTo (x := (p : Int) + 2) (q := p + 2) (by omega)) hK3)
  clear hS3 hK3
  go_wp2_with fail
  refine (peek0 _ hs (by omega) HS3.out).mono ?_
  rintro e w4 ⟨rfl, n4, rfl⟩
  rw [HT.out]
  go_wp2_with fail
  refine (point_any (r : Int) (by omega) (by omega) _).mono ?_
  rintro e w5 ⟨rfl, hb⟩
  rw [Int.toNat_natCast]
  have HS5 := Lib.hid (((HS3.out.drewN _).setTo (q := q + 1) (by omega)).keep hb)
  have HB5 := Lib.hid ((Bld.setScn (HB3.out.drewN _) (HS3.out.drewN _) 1 _).keep hb)
  have HK5 := Lib.hid (((HK3.out.drewN _).setB 1 _).trans (Kf.of_below _ hb))
  clear hb
  go_wp2_with fail
  refine (bld_str _ HB5.out (by simp [ByteArray.size]; omega)).mono ?_
  rintro e w6 ⟨rfl, hW⟩
  go_wp2_with fail
  go_end0
  exact ⟨(so_sx HK5.out).trans (kf_builder (hW.2.1.mono hxB) hW.2.2), rfl, HS5.out.wrote HB5.out hW.2.2, by simpa using hW.1⟩
set_option maxHeartbeats 1000000 in
set_option maxRecDepth 100000 in
theorem esc_plain (frm : Nat) (w : World) (hs : s.size ≤ 140737488351232) (hp : p < s.size) (h : Scn b s lv p ln ov opn w) (hB : Bld B x l w) (hxB : x ≤ B) (hl : l.length + 4 ≤ 140737488355328)
    (hi : Lib.indexByte Lx.escs (Lx.pk s.data.toList p) < 0) (hcr : Lx.pre [13, 10] s.data.toList p = false) (hnl : Lx.nl s.data.toList p = none) (hdg : Lx.isDig (Lx.pk s.data.toList p) = false) (hx : Lx.pk s.data.toList p ≠ 120) (hu : Lx.pk s.data.toList p ≠ 117) :
    Calls Tryz.prog 105 #[.pointer (some ⟨b, 0, none⟩), .pointer (some ⟨x, 0, none⟩), .int .i64 frm] w (EscPost b s lv ln ov opn B x l frm w (some (Lx.plain s.data.toList p))) := by
  have h0 := h.c0
  have h1 := h.c1
  have f1 := h.fz 1
  have hlt : (p : Int) < (s.size : Int) := by omega
  have hge : decide ((s.size : Int) ≤ (p : Int)) = false := by simp; omega
  obtain ⟨c, hc⟩ : ∃ c, Lx.pk s.data.toList p = c := ⟨_, rfl⟩
  rw [hc] at hi hdg hx hu
  have tx : ((c.toNat : Int) == 120) = false := toNat_ne hx
  have tu : ((c.toNat : Int) == 117) = false := toNat_ne hu
  have HDG := Lib.hid hdg
  clear hdg hx hu
  have HC := Lib.hid hc
  clear hc
  have HCR := Lib.hid hcr
  have HNL := Lib.hid hnl
  clear hcr hnl
  have HS := Lib.hid h
  have HB := Lib.hid hB
  clear h hB
  go_enter Tryz.func105, Tryz.ntmps105
  go_wp2_with fail
  refine (peek0 _ hs (by omega) HS.out).mono ?_
  rintro e w1 ⟨rfl, n1, rfl⟩
  rw [HC.out]
  go_wp2_with fail
  refine (idxEsc _ _).mono ?_
  rintro e w1 ⟨rfl, rfl⟩
  go_wp2
  go_quiet (fail)
  go_wp2_with fail
  refine (has_any _ _ hs (by omega) (HS.out.drewN _)).mono ?_
  rintro e w1 ⟨rfl, n2, rfl⟩
  rw [show Lx.pre (⟨#[13, 10]⟩ : ByteArray).data.toList s.data.toList p = false from HCR.out]
  go_wp2_with fail
  refine (newline_any _ hs (by omega) (HS.out.drewN _)).mono ?_
  rintro e w1 ⟨rfl, hk, hS1⟩
  rw [HNL.out] at hS1 ⊢
  have hS1 : Scn b s lv p ln ov opn w1 := hS1
  have HS1 := Lib.hid hS1
  have HK := Lib.hid (show Kf (So b) w w1 from ((Kf.refl _ _).drewN _).trans hk)
  have HB1 := Lib.hid (Bld.so HB.out HS.out HK.out)
  have k0 := hS1.c0
  have k1 := hS1.c1
  have g1 := hS1.fz 1
  clear hS1 hk
  go_wp2_with fail
  refine (digit_any _ _).mono ?_
  rintro e w2 ⟨rfl, rfl⟩
  rw [HDG.out]
  go_wp2_with fail
  refine (plain_any _ hs hp HS1.out HB1.out hxB hl).mono ?_
  rintro e w3 ⟨rfl, hK2, hS2, hB2⟩
  go_wp2_with fail
  go_end0
  exact ⟨(so_sx HK.out).trans hK2, rfl, hS2, hB2⟩
end
end Go.Proofs.YtcgibcjpkhefpaaGreatDoor
namespace Go.Proofs.YtcgibcjpkhefpaaGreatDoor
open Go.RowKit
section
variable {b : Nat} {s : ByteArray} {lv ov : Value} {p : Nat} {ln : Bool} {opn : List Int} {B x : Nat} {l : List UInt8}
theorem letters : ∀ c : UInt8, 0 ≤ Lib.indexByte Lx.escs c → c = 110 ∨ c = 116 ∨ c = 98 ∨ c = 118 ∨ c = 102 ∨ c = 114 := u8_all (by decide +kernel)
theorem pre_head {a : UInt8} {t l : List UInt8} {p : Nat} (h : Lx.pre (a :: t) l p = true) : Lx.pk l p = a := by
  simp only [Lx.pre, List.isPrefixOf_iff_prefix] at h
  obtain ⟨r, hr⟩ := h
  have : (l.drop p)[0]? = some a := by rw [← hr]; rfl
  rw [List.getElem?_drop] at this
  simp only [Lx.pk]
  rw [show l[p]? = some a by simpa using this]
  rfl
theorem esc_any (frm : Nat) (w : World) (hs : s.size ≤ 140737488351232) (hp : p ≤ s.size) (h : Scn b s lv p ln ov opn w) (hB : Bld B x l w) (hxB : x ≤ B) (hl : l.length + 4 ≤ 140737488355328) :
    Calls Tryz.prog 105 #[.pointer (some ⟨b, 0, none⟩), .pointer (some ⟨x, 0, none⟩), .int .i64 frm] w (EscPost b s lv ln ov opn B x l frm w (Lx.escape s.data.toList p)) := by
  have hlen : s.data.toList.length = s.size := by simp
  unfold Lx.escape
  simp only
  split
  · exact esc_end frm w hs (by omega) hp h hB hxB hl
  rename_i hge
  have hlt : p < s.size := by omega
  split
  · rename_i hi
    rcases letters _ hi with e | e | e | e | e | e <;> rw [e]
    · exact esc_letter110 frm w hs hlt h hB hxB hl e
    · exact esc_letter116 frm w hs hlt h hB hxB hl e
    · exact esc_letter98 frm w hs hlt h hB hxB hl e
    · exact esc_letter118 frm w hs hlt h hB hxB hl e
    · exact esc_letter102 frm w hs hlt h hB hxB hl e
    · exact esc_letter114 frm w hs hlt h hB hxB hl e
  rename_i hi
  have hi : Lib.indexByte Lx.escs (Lx.pk s.data.toList p) < 0 := by omega
  split
  · rename_i hcr
    exact esc_crlf frm w hs hlt h hB hxB hl (pre_head hcr) hcr
  rename_i hcr
  have hcr : Lx.pre [13, 10] s.data.toList p = false := by simpa using hcr
  split
  · rename_i q hnl
    exact esc_line frm w hs hlt h hB hxB hl hi hcr hnl
  rename_i hnl
  split
  · rename_i hdg
    by_cases hz : Lx.pk s.data.toList p = 48
    · cases hd : Lx.isDig (Lx.pk s.data.toList (p + 1)) with
      | true => rw [hz]; exact esc_zero_bad frm w hs hlt h hB hxB hl hcr hnl hz hd
      | false => rw [hz]; exact esc_zero frm w hs hlt h hB hxB hl hcr hnl hz hd
    · rw [if_pos (by simp [hz])]
      exact esc_digit frm w hs hlt h hB hxB hl hi hcr hnl hdg hz
  rename_i hdg
  have hdg : Lx.isDig (Lx.pk s.data.toList p) = false := by simpa using hdg
  split
  · rename_i hx
    have hx : Lx.pk s.data.toList p = 120 := by simpa using hx
    cases hh : Lx.hex s.data.toList 2 2 (p + 1) with
    | none => exact esc_x_bad frm w hs hlt h hB hxB hl hcr hnl hx hh
    | some r => exact esc_x frm w hs hlt h hB hxB hl hcr hnl hx hh
  rename_i hx
  have hx : Lx.pk s.data.toList p ≠ 120 := by simpa using hx
  split
  · rename_i hb
    simp only [Bool.and_eq_true, beq_iff_eq] at hb
    have hle : p + 1 < s.data.toList.length := Lx.pk_lt (by rw [hb.2]; decide)
    rw [hlen]
    cases hh : Lx.hex s.data.toList 1 s.size (p + 2) with
    | none => exact esc_brace_bad frm w hs hlt h hB hxB hl hcr hnl hb.1 hb.2 (by omega) hh
    | some r =>
      obtain ⟨r, q⟩ := r
      have hq := Lx.hex_le hh (by omega)
      by_cases ht : Lx.pk s.data.toList q = 125
      · have hlq : q < s.data.toList.length := Lx.pk_lt (by rw [ht]; decide)
        simp only [ht]
        exact esc_brace frm w hs hlt h hB hxB hl hcr hnl hb.1 hb.2 (by omega) (by omega) (by omega) hh ht
      · simp only
        rw [if_pos (by simpa using ht)]
        exact esc_brace_open frm w hs hlt h hB hxB hl hcr hnl hb.1 hb.2 (by omega) (by omega) hh ht
  rename_i hb
  split
  · rename_i hu
    have hu : Lx.pk s.data.toList p = 117 := by simpa using hu
    have hb : Lx.pk s.data.toList (p + 1) ≠ 123 := by intro e; apply hb; simp [hu, e]
    cases hh : Lx.hex s.data.toList 4 4 (p + 1) with
    | none => exact esc_u_bad frm w hs hlt h hB hxB hl hcr hnl hu hb hh
    | some r => exact esc_u frm w hs hlt h hB hxB hl hcr hnl hu hb hh
  · rename_i hu
    exact esc_plain frm w hs hlt h hB hxB hl hi hcr hnl hdg hx (by simpa using hu)
end
end Go.Proofs.YtcgibcjpkhefpaaGreatDoor
namespace Go.Proofs.YtcgibcjpkhefpaaGreatDoor
open Go.RowKit
/-- A token as a value. -/
def tokV (tk : Lx.Tk) (frm till : Nat) (ln : Bool) : Value :=
  .agg #[.int .i64 tk.kind, .string ⟨tk.text.toArray⟩, .string ⟨tk.str.toArray⟩, .float .f64 tk.num, .int .i64 frm, .int .i64 till, .bool ln]
/-- Where the scanner at block b stands. -/
def posOf (b : Nat) (w : World) : Nat := match w.cell? ⟨b, 1, none⟩ with | some (.int _ n) => n.toNat | _ => 0
section
variable {b : Nat} {s : ByteArray} {lv ov : Value} {p : Nat} {ln : Bool} {opn : List Int} {B x : Nat} {l : List UInt8}
theorem posOf_scn {w : World} (h : Scn b s lv p ln ov opn w) : posOf b w = p := by simp [posOf, h.c1]
/-- Behind a method that reads a token. -/
def TokPost (b : Nat) (s : ByteArray) (lv : Value) (ln : Bool) (w : World) (r : Lx.TR) (e : Ending) (w' : World) : Prop :=
  Kf (Sp b) w w' ∧ match r with
    | .ok (tk, q, opn') => ∃ ov', e = .returned (tokV tk 0 0 false) ∧ Scn b s lv q ln ov' opn' w'
    | .error a => e = wrongAt a
theorem kf_old {w0 w w' : World} (h0 : Kf (So b) w0 w) (h : Kf (Sx b x) w w') (hx : w0.heap.size ≤ x) : Kf (So b) w0 w' :=
  ⟨h.os.trans h0.os, h.tape.trans h0.tape, h.output.trans h0.output, Nat.le_trans h0.size h.size, fun k o hk hn => by
    have hlt := lt_of_heap hk
    refine h.block k o (h0.block k o hk hn) (fun e => ?_)
    rcases e with e | e | e
    · exact hn e
    · omega
    · omega⟩
/-- A calm block of the caller's own stands behind a call that writes the scanner's, a Builder's, rows of bytes. -/
theorem calm_sx {w w' : World} {k : Nat} {c : Array Value} (h : Kf (Sx b x) w w') (hk : w.heap[k]? = some (.cells c 31 (0, 0))) (h1 : k ≠ b) (h2 : k ≠ x) : w'.heap[k]? = some (.cells c 31 (0, 0)) :=
  h.block k _ hk (fun e => by
    rcases e with e | e | ⟨_, _, _, e⟩
    · exact h1 e
    · exact h2 e
    · injection e with _ e _; exact absurd e (by decide))
def tok0 : Array Value := #[.int .i64 0, .string ⟨#[]⟩, .string ⟨#[]⟩, .float .f64 0, .int .i64 0, .int .i64 0, .bool false]
theorem under31 : (match Tryz.prog.underlying 31 with | some (.struct _) => true | _ => false) = true := by kernel_rfl
theorem size31 : (Tryz.prog.info? 31).map (·.size) = some 7 := by kernel_rfl
theorem results_row {fn : Func} {a : Tmp} (h : fn.results = #[.cell a 31]) {tmps : Array Value} {w : World} {k : Nat} {cs : Array Value} {fr : Nat × Nat} (hk : tmps.getD a undef = .pointer (some ⟨k, 0, none⟩)) (hg : w.heap[k]? = some (.cells cs 31 fr)) (hs : cs.size = 7) :
    (results fn tmps).run Tryz.prog w = .ok (.agg cs) w := by
  obtain ⟨fs, hd⟩ : ∃ fs, Tryz.prog.underlying 31 = some (.struct fs) := by
    have := under31
    cases h : Tryz.prog.underlying 31 with
    | none => rw [h] at this; cases this
    | some d => rw [h] at this; cases d <;> first | exact ⟨_, rfl⟩ | cases this
  have hl := run_loadVar_row (P := Tryz.prog) w k 31 31 cs fr (.struct fs) hg hd rfl (by rw [hs]; exact size31)
  have hk' : tmps[a]?.getD undef = .pointer (some ⟨k, 0, none⟩) := by simpa using hk
  simp [results, h, hk', asAddr, hl]
theorem tok_one (a e f : Int) (c d : ByteArray) (g : Nat) (h : Bool) : (#[.int .i64 a, .string c, .string d, .float .f64 g, .int .i64 e, .int .i64 f, .bool h] : Array Value).all (·.oneCell') = true := by simp [Value.oneCell']
/-- A token's block is written. -/
theorem kf_row {w : World} {k : Nat} {c : Array Value} {fr : Nat × Nat} (h : w.heap[k]? = some (.cells c 31 fr)) (cs : Array Value) : Kf (fun j o => j = k ∧ w.heap[k]? = some o) w (w.setRow k cs) :=
  ⟨rfl, rfl, rfl, by simp [World.setRow], fun j o hj hn => by
    by_cases e : j = k
    · subst e; exact absurd ⟨rfl, hj⟩ hn
    · simp only [World.setRow, Array.getElem?_modify]; rw [if_neg (by omega)]; exact hj⟩
theorem Scn.setRow {w : World} (h : Scn b s lv p ln ov opn w) {k : Nat} {c : Array Value} {fr : Nat × Nat} (hk : w.heap[k]? = some (.cells c 31 fr)) (cs : Array Value) : Scn b s lv p ln ov opn (w.setRow k cs) :=
  h.kf (kf_row hk cs) (fun _ e => by have e := e.2; rw [hk] at e; injection e with e; injection e with _ e _; exact absurd e (by decide)) (fun _ _ _ e => by have e := e.2; rw [hk] at e; injection e with e; injection e with _ e _; exact absurd e (by decide))
theorem Kf.setRowNew {S : Nat → Obj → Prop} {w w1 : World} (h : Kf S w w1) {k : Nat} (hk : w.heap.size ≤ k) (cs : Array Value) : Kf S w (w1.setRow k cs) :=
  ⟨h.os, h.tape, h.output, by simpa [World.setRow] using h.size, fun j o hj hn => by
    have := lt_of_heap hj
    simp only [World.setRow, Array.getElem?_modify]; rw [if_neg (by omega)]; exact h.block j o hj hn⟩
set_option maxHeartbeats 1000000 in
set_option maxRecDepth 100000 in
theorem text_any (w : World) (hs : s.size ≤ 262144) (hp : p < s.size) (h : Scn b s lv p ln ov opn w) :
    Calls Tryz.prog 80 #[.pointer (some ⟨b, 0, none⟩)] w (TokPost b s lv ln w (Lx.text s.data.toList p opn)) := by
  have hlen : s.data.toList.length = s.size := by simp
  have h0 := h.c0
  have h1 := h.c1
  have f1 := h.fz 1
  have hlt : (p : Int) < (s.size : Int) := by omega
  have hbl := h.lt
  have HS := Lib.hid h
  clear h
  obtain ⟨qc, hq⟩ : ∃ qc, Lx.pk s.data.toList p = qc := ⟨_, rfl⟩
  have hix : s[p] = qc := by rw [← hq]; simp [Lx.pk, hp]; rfl
  have HQ := Lib.hid hq
  have HIX := Lib.hid hix
  clear hq hix
  go_enter Tryz.func80, Tryz.ntmps80
  go_wp2
  go_quiet (fail)
  go_wp2
  rw [show s[p] = qc from HIX.out]
  have HG := Lib.hid (rfl : Lx.textGo s.data.toList qc (s.data.toList.length - p) (p + 1) [] = Lx.textGo s.data.toList qc (s.data.toList.length - p) (p + 1) [])
  go_loopw [] (fun wr => ∃ (f q : Nat) (acc : List UInt8), s.size + 1 ≤ f + q ∧ q ≤ s.size ∧ Scn b s lv q ln ov opn wr ∧ Kf (So b) w wr ∧ Bld (w.heap.size + 1) (w.heap.size + 1) acc wr ∧ wr.heap[w.heap.size]? = some (.cells tok0 31 (0, 0)) ∧ acc.length ≤ 4 * q ∧ Lx.textGo s.data.toList qc f q acc = Lx.textGo s.data.toList qc (s.data.toList.length - p) (p + 1) []) (fun wr => s.size - posOf b wr)
  case atStart =>
    refine ⟨s.data.toList.length - p, p + 1, [], by omega, by omega, ?_, ?_, ?_, ?_, by simp, HG.out⟩
    · exact (((HS.out.alloc _).drewN _).setTo (x := (p : Int) + 1) (by omega)).alloc _
    · exact ((((Kf.refl _ _).alloc _).drewN _).setB 1 _).alloc _
    · have := bld_fresh (((w.alloc (.cells tok0 31)).drewN nq).setCell ⟨b, 1, none⟩ (.int .i64 ((p : Int) + 1)))
      rw [show (((w.alloc (.cells tok0 31)).drewN nq).setCell ⟨b, 1, none⟩ (.int .i64 ((p : Int) + 1))).heap.size = w.heap.size + 1 by simp [World.setCell]] at this
      exact this
    · rw [Below.heap_alloc _ _ _ (by simp [World.setCell]), Below.heap_setCell _ _ _ _ (by simp only; omega)]
      exact heap_alloc_new _ _
  case round =>
    obtain ⟨f, q, acc, hf, hqs, hS, hK, hB, hR, hal, hG⟩ := hrel
    obtain ⟨f, rfl⟩ : ∃ f', f = f' + 1 := ⟨f - 1, by omega⟩
    have hbx : b ≠ w.heap.size + 1 := by omega
    have h0 := hS.c0
    have h1 := hS.c1
    have f1 := hS.fz 1
    have hpos := posOf_scn hS
    obtain ⟨c, hc⟩ : ∃ c, Lx.pk s.data.toList q = c := ⟨_, rfl⟩
    have HC := Lib.hid hc
    have HS1 := Lib.hid hS
    have HK1 := Lib.hid hK
    have HB1 := Lib.hid hB
    have HR1 := Lib.hid hR
    have HG1 := Lib.hid hG
    have HP1 := Lib.hid hpos
    clear hS hK hB hR hG hc HG hpos
    by_cases hbad : s.size ≤ q ∨ c = 10 ∨ c = 13
    · have FIN := Lib.hid (show Lx.text s.data.toList p opn = .error p by
        unfold Lx.text
        rw [HQ.out, ← HG1.out]
        simp only [Lx.textGo, HC.out]
        rw [if_pos (by rw [hlen]; exact hbad)])
      by_cases hge : s.size ≤ q
      · have hd : decide (s.size ≤ q) = true := by simp; omega
        clear hbad
        go_wp2_with fail
        refine (peek0 _ (by omega) hqs HS1.out).mono ?_
        rintro e w1 ⟨rfl, n1, rfl⟩
        go_wp2
        go_quiet (fail)
        go_wp2
        exact ⟨rfl, HS.out.so_sp (HK1.out.drewN _), by rw [FIN.out]; rfl⟩
      · have hd : decide (s.size ≤ q) = false := by simp; omega
        by_cases h10 : c = 10
        · subst h10
          clear hbad
          go_wp2_with fail
          refine (peek0 _ (by omega) hqs HS1.out).mono ?_
          rintro e w1 ⟨rfl, n1, rfl⟩
          rw [HC.out]
          go_wp2
          go_quiet (fail)
          go_wp2
          exact ⟨rfl, HS.out.so_sp (HK1.out.drewN _), by rw [FIN.out]; rfl⟩
        · have h13 : c = 13 := by
            rcases hbad with e | e | e
            · omega
            · exact absurd e h10
            · exact e
          subst h13
          clear hbad h10
          go_wp2_with fail
          refine (peek0 _ (by omega) hqs HS1.out).mono ?_
          rintro e w1 ⟨rfl, n1, rfl⟩
          rw [HC.out]
          go_wp2
          go_quiet (fail)
          go_wp2
          exact ⟨rfl, HS.out.so_sp (HK1.out.drewN _), by rw [FIN.out]; rfl⟩
    · have hd : decide (s.size ≤ q) = false := by simp; omega
      have hql : (q : Int) < (s.size : Int) := by omega
      have h10 : ((c.toNat : Int) == 10) = false := toNat_ne (fun e => hbad (Or.inr (Or.inl e)))
      have h13 : ((c.toNat : Int) == 13) = false := toNat_ne (fun e => hbad (Or.inr (Or.inr e)))
      have STEP := Lib.hid (show Lx.textGo s.data.toList qc (f + 1) q acc = if c == qc then some (acc, q + 1) else if c == 92 then (match Lx.escape s.data.toList (q + 1) with | none => none | some (u, p') => Lx.textGo s.data.toList qc f p' (acc ++ u)) else Lx.textGo s.data.toList qc f (Lx.plain s.data.toList q).2 (acc ++ (Lx.plain s.data.toList q).1) by
        simp only [Lx.textGo, HC.out]
        rw [if_neg (by rw [hlen]; exact hbad)]
        rfl)
      clear hbad
      by_cases hcq : c = qc
      · subst hcq
        go_wp2_with fail
        refine (peek0 _ (by omega) hqs HS1.out).mono ?_
        rintro e w1 ⟨rfl, n1, rfl⟩
        rw [HC.out]
        go_wp2
        go_quiet (fail)
        go_wp2_with fail
        refine (bld_end (Bld.setScn (HB1.out.drewN _) (HS1.out.drewN _) 1 _)).mono ?_
        rintro e w1 ⟨rfl, hW⟩
        have hK2 := (kf_builder (b := b) hW.2.1 hW.2.2)
        have hR2 := calm_sx (k := w.heap.size) hK2 (by rw [Below.heap_setCell _ _ _ _ (by simp only; omega)]; exact HR1.out) (by omega) (by omega)
        have HW := Lib.hid hW
        have HK2 := Lib.hid hK2
        have HS2 := Lib.hid (((HS1.out.drewN _).setTo (q := q + 1) (by omega)).wrote (Bld.setScn (HB1.out.drewN _) (HS1.out.drewN _) 1 _) hW.2.2)
        have HK3 := Lib.hid (kf_old ((HK1.out.drewN _).setB 1 _) hK2 (by omega))
        have HR2 := Lib.hid hR2
        have FIN := Lib.hid (show Lx.text s.data.toList p opn = .ok (⟨5, [], acc, 0⟩, q + 1, opn) by
          unfold Lx.text
          rw [HQ.out, ← HG1.out, STEP.out]
          simp)
        clear hW hK2 hR2
        go_wp2_with (refine wpList_store_row rfl 31 (.tmp 2) (.tmp 65) rfl w.heap.size #[.int .i64 5, .string ⟨#[]⟩, .string ⟨acc.toArray⟩, .float .f64 0, .int .i64 0, .int .i64 0, .bool false] rfl rfl 31 tok0 HR2.out size31 rfl (tok_one _ _ _ _ _ _ _) ?_)
        go_wp2
        refine bodyPost_ret (v := tokV ⟨5, [], acc, 0⟩ 0 0 false) (results_row rfl rfl (setRow_heap _ _ _ _ _ _ HR2.out) rfl) rfl ?_
        exact ⟨HS.out.so_sp (HK3.out.setRowNew (Nat.le_refl _) _), by rw [FIN.out]; exact ⟨ov, rfl, HS2.out.setRow HR2.out _⟩⟩
      · by_cases h92 : c = 92
        · subst h92
          have hcqf : ((92 : Int) == (qc.toNat : Int)) = false := toNat_ne hcq
          have HCQ := Lib.hid hcq
          clear hcq
          go_wp2_with fail
          refine (peek0 _ (by omega) hqs HS1.out).mono ?_
          rintro e w1 ⟨rfl, n1, rfl⟩
          rw [HC.out]
          go_wp2
          go_quiet (fail)
          go_wp2_with fail
          refine (esc_any p _ (by omega) (by omega) ((HS1.out.drewN _).setTo (x := (q : Int) + 1) (q := q + 1) (by omega)) (Bld.setScn (HB1.out.drewN _) (HS1.out.drewN _) 1 _) (Nat.le_refl _) (by omega)).mono ?_
          rintro e w1 ⟨hK2, hP⟩
          have HK2 := Lib.hid hK2
          have HK3 := Lib.hid (kf_old ((HK1.out.drewN _).setB 1 _) hK2 (by omega))
          have HR2 := Lib.hid (calm_sx (k := w.heap.size) hK2 (by rw [Below.heap_setCell _ _ _ _ (by simp only; omega)]; exact HR1.out) (by omega) (by omega))
          cases hE : Lx.escape s.data.toList (q + 1) with
          | none =>
            rw [hE] at hP
            have he : e = wrongAt p := hP
            have FIN := Lib.hid (show Lx.text s.data.toList p opn = .error p by
              unfold Lx.text
              rw [HQ.out, ← HG1.out, STEP.out, if_neg (by simpa using HCQ.out), hE]
              rfl)
            clear hP hK2 hE
            subst he
            unfold wrongAt
            go_wp2
            exact ⟨rfl, HS.out.so_sp HK3.out, by rw [FIN.out]; rfl⟩
          | some r =>
            obtain ⟨u, q'⟩ := r
            rw [hE] at hP
            obtain ⟨he, hS3, hB3⟩ := hP
            have hle := Lx.escape_le hE
            rw [hlen] at hle
            have NXT := Lib.hid (show Lx.textGo s.data.toList qc (f + 1) q acc = Lx.textGo s.data.toList qc f q' (acc ++ u) by
              rw [STEP.out, if_neg (by simpa using HCQ.out), hE]
              rfl)
            have HS3 := Lib.hid hS3
            have HB3 := Lib.hid hB3
            clear hS3 hB3 hK2 hE
            subst he
            go_wp2_with fail
            go_roundw
            case rel => exact ⟨f, q', acc ++ u, by omega, hle.2.1, HS3.out, HK3.out, HB3.out, HR2.out, by simp; omega, by rw [← HG1.out, NXT.out]⟩
            case measure => rw [posOf_scn HS3.out, HP1.out]; omega
        · have hc92 : ((c.toNat : Int) == 92) = false := toNat_ne h92
          have hcqf : ((c.toNat : Int) == (qc.toNat : Int)) = false := toNat_ne hcq
          have hle := Lx.plain_le (l := s.data.toList) (p := q) (by omega)
          rw [hlen] at hle
          have NXT := Lib.hid (show Lx.textGo s.data.toList qc (f + 1) q acc = Lx.textGo s.data.toList qc f (Lx.plain s.data.toList q).2 (acc ++ (Lx.plain s.data.toList q).1) by
            rw [STEP.out, if_neg (by simpa using hcq), if_neg (by simpa using h92)])
          clear hcq h92
          go_wp2_with fail
          refine (peek0 _ (by omega) hqs HS1.out).mono ?_
          rintro e w1 ⟨rfl, n1, rfl⟩
          rw [HC.out]
          go_wp2
          go_quiet (fail)
          go_wp2_with fail
          refine (plain_any _ (by omega) (by omega) (HS1.out.drewN _) (HB1.out.drewN _) (Nat.le_refl _) (by omega)).mono ?_
          rintro e w1 ⟨rfl, hK2, hS3, hB3⟩
          have HK3 := Lib.hid (kf_old (HK1.out.drewN _) hK2 (by omega))
          have HR2 := Lib.hid (calm_sx (k := w.heap.size) hK2 HR1.out (by omega) (by omega))
          have HS3 := Lib.hid hS3
          have HB3 := Lib.hid hB3
          clear hS3 hB3 hK2
          go_wp2_with fail
          go_roundw
          case rel => exact ⟨f, (Lx.plain s.data.toList q).2, acc ++ (Lx.plain s.data.toList q).1, by omega, hle.2.1, HS3.out, HK3.out, HB3.out, HR2.out, by simp; omega, by rw [← HG1.out, NXT.out]⟩
          case measure => rw [posOf_scn HS3.out, HP1.out]; omega
end
end Go.Proofs.YtcgibcjpkhefpaaGreatDoor
namespace Go.Proofs.YtcgibcjpkhefpaaGreatDoor
open Go.RowKit
section
variable {b : Nat} {s : ByteArray} {lv ov : Value} {p : Nat} {ln : Bool} {opn : List Int} {B x : Nat} {l : List UInt8}
theorem info3 : (Tryz.prog.info? 3).map (fun i => (i.zero, i.size, i.bytes)) = some (some (.int .i64 0), 1, 8) := by kernel_rfl
/-- An append may have written into the row that it was given. -/
theorem kf_grown {w w' : World} {row : Option Nat} (h : w.grownBy w' row) : Kf (fun k o => some k = row ∧ w.heap[k]? = some o) w w' :=
  ⟨h.os, h.tape, h.output, h.size, fun k o hk hn => by
    rw [h.block k (lt_of_heap hk) (fun e => hn ⟨e, hk⟩)]; exact hk⟩
/-- .. a row of numbers that the scanner owns. -/
def IsI (b : Nat) : Nat → Obj → Prop := fun k o => b + 1 ≤ k ∧ ∃ c, o = .cells c 3 (0, 0)
theorem kf_own {w0 w w' : World} {v : Value} {n : Nat} {xs : List Value} (hown : w.ownsRow (b + 1) 3 1 v n xs) (h : w.grownBy w' v.ownBlock) (h0 : Kf (IsI b) w0 w) : Kf (IsI b) w0 w' := by
  refine h0.trans ((kf_grown h).weaken (fun k o ho e => ?_))
  rcases hown.2 with ⟨hv, _⟩ | ⟨g, cap, cur, hv, hg, hh, _⟩
  · rw [hv] at e; cases e.1
  · rw [hv] at e
    have e1 : k = g := Option.some.inj e.1
    subst e1
    rw [hh] at ho
    injection ho with ho
    exact ⟨hg, cur, ho.symm⟩
theorem Scn.setOpen {w : World} (h : w.heap[b]? = some (.cells #[.string s, .int .i64 p, .bool ln, ov, lv] 66 (0, 0))) {ov' : Value} {opn' : List Int} (ho : w.ownsRow (b + 1) 3 1 ov' opn'.length (opn'.map (Value.int .i64))) : Scn b s lv p ln ov' opn' (w.setCell ⟨b, 3, none⟩ ov') :=
  ⟨by rw [heap_setSelf h]; rfl, ownsRow_setCell_other ho (own_ne ho) _⟩
/-- What may change while a template's piece is read: the scanner's block, the Builder's, rows of bytes behind it, rows of numbers. -/
def Sy (b x : Nat) : Nat → Obj → Prop := fun k o => Sx b x k o ∨ IsI b k o
theorem sx_sy {w w' : World} (h : Kf (Sx b x) w w') : Kf (Sy b x) w w' := h.weaken (fun _ _ _ e => Or.inl e)
theorem kfy_old {w0 w w' : World} (h0 : Kf (So b) w0 w) (h : Kf (Sy b x) w w') (hx : w0.heap.size ≤ x) (hS : w0.heap[b]? = some (.cells #[.string s, .int .i64 p, .bool ln, ov, lv] 66 (0, 0))) : Kf (Sp b) w0 w' :=
  ⟨h.os.trans h0.os, h.tape.trans h0.tape, h.output.trans h0.output, Nat.le_trans h0.size h.size, fun k o hk hn => by
    have hlt := lt_of_heap hk
    have hkb : k ≠ b := by
      intro e
      subst e
      rw [hS] at hk
      injection hk with hk
      exact hn ⟨Nat.le_refl _, by rw [← hk]; simp [Calm]⟩
    refine h.block k o (h0.block k o hk hkb) (fun e => ?_)
    rcases e with (e | e | e) | ⟨e1, c, e2⟩
    · exact hkb e
    · omega
    · omega
    · exact hn ⟨by omega, by rw [e2]; simp [Calm]⟩⟩
theorem calm_sy {w w' : World} {k : Nat} {c : Array Value} (h : Kf (Sy b x) w w') (hk : w.heap[k]? = some (.cells c 31 (0, 0))) (h1 : k ≠ b) (h2 : k ≠ x) : w'.heap[k]? = some (.cells c 31 (0, 0)) :=
  h.block k _ hk (fun e => by
    rcases e with (e | e | ⟨_, _, _, e⟩) | ⟨_, _, e⟩
    · exact h1 e
    · exact h2 e
    · injection e with _ e _; exact absurd e (by decide)
    · injection e with _ e _; exact absurd e (by decide))
/-- An append onto the open braces: the scanner's block, the Builder, a token's block. -/
theorem grown_blk {w w' : World} (h : Kf (IsI b) w w') (hS : w.heap[b]? = some (.cells #[.string s, .int .i64 p, .bool ln, ov, lv] 66 (0, 0))) : w'.heap[b]? = some (.cells #[.string s, .int .i64 p, .bool ln, ov, lv] 66 (0, 0)) :=
  h.block b _ hS (fun e => by have := e.1; omega)
theorem Bld.grown {w w' : World} (hB : Bld B x l w) (h : Kf (IsI b) w w') : Bld B x l w' :=
  hB.kf h (fun _ e => by obtain ⟨_, _, e⟩ := e; injection e with _ e _; exact absurd e (by decide)) (fun _ _ _ _ e => by obtain ⟨_, _, e⟩ := e; injection e with _ e _; exact absurd e (by decide))
theorem cell_new0 {w : World} {v : Value} {t : TypeId} {k : Nat} (hk : k = w.heap.size) : (w.alloc (.cells #[v] t)).cell? ⟨k, 0, none⟩ = some v := by
  subst hk
  rw [cellN (heap_alloc_new w _) 0]
  rfl
set_option maxHeartbeats 2000000 in
set_option maxRecDepth 100000 in
theorem piece_any (whole part : Nat) (w : World) (hs : s.size ≤ 262144) (hp : p < s.size) (ho : opn.length ≤ 262144) (_hwh : whole ≤ 9) (_hpt : part ≤ 9) (h : Scn b s lv p ln ov opn w) :
    Calls Tryz.prog 81 #[.pointer (some ⟨b, 0, none⟩), .int .i64 whole, .int .i64 part] w (TokPost b s lv ln w (Lx.piece s.data.toList whole part p opn)) := by
  have hlen : s.data.toList.length = s.size := by simp
  obtain ⟨i0, hi, hz0, hz1, hz2⟩ := info_parts info3
  have HI := Lib.hid (And.intro hi (And.intro hz0 (And.intro hz1 hz2)))
  clear hi hz0 hz1 hz2
  have h0 := h.c0
  have h1 := h.c1
  have f1 := h.fz 1
  have hlt : (p : Int) < (s.size : Int) := by omega
  have hbl := h.lt
  have HS := Lib.hid h
  clear h
  go_enter Tryz.func81, Tryz.ntmps81
  go_wp2
  have HG := Lib.hid (rfl : Lx.pieceGo s.data.toList (s.data.toList.length - p) (p + 1) [] = Lx.pieceGo s.data.toList (s.data.toList.length - p) (p + 1) [])
  go_loopw [] (fun wr => ∃ (f q : Nat) (acc : List UInt8), s.size + 1 ≤ f + q ∧ q ≤ s.size ∧ Scn b s lv q ln ov opn wr ∧ Kf (So b) w wr ∧ Bld (w.heap.size + 1) (w.heap.size + 1) acc wr ∧ wr.heap[w.heap.size]? = some (.cells tok0 31 (0, 0)) ∧ acc.length ≤ 4 * q ∧ Lx.pieceGo s.data.toList f q acc = Lx.pieceGo s.data.toList (s.data.toList.length - p) (p + 1) []) (fun wr => s.size - posOf b wr)
  case atStart =>
    refine ⟨s.data.toList.length - p, p + 1, [], by omega, by omega, ?_, ?_, ?_, ?_, by simp, HG.out⟩
    · exact ((HS.out.setTo (x := (p : Int) + 1) (by omega)).alloc _).alloc _
    · exact (((Kf.refl _ _).setB 1 _).alloc _).alloc _
    · have := bld_fresh ((w.setCell ⟨b, 1, none⟩ (.int .i64 ((p : Int) + 1))).alloc (.cells tok0 31))
      rw [show ((w.setCell ⟨b, 1, none⟩ (.int .i64 ((p : Int) + 1))).alloc (.cells tok0 31)).heap.size = w.heap.size + 1 by simp [World.setCell]] at this
      exact this
    · rw [Below.heap_alloc _ _ _ (by simp [World.setCell])]
      have := heap_alloc_new (w.setCell ⟨b, 1, none⟩ (.int .i64 ((p : Int) + 1))) (.cells tok0 31)
      rw [show (w.setCell ⟨b, 1, none⟩ (.int .i64 ((p : Int) + 1))).heap.size = w.heap.size by simp [World.setCell]] at this
      exact this
  case round =>
    obtain ⟨f, q, acc, hf, hqs, hS, hK, hB, hR, hal, hG⟩ := hrel
    obtain ⟨f, rfl⟩ : ∃ f', f = f' + 1 := ⟨f - 1, by omega⟩
    have hbx : b ≠ w.heap.size + 1 := by omega
    have h0 := hS.c0
    have h1 := hS.c1
    have h3 := hS.c3
    have f1 := hS.fz 1
    have f3 := hS.fz 3
    have hpos := posOf_scn hS
    obtain ⟨c, hc⟩ : ∃ c, Lx.pk s.data.toList q = c := ⟨_, rfl⟩
    have HC := Lib.hid hc
    have HS1 := Lib.hid hS
    have HK1 := Lib.hid hK
    have HB1 := Lib.hid hB
    have HR1 := Lib.hid hR
    have HG1 := Lib.hid hG
    have HP1 := Lib.hid hpos
    clear hS hK hB hR hG hc HG hpos
    by_cases hge : s.size ≤ q
    · have hd : decide (s.size ≤ q) = true := by simp; omega
      have FIN := Lib.hid (show Lx.piece s.data.toList whole part p opn = .error p by
        unfold Lx.piece
        rw [← HG1.out]
        simp only [Lx.pieceGo, HC.out]
        rw [if_pos (by rw [hlen]; exact hge)])
      go_wp2_with fail
      refine (peek0 _ (by omega) hqs HS1.out).mono ?_
      rintro e w1 ⟨rfl, n1, rfl⟩
      rw [HC.out]
      go_wp2
      go_quiet (fail)

      go_wp2
      exact ⟨rfl, HS.out.so_sp (HK1.out.drewN _), by rw [FIN.out]; rfl⟩
    have hd : decide (s.size ≤ q) = false := by simp; omega
    have hql : (q : Int) < (s.size : Int) := by omega
    have STEP := Lib.hid (show Lx.pieceGo s.data.toList (f + 1) q acc = if c == 96 then some (acc, q + 1, false) else if Lx.pre [36, 123] s.data.toList q then some (acc, q + 2, true) else if c == 13 then Lx.pieceGo s.data.toList f (if Lx.pk s.data.toList (q + 1) == 10 then q + 2 else q + 1) (acc ++ [0, 10]) else if c == 92 then (match Lx.escape s.data.toList (q + 1) with | none => none | some (u, p') => Lx.pieceGo s.data.toList f p' (acc ++ u)) else Lx.pieceGo s.data.toList f (Lx.plain s.data.toList q).2 (acc ++ (Lx.plain s.data.toList q).1) by
      simp only [Lx.pieceGo, HC.out]
      rw [if_neg (by rw [hlen]; exact hge)]
      rfl)
    clear hge
    by_cases h96 : c = 96
    · subst h96
      have FIN := Lib.hid (show Lx.piece s.data.toList whole part p opn = .ok (⟨whole, [], acc, 0⟩, q + 1, opn) by
        unfold Lx.piece
        rw [← HG1.out, STEP.out]
        rfl)
      go_wp2_with fail
      refine (peek0 _ (by omega) hqs HS1.out).mono ?_
      rintro e w1 ⟨rfl, n1, rfl⟩
      rw [HC.out]
      go_wp2
      go_quiet (fail)

      go_wp2_with fail
      refine (bld_end (Bld.setScn (HB1.out.drewN _) (HS1.out.drewN _) 1 _)).mono ?_
      rintro e w1 ⟨rfl, hW⟩
      have hK2 := (kf_builder (b := b) hW.2.1 hW.2.2)
      have hR2 := calm_sx (k := w.heap.size) hK2 (by rw [Below.heap_setCell _ _ _ _ (by simp only; omega)]; exact HR1.out) (by omega) (by omega)
      have HS2 := Lib.hid (((HS1.out.drewN _).setTo (q := q + 1) (by omega)).wrote (Bld.setScn (HB1.out.drewN _) (HS1.out.drewN _) 1 _) hW.2.2)
      have HK3 := Lib.hid (kf_old ((HK1.out.drewN _).setB 1 _) hK2 (by omega))
      have HR2 := Lib.hid hR2
      clear hW hK2 hR2
      go_wp2_with (refine wpList_store_row rfl 31 (.tmp 6) (.tmp 51) rfl w.heap.size #[.int .i64 whole, .string ⟨#[]⟩, .string ⟨acc.toArray⟩, .float .f64 0, .int .i64 0, .int .i64 0, .bool false] rfl rfl 31 tok0 HR2.out size31 rfl (tok_one _ _ _ _ _ _ _) ?_)
      go_wp2
      refine bodyPost_ret (v := tokV ⟨whole, [], acc, 0⟩ 0 0 false) (results_row rfl rfl (setRow_heap _ _ _ _ _ _ HR2.out) rfl) rfl ?_

      exact ⟨HS.out.so_sp (HK3.out.setRowNew (Nat.le_refl _) _), by rw [FIN.out]; exact ⟨ov, rfl, HS2.out.setRow HR2.out _⟩⟩
    have t96 : ((c.toNat : Int) == 96) = false := toNat_ne h96
    cases hh : Lx.pre [36, 123] s.data.toList q with
    | true =>
      have hle := pre_le hh (by omega)
      rw [hlen] at hle
      simp only [List.length_cons, List.length_nil] at hle
      have HH := Lib.hid hh
      have FIN := Lib.hid (show Lx.piece s.data.toList whole part p opn = .ok (⟨part, [], acc, 0⟩, q + 2, opn ++ [0]) by
        unfold Lx.piece
        rw [← HG1.out, STEP.out, if_neg (by simpa using h96), if_pos hh])
      clear hh h96
      go_wp2_with fail
      refine (peek0 _ (by omega) hqs HS1.out).mono ?_
      rintro e w1 ⟨rfl, n1, rfl⟩
      rw [HC.out]
      go_wp2
      go_quiet (fail)

      go_wp2_with fail
      refine (has_any _ _ (by omega) hqs (HS1.out.drewN _)).mono ?_
      rintro e w1 ⟨rfl, n2, rfl⟩
      rw [show Lx.pre (⟨#[36, 123]⟩ : ByteArray).data.toList s.data.toList q = true from HH.out]

      have HO := Lib.hid (((HS1.out.drewN (n1 + nq + n2)).setTo (x := (q : Int) + 2) (q := q + 2) (by omega)).own)
      go_wp2_with (at_builtin; refine wpList_append_own _ rfl _ _ 48 rfl (b + 1) 3 i0 (.int .i64 0) 1 8 Tryz.underlying48 HI.out.1 HI.out.2.1 HI.out.2.2.1 HI.out.2.2.2 rfl (by decide) _ _ _ rfl (HO.out.alloc _) ⟨wr.heap.size, 0, none⟩ 1 1 [.int .i64 0] rfl rfl ?c1 ?c2 ?c3 ?c4 ?c5 ?_)
      case c1 =>
        intro j u hj
        match j, hj with
        | 0, hj => simp at hj; subst hj; exact cell_new0 (by simp [World.setCell])
      case c2 => intro u hu; simp at hu; subst hu; rfl
      case c3 => unfold maxLen; omega
      case c4 => omega
      case c5 => have := HS1.out.lt; simp; omega
      intro v' w2 hown' hgrow _
      have HX := Lib.hid hown'
      have HY := Lib.hid hgrow
      clear hown' hgrow
      have HKY := Lib.hid (kf_own (b := b) (HO.out.alloc (.cells #[.int .i64 0] 3)) HY.out ((Kf.refl _ _).alloc _))
      have HBK := Lib.hid (grown_blk HKY.out ((HS1.out.drewN (n1 + nq + n2)).setTo (x := (q : Int) + 2) (q := q + 2) (by omega)).blk)
      have k3 : w2.cell? ⟨b, 3, none⟩ = some ov := by simp [World.cell?, HBK.out]
      have g3 : w2.frozen? ⟨b, 3, none⟩ = false := by simp [World.frozen?, HBK.out]
      have HB2 := Lib.hid ((Bld.setScn (HB1.out.drewN (n1 + nq + n2)) (HS1.out.drewN (n1 + nq + n2)) 1 (.int .i64 ((q : Int) + 2))).grown HKY.out)
      obtain ⟨g, cap, rfl⟩ : ∃ g cap, v' = .slice (some ⟨g, 0, none⟩) (opn.length + 1) cap := by
        rcases HX.out.2 with ⟨_, h0⟩ | ⟨g, cap, cur, hv, _⟩
        · omega
        · exact ⟨g, cap, hv⟩
      have HS2 := Lib.hid (Scn.setOpen (opn' := opn ++ [0]) HBK.out (by simpa using HX.out))
      have HB3 := Lib.hid (show Bld (w.heap.size + 1) (w.heap.size + 1) acc (w2.setCell ⟨b, 3, none⟩ (.slice (some ⟨g, 0, none⟩) (opn.length + 1) cap)) from Bld.kf HB2.out (S := fun k o => k = b ∧ w2.heap[b]? = some o) (Kf.set (a := ⟨b, 3, none⟩) (Kf.refl _ _) (fun o ho => ⟨rfl, ho⟩) _) (fun _ e => by have e := e.2; rw [HBK.out] at e; injection e with e; injection e with _ e _; exact absurd e (by decide)) (fun _ _ _ _ e => by have e := e.2; rw [HBK.out] at e; injection e with e; injection e with _ e _; exact absurd e (by decide)))
      go_wp2_with fail
      refine (bld_end HB3.out).mono ?_
      rintro e w3 ⟨rfl, hW⟩
      have HKS := Lib.hid (show Kf (Sy b (w.heap.size + 1)) ((wr.drewN (n1 + nq + n2)).setCell ⟨b, 1, none⟩ (.int .i64 ((q : Int) + 2))) w3 from
        ((Kf.set (S := Sy b (w.heap.size + 1)) (a := ⟨b, 3, none⟩) (HKY.out.weaken (fun _ _ _ e => Or.inr e)) (fun _ _ => Or.inl (Or.inl rfl)) _)).trans (sx_sy (kf_builder (b := b) hW.2.1 hW.2.2)))
      have HR2 := Lib.hid (calm_sy (k := w.heap.size) HKS.out (by rw [Below.heap_setCell _ _ _ _ (by simp only; omega)]; exact HR1.out) (by omega) (by omega))
      have HS3 := Lib.hid (HS2.out.wrote HB3.out hW.2.2)
      have HK3 := Lib.hid (kfy_old ((HK1.out.drewN (n1 + nq + n2)).setB 1 (.int .i64 ((q : Int) + 2))) HKS.out (by omega) HS.out.blk)
      clear hW
      go_wp2_with (refine wpList_store_row rfl 31 (.tmp 6) (.tmp 73) rfl w.heap.size #[.int .i64 part, .string ⟨#[]⟩, .string ⟨acc.toArray⟩, .float .f64 0, .int .i64 0, .int .i64 0, .bool false] rfl rfl 31 tok0 HR2.out size31 rfl (tok_one _ _ _ _ _ _ _) ?_)
      go_wp2
      refine bodyPost_ret (v := tokV ⟨part, [], acc, 0⟩ 0 0 false) (results_row rfl rfl (setRow_heap _ _ _ _ _ _ HR2.out) rfl) rfl ?_

      exact ⟨HK3.out.setRowNew (Nat.le_refl _) _, by rw [FIN.out]; exact ⟨_, rfl, HS3.out.setRow HR2.out _⟩⟩
    | false =>
      have HH := Lib.hid hh
      have STEP := Lib.hid (show Lx.pieceGo s.data.toList (f + 1) q acc = if c == 13 then Lx.pieceGo s.data.toList f (if Lx.pk s.data.toList (q + 1) == 10 then q + 2 else q + 1) (acc ++ [0, 10]) else if c == 92 then (match Lx.escape s.data.toList (q + 1) with | none => none | some (u, p') => Lx.pieceGo s.data.toList f p' (acc ++ u)) else Lx.pieceGo s.data.toList f (Lx.plain s.data.toList q).2 (acc ++ (Lx.plain s.data.toList q).1) by
        rw [STEP.out, if_neg (by simpa using h96), if_neg (by rw [hh]; decide)])
      clear hh h96
      by_cases h13 : c = 13
      · subst h13
        have HN := Lib.hid (show Lx.pieceGo s.data.toList (f + 1) q acc = Lx.pieceGo s.data.toList f (if Lx.pk s.data.toList (q + 1) == 10 then q + 2 else q + 1) (acc ++ [0, 10]) by rw [STEP.out]; rfl)
        obtain ⟨d, hd1⟩ : ∃ d, Lx.pk s.data.toList (q + 1) = d := ⟨_, rfl⟩
        have HD := Lib.hid hd1
        by_cases hd10 : d = 10
        · subst hd10
          have hq2 : q + 1 < s.data.toList.length := Lx.pk_lt (by rw [hd1]; decide)
          rw [hlen] at hq2
          clear hd1
          go_wp2_with fail
          refine (peek0 _ (by omega) hqs HS1.out).mono ?_
          rintro e w1 ⟨rfl, n1, rfl⟩
          rw [HC.out]
          go_wp2
          go_quiet (fail)

          go_wp2_with fail
          refine (has_any _ _ (by omega) hqs (HS1.out.drewN _)).mono ?_
          rintro e w1 ⟨rfl, n2, rfl⟩
          rw [show Lx.pre (⟨#[36, 123]⟩ : ByteArray).data.toList s.data.toList q = false from HH.out]

          go_wp2_with fail
          refine (peek0 _ (by omega) (by omega) ((HS1.out.drewN _).setTo (x := (q : Int) + 1) (q := q + 1) (by omega))).mono ?_
          rintro e w1 ⟨rfl, n3, rfl⟩
          rw [HD.out]
          go_wp2_with fail
          refine (put_any 10 (by decide) (Bld.setScn ((Bld.setScn (HB1.out.drewN _) (HS1.out.drewN _) 1 _).drewN _) (((HS1.out.drewN _).setTo (x := (q : Int) + 1) (q := q + 1) (by omega)).drewN _) 1 _) (by omega)).mono ?_
          rintro e w2 ⟨rfl, hW⟩
          have hK2 := (kf_builder (b := b) hW.2.1 hW.2.2)
          have HR2 := Lib.hid (calm_sx (k := w.heap.size) hK2 (by rw [Below.heap_setCell _ _ _ _ (by simp only; omega)]; show (World.setCell _ _ _).heap[_]? = _; rw [Below.heap_setCell _ _ _ _ (by simp only; omega)]; exact HR1.out) (by omega) (by omega))
          have HS2 := Lib.hid (((((HS1.out.drewN (n1 + nq + n2)).setTo (x := (q : Int) + 1) (q := q + 1) (by omega)).drewN n3).setTo (x := (q : Int) + 1 + 1) (q := q + 2) (by omega)).wrote (Bld.setScn ((Bld.setScn (HB1.out.drewN _) (HS1.out.drewN _) 1 _).drewN _) (((HS1.out.drewN _).setTo (x := (q : Int) + 1) (q := q + 1) (by omega)).drewN _) 1 _) hW.2.2)
          have HK3 := Lib.hid (kf_old ((((HK1.out.drewN (n1 + nq + n2)).setB 1 (.int .i64 ((q : Int) + 1))).drewN n3).setB 1 (.int .i64 ((q : Int) + 1 + 1))) hK2 (by omega))
          have HB2 := Lib.hid hW.1
          clear hW hK2
          go_wp2_with fail
          go_roundw
          case rel => exact ⟨f, q + 2, acc ++ [0, 10], by omega, by omega, HS2.out, HK3.out, HB2.out, HR2.out, by simp; omega, by rw [← HG1.out, HN.out, HD.out]; rfl⟩
          case measure => rw [posOf_scn HS2.out, HP1.out]; omega
        · have t10 : ((d.toNat : Int) == 10) = false := toNat_ne hd10
          have HD10 := Lib.hid hd10
          clear hd10 hd1
          go_wp2_with fail
          refine (peek0 _ (by omega) hqs HS1.out).mono ?_
          rintro e w1 ⟨rfl, n1, rfl⟩
          rw [HC.out]
          go_wp2
          go_quiet (fail)

          go_wp2_with fail
          refine (has_any _ _ (by omega) hqs (HS1.out.drewN _)).mono ?_
          rintro e w1 ⟨rfl, n2, rfl⟩
          rw [show Lx.pre (⟨#[36, 123]⟩ : ByteArray).data.toList s.data.toList q = false from HH.out]

          go_wp2_with fail
          refine (peek0 _ (by omega) (by omega) ((HS1.out.drewN _).setTo (x := (q : Int) + 1) (q := q + 1) (by omega))).mono ?_
          rintro e w1 ⟨rfl, n3, rfl⟩
          rw [HD.out]
          go_wp2_with fail
          refine (put_any 10 (by decide) ((Bld.setScn (HB1.out.drewN _) (HS1.out.drewN _) 1 _).drewN _) (by omega)).mono ?_
          rintro e w2 ⟨rfl, hW⟩
          have hK2 := (kf_builder (b := b) hW.2.1 hW.2.2)
          have HR2 := Lib.hid (calm_sx (k := w.heap.size) hK2 (by show (World.setCell _ _ _).heap[_]? = _; rw [Below.heap_setCell _ _ _ _ (by simp only; omega)]; exact HR1.out) (by omega) (by omega))
          have HS2 := Lib.hid ((((HS1.out.drewN (n1 + nq + n2)).setTo (x := (q : Int) + 1) (q := q + 1) (by omega)).drewN n3).wrote ((Bld.setScn (HB1.out.drewN _) (HS1.out.drewN _) 1 _).drewN _) hW.2.2)
          have HK3 := Lib.hid (kf_old (((HK1.out.drewN (n1 + nq + n2)).setB 1 (.int .i64 ((q : Int) + 1))).drewN n3) hK2 (by omega))
          have HB2 := Lib.hid hW.1
          clear hW hK2
          go_wp2_with fail
          go_roundw
          case rel => exact ⟨f, q + 1, acc ++ [0, 10], by omega, by omega, HS2.out, HK3.out, HB2.out, HR2.out, by simp; omega, by rw [← HG1.out, HN.out, HD.out, if_neg (by simpa using HD10.out)]⟩
          case measure => rw [posOf_scn HS2.out, HP1.out]; omega
      have t13 : ((c.toNat : Int) == 13) = false := toNat_ne h13
      by_cases h92 : c = 92
      · subst h92
        go_wp2_with fail
        refine (peek0 _ (by omega) hqs HS1.out).mono ?_
        rintro e w1 ⟨rfl, n1, rfl⟩
        rw [HC.out]
        go_wp2
        go_quiet (fail)

        go_wp2_with fail
        refine (has_any _ _ (by omega) hqs (HS1.out.drewN _)).mono ?_
        rintro e w1 ⟨rfl, n2, rfl⟩
        rw [show Lx.pre (⟨#[36, 123]⟩ : ByteArray).data.toList s.data.toList q = false from HH.out]

        go_wp2_with fail
        refine (esc_any p _ (by omega) (by omega) ((HS1.out.drewN _).setTo (x := (q : Int) + 1) (q := q + 1) (by omega)) (Bld.setScn (HB1.out.drewN _) (HS1.out.drewN _) 1 _) (Nat.le_refl _) (by omega)).mono ?_
        rintro e w1 ⟨hK2, hP⟩
        have HK2 := Lib.hid hK2
        have HK3 := Lib.hid (kf_old ((HK1.out.drewN _).setB 1 _) hK2 (by omega))
        have HR2 := Lib.hid (calm_sx (k := w.heap.size) hK2 (by rw [Below.heap_setCell _ _ _ _ (by simp only; omega)]; exact HR1.out) (by omega) (by omega))
        cases hE : Lx.escape s.data.toList (q + 1) with
        | none =>
          rw [hE] at hP
          have he : e = wrongAt p := hP
          have FIN := Lib.hid (show Lx.piece s.data.toList whole part p opn = .error p by
            unfold Lx.piece
            rw [← HG1.out, STEP.out, if_neg (by decide), if_pos (by decide), hE])
          clear hP hK2 hE
          subst he
          unfold wrongAt
          go_wp2
          exact ⟨rfl, HS.out.so_sp HK3.out, by rw [FIN.out]; rfl⟩
        | some r =>
          obtain ⟨u, q'⟩ := r
          rw [hE] at hP
          obtain ⟨he, hS3, hB3⟩ := hP
          have hle := Lx.escape_le hE
          rw [hlen] at hle
          have NXT := Lib.hid (show Lx.pieceGo s.data.toList (f + 1) q acc = Lx.pieceGo s.data.toList f q' (acc ++ u) by
            rw [STEP.out, if_neg (by decide), if_pos (by decide), hE])
          have HS3 := Lib.hid hS3
          have HB3 := Lib.hid hB3
          clear hS3 hB3 hK2 hE
          subst he
          go_wp2_with fail
          go_roundw
          case rel => exact ⟨f, q', acc ++ u, by omega, hle.2.1, HS3.out, HK3.out, HB3.out, HR2.out, by simp; omega, by rw [← HG1.out, NXT.out]⟩
          case measure => rw [posOf_scn HS3.out, HP1.out]; omega
      · have hc92 : ((c.toNat : Int) == 92) = false := toNat_ne h92
        have hle := Lx.plain_le (l := s.data.toList) (p := q) (by omega)
        rw [hlen] at hle
        have NXT := Lib.hid (show Lx.pieceGo s.data.toList (f + 1) q acc = Lx.pieceGo s.data.toList f (Lx.plain s.data.toList q).2 (acc ++ (Lx.plain s.data.toList q).1) by
          rw [STEP.out, if_neg (by simpa using h13), if_neg (by simpa using h92)])
        clear h13 h92
        go_wp2_with fail
        refine (peek0 _ (by omega) hqs HS1.out).mono ?_
        rintro e w1 ⟨rfl, n1, rfl⟩
        rw [HC.out]
        go_wp2
        go_quiet (fail)

        go_wp2_with fail
        refine (has_any _ _ (by omega) hqs (HS1.out.drewN _)).mono ?_
        rintro e w1 ⟨rfl, n2, rfl⟩
        rw [show Lx.pre (⟨#[36, 123]⟩ : ByteArray).data.toList s.data.toList q = false from HH.out]

        go_wp2_with fail
        refine (plain_any _ (by omega) (by omega) (HS1.out.drewN _) (HB1.out.drewN _) (Nat.le_refl _) (by omega)).mono ?_
        rintro e w1 ⟨rfl, hK2, hS3, hB3⟩
        have HK3 := Lib.hid (kf_old (HK1.out.drewN _) hK2 (by omega))
        have HR2 := Lib.hid (calm_sx (k := w.heap.size) hK2 HR1.out (by omega) (by omega))
        have HS3 := Lib.hid hS3
        have HB3 := Lib.hid hB3
        clear hS3 hB3 hK2
        go_wp2_with fail
        go_roundw
        case rel => exact ⟨f, (Lx.plain s.data.toList q).2, acc ++ (Lx.plain s.data.toList q).1, by omega, hle.2.1, HS3.out, HK3.out, HB3.out, HR2.out, by simp; omega, by rw [← HG1.out, NXT.out]⟩
        case measure => rw [posOf_scn HS3.out, HP1.out]; omega
end
end Go.Proofs.YtcgibcjpkhefpaaGreatDoor
namespace Go.Proofs.YtcgibcjpkhefpaaGreatDoor
open Go.RowKit
def signCells : Array Value := (Lx.signs.map fun t => Value.string ⟨t.toArray⟩).toArray
/-- The list of signs, in a block below the scanner's. -/
structure Lst (b g : Nat) (lv : Value) (w : World) : Prop where
  val : lv = .slice (some ⟨g, 0, none⟩) Lx.signs.length Lx.signs.length
  lt : g < b
  blk : w.heap[g]? = some (.cells signCells 9 (0, 0))
def sgnIdx (l : List UInt8) (p : Nat) : Int := match Lx.signs.findIdx? (fun t => Lx.pre t l p) with | some i => i | none => -1
theorem signs_len : Lx.signs.length = 52 := rfl
theorem findIdx_hit {α : Type} {f : α → Bool} {ts : List α} {k : Nat} {t : α} (h : ∀ u ∈ ts.take k, f u = false) (ht : ts[k]? = some t) (hf : f t = true) : ts.findIdx? f = some k := by
  induction ts generalizing k with
  | nil => simp at ht
  | cons a ts ih =>
    cases k with
    | zero =>
      simp at ht; subst ht
      simp [List.findIdx?_cons, hf]
    | succ k =>
      have ha : f a = false := h a (by simp)
      have := ih (k := k) (fun u hu => h u (by simp [hu])) (by simpa using ht)
      simp [List.findIdx?_cons, ha, this]
theorem find_of_idx {α : Type} {f : α → Bool} {ts : List α} {k : Nat} (h : ts.findIdx? f = some k) : ∃ t, ts[k]? = some t ∧ ts.find? f = some t ∧ f t = true := by
  induction ts generalizing k with
  | nil => simp at h
  | cons a ts ih =>
    rw [List.findIdx?_cons] at h
    by_cases ha : f a = true
    · rw [if_pos ha] at h
      injection h with h
      subst h
      exact ⟨a, rfl, by simp [ha], ha⟩
    · rw [if_neg ha] at h
      simp only [Option.map_eq_some_iff] at h
      obtain ⟨j, hj, rfl⟩ := h
      obtain ⟨t, h1, h2, h3⟩ := ih hj
      exact ⟨t, by simpa using h1, by rw [List.find?_cons_of_neg ha]; exact h2, h3⟩
section
variable {b g : Nat} {s : ByteArray} {lv ov : Value} {p : Nat} {ln : Bool} {opn : List Int} {B x : Nat} {l : List UInt8}
theorem Lst.cell {w : World} (h : Lst b g lv w) {k : Nat} {t : List UInt8} (hk : Lx.signs[k]? = some t) : w.cell? ⟨g, k, none⟩ = some (.string ⟨t.toArray⟩) := by
  rw [cellN h.blk k]
  simp [signCells, hk]
theorem Lst.kf {w w' : World} {S : Nat → Obj → Prop} (h : Lst b g lv w) (hk : Kf S w w') (hS : ∀ o, ¬ S g o) : Lst b g lv w' := ⟨h.val, h.lt, hk.block g _ h.blk (hS _)⟩
set_option maxHeartbeats 1000000 in
set_option maxRecDepth 100000 in
theorem indexFunc_any (w : World) (hs : s.size ≤ 140737488351232) (hp : p ≤ s.size) (h : Scn b s lv p ln ov opn w) (hL : Lst b g lv w) :
    Calls Tryz.prog 108 #[lv, .func (.func 95) #[.pointer (some ⟨b, 0, none⟩)] #[]] w fun e w' => e = .returned (.int .i64 (sgnIdx s.data.toList p)) ∧ ∃ n, w' = w.drewN n := by
  rw [hL.val, signs_len]
  go_enter Tryz.func108, Tryz.ntmps108
  go_wp2
  go_loopw [8] (fun i wr => ∃ k n : Nat, k ≤ 52 ∧ i = .int .i64 k ∧ wr = w.drewN n ∧ ∀ t ∈ Lx.signs.take k, Lx.pre t s.data.toList p = false) (fun i _ => 52 - (intOf i).toNat)
  case atStart => exact ⟨0, 0, by omega, rfl, rfl, by simp⟩
  case round =>
    obtain ⟨k, n, hk, rfl, rfl, hno⟩ := hrel
    have HN := Lib.hid hno
    have HS := Lib.hid h
    have HL := Lib.hid hL
    clear hno h hL
    by_cases hlt : k < 52
    · obtain ⟨t, ht⟩ : ∃ t, Lx.signs[k]? = some t := ⟨_, List.getElem?_eq_getElem (by rw [signs_len]; exact hlt)⟩
      have hc := HL.out.cell ht
      have HT := Lib.hid ht
      clear ht
      cases hx : Lx.pre t s.data.toList p with
      | true =>
        have HX := Lib.hid hx
        clear hx
        go_wp2_with fail
        refine (has_any _ _ hs hp (HS.out.drewN _)).mono ?_
        rintro e w1 ⟨rfl, n1, rfl⟩
        rw [show Lx.pre (⟨t.toArray⟩ : ByteArray).data.toList s.data.toList p = true from HX.out]
        go_wp2
        go_ret
        exact ⟨by unfold sgnIdx; rw [findIdx_hit HN.out HT.out HX.out]; rfl, _, rfl⟩
      | false =>
        have HX := Lib.hid hx
        clear hx
        go_wp2_with fail
        refine (has_any _ _ hs hp (HS.out.drewN _)).mono ?_
        rintro e w1 ⟨rfl, n1, rfl⟩
        rw [show Lx.pre (⟨t.toArray⟩ : ByteArray).data.toList s.data.toList p = false from HX.out]
        go_wp2
        go_roundw
        case rel => exact ⟨k + 1, n + n1, by omega, by go_num, rfl, miss_step HN.out HT.out HX.out⟩
        case measure => simp [intOf]; omega
    · have hk52 : k = 52 := by omega
      subst hk52
      have FIN := Lib.hid (show sgnIdx s.data.toList p = -1 by
        unfold sgnIdx
        rw [List.findIdx?_eq_none_iff.2 (fun u hu => HN.out u (by rw [List.take_of_length_le (by rw [signs_len]; omega)]; exact hu))])
      go_wp2
      go_ret
      exact ⟨by rw [FIN.out]; rfl, _, rfl⟩
end
end Go.Proofs.YtcgibcjpkhefpaaGreatDoor
namespace Go.Proofs.YtcgibcjpkhefpaaGreatDoor
open Go.RowKit
section
variable {b g : Nat} {s : ByteArray} {lv ov : Value} {p : Nat} {ln : Bool} {opn : List Int} {B x : Nat} {l : List UInt8}
theorem sgn_bound (l : List UInt8) (p : Nat) : -1 ≤ sgnIdx l p ∧ sgnIdx l p < 52 := by
  unfold sgnIdx
  split
  · rename_i i h
    obtain ⟨t, h1, _⟩ := find_of_idx h
    have := (List.getElem?_eq_some_iff.1 h1).1
    rw [signs_len] at this
    omega
  · omega
set_option maxHeartbeats 1000000 in
set_option maxRecDepth 100000 in
theorem sign_bad (w : World) (hs : s.size ≤ 262144) (hp : p < s.size) (h : Scn b s lv p ln ov opn w) (hL : Lst b g lv w) (hx : Lx.signs.findIdx? (fun t => Lx.pre t s.data.toList p) = none) :
    Calls Tryz.prog 82 #[.pointer (some ⟨b, 0, none⟩)] w (TokPost b s lv ln w (.error p)) := by
  have h1 := h.c1
  have h4 := h.c4
  have hbl := h.lt
  have hgl : g < w.heap.size := by have := hL.lt; omega
  have HI := Lib.hid (show sgnIdx s.data.toList p = -1 by unfold sgnIdx; rw [hx])
  have HS := Lib.hid h
  have HL := Lib.hid hL
  have HLA := Lib.hid (hL.kf (Kf.of_below (fun _ _ => False) ((Below.refl w.heap.size w).alloc (Nat.le_refl _) (.cells tok0 31))) (fun _ => id))
  clear h hL hx
  go_enter Tryz.func82, Tryz.ntmps82
  go_wp2_with fail
  refine (indexFunc_any _ (by omega) (by omega) (HS.out.alloc _) HLA.out).mono ?_
  rintro e w1 ⟨rfl, n1, rfl⟩
  rw [HI.out]
  go_wp2
  exact ⟨rfl, ((Kf.refl _ _).alloc _).drewN _, rfl⟩
theorem li_ne {t u : List UInt8} (h : t ≠ u) : (t == u) = false := by rw [beq_eq_false_iff_ne]; exact h
/-- A brace more or less within the template under way. -/
theorem Scn.bump {init : List Int} {m m' : Int} {r cap : Nat} {w : World} (h : Scn b s lv p ln (.slice (some ⟨r, 0, none⟩) (init.length + 1) cap) (init ++ [m]) w) : Scn b s lv p ln (.slice (some ⟨r, 0, none⟩) (init.length + 1) cap) (init ++ [m']) (w.setCell ⟨r, init.length, none⟩ (.int .i64 m')) := by
  have how : w.ownsRow (b + 1) 3 1 (.slice (some ⟨r, 0, none⟩) (init.length + 1) cap) (init.length + 1) (init.map (Value.int .i64) ++ [.int .i64 m]) := by
    have := h.own
    simpa using this
  have hrb := how.lt r rfl
  refine ⟨?_, ?_⟩
  · rw [Below.heap_setCell _ _ _ _ (by simp only; omega)]; exact h.blk
  · have := (how.stored init.length (.int .i64 m')).1
    rw [List.set_append_right _ _ (by simp)] at this
    simpa using this
/-- The template under way is left. -/
theorem Scn.popped {init : List Int} {m : Int} {r cap : Nat} {w : World} (h : Scn b s lv p ln (.slice (some ⟨r, 0, none⟩) (init.length + 1) cap) (init ++ [m]) w) : Scn b s lv p ln (.slice (some ⟨r, 0, none⟩) init.length cap) init (w.setCell ⟨b, 3, none⟩ (.slice (some ⟨r, 0, none⟩) init.length cap)) := by
  have how : w.ownsRow (b + 1) 3 1 (.slice (some ⟨r, 0, none⟩) (init.length + 1) cap) (init.length + 1) (init.map (Value.int .i64) ++ [.int .i64 m]) := by
    have := h.own
    simpa using this
  have := ownsRow_pop (xs := init.map (Value.int .i64)) (last := [.int .i64 m]) (size := 1) (n := init.length) (by simp) how
  exact Scn.setOpen h.blk this
theorem Kf.setI {_S : Nat → Obj → Prop} {w0 w : World} {v : Value} {n : Nat} {xs : List Value} {r : Nat} (hk : Kf (Sp b) w0 w) (how : w.ownsRow (b + 1) 3 1 v n xs) (hr : v.ownBlock = some r) (i : Nat) (u : Value) : Kf (Sp b) w0 (w.setCell ⟨r, i, none⟩ u) := by
  refine Kf.set (a := ⟨r, i, none⟩) hk (fun o ho => ?_) u
  rcases how.2 with ⟨hv, _⟩ | ⟨g, cap, cur, hv, hg, hh, _⟩
  · rw [hv] at hr; cases hr
  · rw [hv] at hr
    have e1 : g = r := Option.some.inj hr
    subst e1
    rw [hh] at ho
    injection ho with ho
    exact ⟨by simp only; omega, by rw [← ho]; simp [Calm]⟩

set_option maxHeartbeats 2000000 in
set_option maxRecDepth 100000 in
theorem sign_none {k : Nat} {t : List UInt8} (w : World) (hs : s.size ≤ 262144) (hp : p < s.size) (h : Scn b s lv p ln ov [] w) (hL : Lst b g lv w) (hx : Lx.signs.findIdx? (fun t => Lx.pre t s.data.toList p) = some k) (ht : Lx.signs[k]? = some t) (hpt : Lx.pre t s.data.toList p = true) :
    Calls Tryz.prog 82 #[.pointer (some ⟨b, 0, none⟩)] w (TokPost b s lv ln w (.ok (⟨3, t, [], 0⟩, p + t.length, []))) := by
  have h1 := h.c1
  have h3 := h.c3
  have h4 := h.c4
  have f1 := h.fz 1
  have f3 := h.fz 3
  have hbl := h.lt
  have hgl : g < w.heap.size := by have := hL.lt; omega
  have hk52 : k < 52 := by have := (List.getElem?_eq_some_iff.1 ht).1; rw [signs_len] at this; exact this
  have hle := pre_le hpt (by simp; omega)
  rw [show s.data.toList.length = s.size by simp] at hle
  have hlt : t.toArray.size = t.length := by simp
  have hc := hL.cell ht
  have hov : ∃ ao cap, ov = .slice ao 0 cap := by
    rcases h.own.2 with ⟨hv, _⟩ | ⟨g, cap, cur, hv, _⟩
    · exact ⟨_, _, hv⟩
    · exact ⟨_, _, hv⟩
  obtain ⟨ao, cap, rfl⟩ := hov
  have HI := Lib.hid (show sgnIdx s.data.toList p = k by unfold sgnIdx; rw [hx])
  have HS := Lib.hid h
  have hlv := hL.val
  rw [signs_len] at hlv
  subst hlv
  have HL := Lib.hid hL
  have HLA := Lib.hid (hL.kf (Kf.of_below (fun _ _ => False) ((Below.refl w.heap.size w).alloc (Nat.le_refl _) (.cells tok0 31))) (fun _ => id))
  clear h hL hx ht
  go_enter Tryz.func82, Tryz.ntmps82
  go_wp2_with fail
  refine (indexFunc_any _ (by omega) (by omega) (HS.out.alloc _) HLA.out).mono ?_
  rintro e w1 ⟨rfl, n1, rfl⟩
  rw [HI.out]
  have HR := Lib.hid (show (((w.alloc (.cells tok0 31)).drewN n1).setCell ⟨b, 1, none⟩ (.int .i64 ((p : Int) + t.length))).heap[w.heap.size]? = some (.cells tok0 31 (0, 0)) by
    rw [Below.heap_setCell _ _ _ _ (by simp only; omega)]; exact heap_alloc_new _ _)
  go_wp2_with (refine wpList_store_row rfl 31 (.tmp 2) (.tmp 94) rfl w.heap.size #[.int .i64 3, .string ⟨t.toArray⟩, .string ⟨#[]⟩, .float .f64 0, .int .i64 0, .int .i64 0, .bool false] rfl rfl 31 tok0 HR.out size31 rfl (tok_one _ _ _ _ _ _ _) ?_)
  go_wp2
  refine bodyPost_ret (v := tokV ⟨3, t, [], 0⟩ 0 0 false) (results_row rfl rfl (setRow_heap _ _ _ _ _ _ HR.out) rfl) rfl ?_
  exact ⟨(HS.out.so_sp ((((Kf.refl _ _).alloc _).drewN _).setB 1 _)).setRowNew (Nat.le_refl _) _, _, rfl, Scn.setRow (((HS.out.alloc _).drewN _).setTo (by omega)) HR.out _⟩
set_option maxHeartbeats 2000000 in
set_option maxRecDepth 100000 in
theorem sign_other {k : Nat} {t : List UInt8} (w : World) (hs : s.size ≤ 262144) (hp : p < s.size) {init : List Int} {m : Int} (_hm0 : 0 ≤ m) (_hm1 : m ≤ 262144) (hil : init.length ≤ 262144) (h : Scn b s lv p ln ov (init ++ [m]) w) (hL : Lst b g lv w) (hx : Lx.signs.findIdx? (fun t => Lx.pre t s.data.toList p) = some k) (ht : Lx.signs[k]? = some t) (hpt : Lx.pre t s.data.toList p = true) (hb : t ≠ [123]) (hcl : t ≠ [125]) :
    Calls Tryz.prog 82 #[.pointer (some ⟨b, 0, none⟩)] w (TokPost b s lv ln w (.ok (⟨3, t, [], 0⟩, p + t.length, init ++ [m]))) := by
  have h1 := h.c1
  have h3 := h.c3
  have h4 := h.c4
  have f1 := h.fz 1
  have f3 := h.fz 3
  have hbl := h.lt
  have hgl : g < w.heap.size := by have := hL.lt; omega
  have hk52 : k < 52 := by have := (List.getElem?_eq_some_iff.1 ht).1; rw [signs_len] at this; exact this
  have hle := pre_le hpt (by simp; omega)
  rw [show s.data.toList.length = s.size by simp] at hle
  have hlt : t.toArray.size = t.length := by simp
  have hc := hL.cell ht
  obtain ⟨r, cap, rfl⟩ : ∃ r cap, ov = .slice (some ⟨r, 0, none⟩) (init.length + 1) cap := by
    rcases h.own.2 with ⟨_, h0⟩ | ⟨g, cap, cur, hv, _⟩
    · simp at h0
    · exact ⟨g, cap, by rw [hv]; simp⟩
  have how : w.ownsRow (b + 1) 3 1 (.slice (some ⟨r, 0, none⟩) (init.length + 1) cap) (init.length + 1) (init.map (Value.int .i64) ++ [.int .i64 m]) := by
    have := h.own
    simpa using this
  have hrb := how.lt r rfl
  have hm := how.cellAt init.length (by omega)
  rw [List.getElem?_append_right (by simp)] at hm
  simp at hm
  have hf := how.frozenAt init.length
  have hcap : init.length ≤ cap ∧ (init.length : Int) ≤ (cap : Int) := by
    rcases how.2 with ⟨hv, _⟩ | ⟨g, cap', cur, hv, _, _, h1, _⟩
    · cases hv
    · injection hv with _ _ hv; omega
  have hcap1 := hcap.1
  have hcap2 := hcap.2
  have HOW := Lib.hid how
  clear how
  have tb := li_ne hb
  have tc := li_ne hcl
  clear hb hcl
  have HI := Lib.hid (show sgnIdx s.data.toList p = k by unfold sgnIdx; rw [hx])
  have HS := Lib.hid h
  have hlv := hL.val
  rw [signs_len] at hlv
  subst hlv
  have HL := Lib.hid hL
  have HLA := Lib.hid (hL.kf (Kf.of_below (fun _ _ => False) ((Below.refl w.heap.size w).alloc (Nat.le_refl _) (.cells tok0 31))) (fun _ => id))
  clear h hL hx ht
  go_enter Tryz.func82, Tryz.ntmps82
  go_wp2_with fail
  refine (indexFunc_any _ (by omega) (by omega) (HS.out.alloc _) HLA.out).mono ?_
  rintro e w1 ⟨rfl, n1, rfl⟩
  rw [HI.out]
  have HR := Lib.hid (show (((w.alloc (.cells tok0 31)).drewN n1).setCell ⟨b, 1, none⟩ (.int .i64 ((p : Int) + t.length))).heap[w.heap.size]? = some (.cells tok0 31 (0, 0)) by
    rw [Below.heap_setCell _ _ _ _ (by simp only; omega)]; exact heap_alloc_new _ _)
  go_wp2_with (refine wpList_store_row rfl 31 (.tmp 2) (.tmp 94) rfl w.heap.size #[.int .i64 3, .string ⟨t.toArray⟩, .string ⟨#[]⟩, .float .f64 0, .int .i64 0, .int .i64 0, .bool false] rfl rfl 31 tok0 HR.out size31 rfl (tok_one _ _ _ _ _ _ _) ?_)
  go_wp2
  refine bodyPost_ret (v := tokV ⟨3, t, [], 0⟩ 0 0 false) (results_row rfl rfl (setRow_heap _ _ _ _ _ _ HR.out) rfl) rfl ?_
  exact ⟨(HS.out.so_sp ((((Kf.refl _ _).alloc _).drewN _).setB 1 _)).setRowNew (Nat.le_refl _) _, _, rfl, Scn.setRow (((HS.out.alloc _).drewN _).setTo (by omega)) HR.out _⟩
set_option maxHeartbeats 2000000 in
set_option maxRecDepth 100000 in
theorem sign_open {k : Nat} {t : List UInt8} (w : World) (hs : s.size ≤ 262144) (hp : p < s.size) {init : List Int} {m : Int} (hm0 : 0 ≤ m) (hm1 : m ≤ 262144) (hil : init.length ≤ 262144) (h : Scn b s lv p ln ov (init ++ [m]) w) (hL : Lst b g lv w) (hx : Lx.signs.findIdx? (fun t => Lx.pre t s.data.toList p) = some k) (ht : Lx.signs[k]? = some t) (hpt : Lx.pre t s.data.toList p = true) (hb : t = [123]) :
    Calls Tryz.prog 82 #[.pointer (some ⟨b, 0, none⟩)] w (TokPost b s lv ln w (.ok (⟨3, t, [], 0⟩, p + t.length, init ++ [m + 1]))) := by
  have h1 := h.c1
  have h3 := h.c3
  have h4 := h.c4
  have f1 := h.fz 1
  have f3 := h.fz 3
  have hbl := h.lt
  have hgl : g < w.heap.size := by have := hL.lt; omega
  have hk52 : k < 52 := by have := (List.getElem?_eq_some_iff.1 ht).1; rw [signs_len] at this; exact this
  have hle := pre_le hpt (by simp; omega)
  rw [show s.data.toList.length = s.size by simp] at hle
  have hlt : t.toArray.size = t.length := by simp
  have hc := hL.cell ht
  obtain ⟨r, cap, rfl⟩ : ∃ r cap, ov = .slice (some ⟨r, 0, none⟩) (init.length + 1) cap := by
    rcases h.own.2 with ⟨_, h0⟩ | ⟨g, cap, cur, hv, _⟩
    · simp at h0
    · exact ⟨g, cap, by rw [hv]; simp⟩
  have how : w.ownsRow (b + 1) 3 1 (.slice (some ⟨r, 0, none⟩) (init.length + 1) cap) (init.length + 1) (init.map (Value.int .i64) ++ [.int .i64 m]) := by
    have := h.own
    simpa using this
  have hrb := how.lt r rfl
  have hm := how.cellAt init.length (by omega)
  rw [List.getElem?_append_right (by simp)] at hm
  simp at hm
  have hf := how.frozenAt init.length
  have hcap : init.length ≤ cap ∧ (init.length : Int) ≤ (cap : Int) := by
    rcases how.2 with ⟨hv, _⟩ | ⟨g, cap', cur, hv, _, _, h1, _⟩
    · cases hv
    · injection hv with _ _ hv; omega
  have hcap1 := hcap.1
  have hcap2 := hcap.2
  have HOW := Lib.hid how
  clear how
  subst hb
  have HI := Lib.hid (show sgnIdx s.data.toList p = k by unfold sgnIdx; rw [hx])
  have HS := Lib.hid h
  have hlv := hL.val
  rw [signs_len] at hlv
  subst hlv
  have HL := Lib.hid hL
  have HLA := Lib.hid (hL.kf (Kf.of_below (fun _ _ => False) ((Below.refl w.heap.size w).alloc (Nat.le_refl _) (.cells tok0 31))) (fun _ => id))
  clear h hL hx ht
  go_enter Tryz.func82, Tryz.ntmps82
  go_wp2_with fail
  refine (indexFunc_any _ (by omega) (by omega) (HS.out.alloc _) HLA.out).mono ?_
  rintro e w1 ⟨rfl, n1, rfl⟩
  rw [HI.out]
  have HR := Lib.hid (show ((((w.alloc (.cells tok0 31)).drewN n1).setCell ⟨r, init.length, none⟩ (.int .i64 (m + 1))).setCell ⟨b, 1, none⟩ (.int .i64 ((p : Int) + 1))).heap[w.heap.size]? = some (.cells tok0 31 (0, 0)) by
    rw [Below.heap_setCell _ _ _ _ (by simp only; omega), Below.heap_setCell _ _ _ _ (by simp only; omega)]; exact heap_alloc_new _ _)
  go_wp2_with (refine wpList_store_row rfl 31 (.tmp 2) (.tmp 94) rfl w.heap.size #[.int .i64 3, .string ⟨[123].toArray⟩, .string ⟨#[]⟩, .float .f64 0, .int .i64 0, .int .i64 0, .bool false] rfl rfl 31 tok0 HR.out size31 rfl (tok_one _ _ _ _ _ _ _) ?_)
  go_wp2
  refine bodyPost_ret (v := tokV ⟨3, [123], [], 0⟩ 0 0 false) (results_row rfl rfl (setRow_heap _ _ _ _ _ _ HR.out) rfl) rfl ?_
  have HS2 := Scn.bump (m' := m + 1) ((HS.out.alloc (.cells tok0 31)).drewN n1)
  exact ⟨(HS2.so_sp (Kf.refl _ _) |> fun _ => Kf.set (S := Sp b) (a := ⟨b, 1, none⟩) (Kf.setI (_S := Sp b) (((Kf.refl _ w).alloc (.cells tok0 31)).drewN n1) ((HOW.out.alloc (.cells tok0 31))) rfl init.length (.int .i64 (m + 1))) (fun o ho => ⟨Nat.le_refl _, by have e := HS2.blk; rw [e] at ho; injection ho with ho; rw [← ho]; simp [Calm]⟩) _).setRowNew (Nat.le_refl _) _, _, rfl, Scn.setRow (HS2.setTo (by simp)) HR.out _⟩
set_option maxHeartbeats 2000000 in
set_option maxRecDepth 100000 in
theorem sign_close {k : Nat} {t : List UInt8} (w : World) (hs : s.size ≤ 262144) (hp : p < s.size) {init : List Int} {m : Int} (hm0 : 0 ≤ m) (hm1 : m ≤ 262144) (hil : init.length ≤ 262144) (h : Scn b s lv p ln ov (init ++ [m]) w) (hL : Lst b g lv w) (hx : Lx.signs.findIdx? (fun t => Lx.pre t s.data.toList p) = some k) (ht : Lx.signs[k]? = some t) (hpt : Lx.pre t s.data.toList p = true) (hb : t = [125]) (hz : m ≠ 0) :
    Calls Tryz.prog 82 #[.pointer (some ⟨b, 0, none⟩)] w (TokPost b s lv ln w (.ok (⟨3, t, [], 0⟩, p + t.length, init ++ [m - 1]))) := by
  have h1 := h.c1
  have h3 := h.c3
  have h4 := h.c4
  have f1 := h.fz 1
  have f3 := h.fz 3
  have hbl := h.lt
  have hgl : g < w.heap.size := by have := hL.lt; omega
  have hk52 : k < 52 := by have := (List.getElem?_eq_some_iff.1 ht).1; rw [signs_len] at this; exact this
  have hle := pre_le hpt (by simp; omega)
  rw [show s.data.toList.length = s.size by simp] at hle
  have hlt : t.toArray.size = t.length := by simp
  have hc := hL.cell ht
  obtain ⟨r, cap, rfl⟩ : ∃ r cap, ov = .slice (some ⟨r, 0, none⟩) (init.length + 1) cap := by
    rcases h.own.2 with ⟨_, h0⟩ | ⟨g, cap, cur, hv, _⟩
    · simp at h0
    · exact ⟨g, cap, by rw [hv]; simp⟩
  have how : w.ownsRow (b + 1) 3 1 (.slice (some ⟨r, 0, none⟩) (init.length + 1) cap) (init.length + 1) (init.map (Value.int .i64) ++ [.int .i64 m]) := by
    have := h.own
    simpa using this
  have hrb := how.lt r rfl
  have hm := how.cellAt init.length (by omega)
  rw [List.getElem?_append_right (by simp)] at hm
  simp at hm
  have hf := how.frozenAt init.length
  have hcap : init.length ≤ cap ∧ (init.length : Int) ≤ (cap : Int) := by
    rcases how.2 with ⟨hv, _⟩ | ⟨g, cap', cur, hv, _, _, h1, _⟩
    · cases hv
    · injection hv with _ _ hv; omega
  have hcap1 := hcap.1
  have hcap2 := hcap.2
  have HOW := Lib.hid how
  clear how
  subst hb
  have tz : (m == 0) = false := by simpa using hz
  clear hz
  have HI := Lib.hid (show sgnIdx s.data.toList p = k by unfold sgnIdx; rw [hx])
  have HS := Lib.hid h
  have hlv := hL.val
  rw [signs_len] at hlv
  subst hlv
  have HL := Lib.hid hL
  have HLA := Lib.hid (hL.kf (Kf.of_below (fun _ _ => False) ((Below.refl w.heap.size w).alloc (Nat.le_refl _) (.cells tok0 31))) (fun _ => id))
  clear h hL hx ht
  go_enter Tryz.func82, Tryz.ntmps82
  go_wp2_with fail
  refine (indexFunc_any _ (by omega) (by omega) (HS.out.alloc _) HLA.out).mono ?_
  rintro e w1 ⟨rfl, n1, rfl⟩
  rw [HI.out]
  have HR := Lib.hid (show ((((w.alloc (.cells tok0 31)).drewN n1).setCell ⟨r, init.length, none⟩ (.int .i64 (m - 1))).setCell ⟨b, 1, none⟩ (.int .i64 ((p : Int) + 1))).heap[w.heap.size]? = some (.cells tok0 31 (0, 0)) by
    rw [Below.heap_setCell _ _ _ _ (by simp only; omega), Below.heap_setCell _ _ _ _ (by simp only; omega)]; exact heap_alloc_new _ _)
  go_wp2_with (refine wpList_store_row rfl 31 (.tmp 2) (.tmp 94) rfl w.heap.size #[.int .i64 3, .string ⟨[125].toArray⟩, .string ⟨#[]⟩, .float .f64 0, .int .i64 0, .int .i64 0, .bool false] rfl rfl 31 tok0 HR.out size31 rfl (tok_one _ _ _ _ _ _ _) ?_)
  go_wp2
  refine bodyPost_ret (v := tokV ⟨3, [125], [], 0⟩ 0 0 false) (results_row rfl rfl (setRow_heap _ _ _ _ _ _ HR.out) rfl) rfl ?_
  have HS2 := Scn.bump (m' := m - 1) ((HS.out.alloc (.cells tok0 31)).drewN n1)
  exact ⟨(HS2.so_sp (Kf.refl _ _) |> fun _ => Kf.set (S := Sp b) (a := ⟨b, 1, none⟩) (Kf.setI (_S := Sp b) (((Kf.refl _ w).alloc (.cells tok0 31)).drewN n1) ((HOW.out.alloc (.cells tok0 31))) rfl init.length (.int .i64 (m - 1))) (fun o ho => ⟨Nat.le_refl _, by have e := HS2.blk; rw [e] at ho; injection ho with ho; rw [← ho]; simp [Calm]⟩) _).setRowNew (Nat.le_refl _) _, _, rfl, Scn.setRow (HS2.setTo (by simp)) HR.out _⟩
set_option maxHeartbeats 2000000 in
set_option maxRecDepth 100000 in
theorem sign_pop {k : Nat} {t : List UInt8} (w : World) (hs : s.size ≤ 262144) (hp : p < s.size) {init : List Int} (hil : init.length ≤ 262144) (h : Scn b s lv p ln ov (init ++ [0]) w) (hL : Lst b g lv w) (hx : Lx.signs.findIdx? (fun t => Lx.pre t s.data.toList p) = some k) (ht : Lx.signs[k]? = some t) (hpt : Lx.pre t s.data.toList p = true) (hb : t = [125]) :
    Calls Tryz.prog 82 #[.pointer (some ⟨b, 0, none⟩)] w (TokPost b s lv ln w (Lx.piece s.data.toList 9 8 p init)) := by
  have h1 := h.c1
  have h3 := h.c3
  have h4 := h.c4
  have f1 := h.fz 1
  have f3 := h.fz 3
  have hbl := h.lt
  have hgl : g < w.heap.size := by have := hL.lt; omega
  have hk52 : k < 52 := by have := (List.getElem?_eq_some_iff.1 ht).1; rw [signs_len] at this; exact this
  have hle := pre_le hpt (by simp; omega)
  rw [show s.data.toList.length = s.size by simp] at hle
  have hlt : t.toArray.size = t.length := by simp
  have hc := hL.cell ht
  obtain ⟨r, cap, rfl⟩ : ∃ r cap, ov = .slice (some ⟨r, 0, none⟩) (init.length + 1) cap := by
    rcases h.own.2 with ⟨_, h0⟩ | ⟨g, cap, cur, hv, _⟩
    · simp at h0
    · exact ⟨g, cap, by rw [hv]; simp⟩
  have how : w.ownsRow (b + 1) 3 1 (.slice (some ⟨r, 0, none⟩) (init.length + 1) cap) (init.length + 1) (init.map (Value.int .i64) ++ [.int .i64 0]) := by
    have := h.own
    simpa using this
  have hrb := how.lt r rfl
  have hm := how.cellAt init.length (by omega)
  rw [List.getElem?_append_right (by simp)] at hm
  simp at hm
  have hf := how.frozenAt init.length
  have hcap : init.length ≤ cap ∧ (init.length : Int) ≤ (cap : Int) := by
    rcases how.2 with ⟨hv, _⟩ | ⟨g, cap', cur, hv, _, _, h1, _⟩
    · cases hv
    · injection hv with _ _ hv; omega
  have hcap1 := hcap.1
  have hcap2 := hcap.2
  have HOW := Lib.hid how
  clear how
  subst hb
  have HI := Lib.hid (show sgnIdx s.data.toList p = k by unfold sgnIdx; rw [hx])
  have HS := Lib.hid h
  have hlv := hL.val
  rw [signs_len] at hlv
  subst hlv
  have HL := Lib.hid hL
  have HLA := Lib.hid (hL.kf (Kf.of_below (fun _ _ => False) ((Below.refl w.heap.size w).alloc (Nat.le_refl _) (.cells tok0 31))) (fun _ => id))
  clear h hL hx ht
  go_enter Tryz.func82, Tryz.ntmps82
  go_wp2_with fail
  refine (indexFunc_any _ (by omega) (by omega) (HS.out.alloc _) HLA.out).mono ?_
  rintro e w1 ⟨rfl, n1, rfl⟩
  rw [HI.out]
  have HS2 := Lib.hid (Scn.popped ((HS.out.alloc (.cells tok0 31)).drewN n1))
  have HK2 := Lib.hid (HS.out.so_sp ((((Kf.refl _ w).alloc (.cells tok0 31)).drewN n1).setB 3 (.slice (some ⟨r, 0, none⟩) init.length cap)))
  go_wp2_with fail
  refine (piece_any 9 8 _ hs hp hil (by decide) (by decide) HS2.out).mono ?_
  rintro e w2 ⟨hK3, hP⟩
  have HK3 := Lib.hid (HK2.out.trans hK3)
  have HR := Lib.hid (hK3.block w.heap.size (.cells tok0 31 (0, 0)) (by rw [Below.heap_setCell _ _ _ _ (by simp only; omega)]; exact heap_alloc_new _ _) (fun e => e.2 (by simp [Calm])))
  cases hE : Lx.piece s.data.toList 9 8 p init with
  | error a =>
    rw [hE] at hP
    have he : e = wrongAt a := hP
    clear hP hK3 hE
    subst he
    unfold wrongAt
    go_wp2
    exact ⟨rfl, HK3.out, rfl⟩
  | ok r2 =>
    obtain ⟨tk, q, opn'⟩ := r2
    rw [hE] at hP
    obtain ⟨ov', he, hS3⟩ := hP
    have HS3 := Lib.hid hS3
    have HE := Lib.hid hE
    clear hS3 hK3 hE
    subst he
    unfold tokV
    go_wp2_with (refine wpList_store_row rfl 31 (.tmp 2) (.tmp 71) rfl w.heap.size #[.int .i64 tk.kind, .string ⟨tk.text.toArray⟩, .string ⟨tk.str.toArray⟩, .float .f64 tk.num, .int .i64 (0 : Nat), .int .i64 (0 : Nat), .bool false] rfl rfl 31 tok0 HR.out size31 rfl (tok_one _ _ _ _ _ _ _) ?_)
    go_wp2
    refine bodyPost_ret (v := tokV tk 0 0 false) (results_row rfl rfl (setRow_heap _ _ _ _ _ _ HR.out) rfl) rfl ?_
    exact ⟨HK3.out.setRowNew (Nat.le_refl _) _, by rw [HE.out]; exact ⟨_, rfl, HS3.out.setRow HR.out _⟩⟩
/-- The open braces: no more than the place. -/
def OpnOk (opn : List Int) (p : Nat) : Prop := opn.length ≤ p ∧ ∀ m ∈ opn, 0 ≤ m ∧ m ≤ p
theorem sign_any (w : World) (hs : s.size ≤ 262144) (hp : p < s.size) (ho : OpnOk opn p) (h : Scn b s lv p ln ov opn w) (hL : Lst b g lv w) :
    Calls Tryz.prog 82 #[.pointer (some ⟨b, 0, none⟩)] w (TokPost b s lv ln w (Lx.sign s.data.toList p opn)) := by
  cases hx : Lx.signs.findIdx? (fun t => Lx.pre t s.data.toList p) with
  | none =>
    have hf : Lx.signs.find? (fun t => Lx.pre t s.data.toList p) = none := by
      rw [List.find?_eq_none]
      intro t ht
      have := List.findIdx?_eq_none_iff.1 hx t ht
      simp [this]
    simp only [Lx.sign, hf]
    exact sign_bad w hs hp h hL hx
  | some k =>
    obtain ⟨t, ht, hf, hpt⟩ := find_of_idx hx
    simp only [Lx.sign, hf]
    rcases List.eq_nil_or_concat opn with rfl | ⟨init, m, rfl⟩
    · exact sign_none w hs hp h hL hx ht hpt
    · simp only [List.concat_eq_append] at h ho ⊢
      have hm := ho.2 m (by simp)
      have hl : init.length ≤ 262144 := by have := ho.1; simp at this; omega
      rw [show (init ++ [m]).getLast? = some m by simp, show (init ++ [m]).dropLast = init by simp]
      simp only
      by_cases hb : t = [123]
      · rw [if_pos hb]
        exact sign_open w hs hp hm.1 (by omega) hl h hL hx ht hpt hb
      · rw [if_neg hb]
        by_cases hc : t = [125]
        · rw [if_pos hc]
          by_cases hz : m = 0
          · rw [if_pos hz]
            subst hz
            exact sign_pop w hs hp hl h hL hx ht hpt hc
          · rw [if_neg hz]
            exact sign_close w hs hp hm.1 (by omega) hl h hL hx ht hpt hc hz
        · rw [if_neg hc]
          exact sign_other w hs hp hm.1 (by omega) hl h hL hx ht hpt hb hc
end
end Go.Proofs.YtcgibcjpkhefpaaGreatDoor

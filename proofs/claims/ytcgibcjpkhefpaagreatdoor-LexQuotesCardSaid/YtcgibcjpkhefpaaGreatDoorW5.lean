/-
  The walk of the scanner's escape, case by case.
-/
import Derived.Test.YtcgibcjpkhefpaaGreatDoorW4
namespace Go.Proofs.YtcgibcjpkhefpaaGreatDoor
open Go.RowKit
theorem idxEsc (c : UInt8) (w : World) :
    Calls Tryz.prog 117 #[.string ⟨#[110, 116, 98, 118, 102, 114]⟩, .int .u8 c.toNat] w fun e w' => e = .returned (.int .i64 (Lib.indexByte Lx.escs c)) ∧ w' = w := idxByte _ c w
theorem toNat_ne {c : UInt8} {n : UInt8} (h : c ≠ n) : (((c.toNat : Nat) : Int) == ((n.toNat : Nat) : Int)) = false := by
  rw [beq_eq_false_iff_ne]
  intro e
  apply h
  apply UInt8.toNat_inj.1
  omega
theorem hexGo_lt (l : List UInt8) : ∀ (f n v p n' v' q : Nat), Lx.hexGo l f n v p = some (n', v', q) → v' < (v + 1) * 16 ^ f
  | 0, n, v, p, n', v', q, h => by
    simp only [Lx.hexGo, Option.some.injEq, Prod.mk.injEq] at h
    obtain ⟨_, rfl, _⟩ := h
    simp
  | f + 1, n, v, p, n', v', q, h => by
    rw [Lx.hexGo] at h
    split at h
    · simp only [Option.some.injEq, Prod.mk.injEq] at h
      obtain ⟨_, rfl, _⟩ := h
      have : 1 ≤ 16 ^ (f + 1) := by have := Nat.pow_le_pow_right (n := 16) (by decide) (Nat.zero_le (f + 1)); simpa using this
      calc v < (v + 1) * 1 := by omega
        _ ≤ (v + 1) * 16 ^ (f + 1) := Nat.mul_le_mul_left _ this
    · rename_i k hk
      split at h
      · cases h
      · have ih := hexGo_lt l f _ _ _ _ _ _ h
        have hk15 := (hexd_some hk).2.1
        calc v' < (16 * v + k + 1) * 16 ^ f := ih
          _ ≤ (16 * (v + 1)) * 16 ^ f := Nat.mul_le_mul_right _ (by omega)
          _ = (v + 1) * 16 ^ (f + 1) := by rw [Nat.pow_succ]; simp [Nat.mul_comm, Nat.mul_assoc]
theorem hex_lt {l : List UInt8} {least most p v q : Nat} (h : Lx.hex l least most p = some (v, q)) : v < 16 ^ most := by
  unfold Lx.hex at h
  split at h
  · cases h
  · rename_i n v' q' hg
    split at h
    · cases h
    · simp only [Option.some.injEq, Prod.mk.injEq] at h
      obtain ⟨rfl, rfl⟩ := h
      have := hexGo_lt _ _ _ _ _ _ _ _ hg
      simpa using this
section
variable {b : Nat} {s : ByteArray} {lv ov : Value} {p : Nat} {ln : Bool} {opn : List Int} {B x : Nat} {l : List UInt8}
/-- Behind an escape. -/
def EscPost (b : Nat) (s : ByteArray) (lv : Value) (ln : Bool) (ov : Value) (opn : List Int) (B x : Nat) (l : List UInt8) (frm : Nat) (w : World) (r : Option (List UInt8 × Nat)) (e : Ending) (w' : World) : Prop :=
  Kf (Sx b x) w w' ∧ match r with
    | some (u, q) => e = .returned (.tuple #[]) ∧ Scn b s lv q ln ov opn w' ∧ Bld B x (l ++ u) w'
    | none => e = wrongAt frm

set_option maxHeartbeats 1000000 in
set_option maxRecDepth 100000 in
theorem esc_end (frm : Nat) (w : World) (hs : s.size ≤ 140737488351232) (hp : s.size ≤ p) (hp' : p ≤ s.size) (h : Scn b s lv p ln ov opn w) (hB : Bld B x l w) (_hxB : x ≤ B) (_hl : l.length + 4 ≤ 140737488355328)
     :
    Calls Tryz.prog 105 #[.pointer (some ⟨b, 0, none⟩), .pointer (some ⟨x, 0, none⟩), .int .i64 frm] w (EscPost b s lv ln ov opn B x l frm w (none)) := by
  have h0 := h.c0
  have h1 := h.c1
  have f1 := h.fz 1
  have hlt : (p : Int) ≤ (s.size : Int) := by omega
  have hge : decide ((s.size : Int) ≤ (p : Int)) = true := by simp; omega
  have hc := pk_zero (l := s.data.toList) (p := p) (by simpa using hp)
  have HC := Lib.hid hc
  clear hc
  have HS := Lib.hid h
  have HB := Lib.hid hB
  clear h hB
  go_enter Tryz.func105, Tryz.ntmps105
  go_wp2_with fail
  refine (peek0 _ hs (by omega) HS.out).mono ?_
  rintro e w1 ⟨rfl, n1, rfl⟩
  rw [HC.out]
  go_wp2_with fail
  refine (idxEsc 0 _).mono ?_
  rintro e w1 ⟨rfl, rfl⟩
  rw [show Lib.indexByte Lx.escs 0 = -1 from by decide]
  go_wp2
  go_quiet (fail)
  go_wp2_with fail
  exact ⟨rfl, (Kf.refl _ _).drewN _, rfl⟩
set_option maxHeartbeats 1000000 in
set_option maxRecDepth 100000 in
theorem esc_letter110 (frm : Nat) (w : World) (hs : s.size ≤ 140737488351232) (hp : p < s.size) (h : Scn b s lv p ln ov opn w) (hB : Bld B x l w) (hxB : x ≤ B) (hl : l.length + 4 ≤ 140737488355328)
    (hc : Lx.pk s.data.toList p = 110) :
    Calls Tryz.prog 105 #[.pointer (some ⟨b, 0, none⟩), .pointer (some ⟨x, 0, none⟩), .int .i64 frm] w (EscPost b s lv ln ov opn B x l frm w (some (Lx.u16 10, p + 1))) := by
  have h0 := h.c0
  have h1 := h.c1
  have f1 := h.fz 1
  have hlt : (p : Int) < (s.size : Int) := by omega
  have hge : decide ((s.size : Int) ≤ (p : Int)) = false := by simp; omega
  have HC := Lib.hid hc
  clear hc
  have HS := Lib.hid h
  have HB := Lib.hid hB
  clear h hB
  go_enter Tryz.func105, Tryz.ntmps105
  go_wp2_with fail
  refine (peek0 _ hs (by omega) HS.out).mono ?_
  rintro e w1 ⟨rfl, n1, rfl⟩
  rw [HC.out]
  go_wp2_with fail
  refine (idxEsc 110 _).mono ?_
  rintro e w1 ⟨rfl, rfl⟩
  rw [show Lib.indexByte Lx.escs 110 = 0 from by decide]
  go_wp2
  go_quiet (fail)
  go_wp2_with fail
  refine (put_any 10 (by decide) (Bld.alloc (Bld.setScn (HB.out.drewN _) (HS.out.drewN _) 1 _) _) (by omega)).mono ?_
  rintro e w1 ⟨rfl, hW⟩
  go_wp2_with fail
  go_end0
  refine ⟨?_, rfl, ?_, hW.1⟩
  · exact ((Kf.alloc (Kf.set (a := ⟨b, 1, none⟩) ((Kf.refl _ w).drewN _) (fun _ _ => Or.inl rfl) _) _)).trans (kf_builder (hW.2.1.mono hxB) hW.2.2)
  · exact (((HS.out.drewN _).setTo (by omega)).alloc _).wrote (Bld.alloc (Bld.setScn (HB.out.drewN _) (HS.out.drewN _) 1 _) _) hW.2.2
set_option maxHeartbeats 1000000 in
set_option maxRecDepth 100000 in
theorem esc_letter116 (frm : Nat) (w : World) (hs : s.size ≤ 140737488351232) (hp : p < s.size) (h : Scn b s lv p ln ov opn w) (hB : Bld B x l w) (hxB : x ≤ B) (hl : l.length + 4 ≤ 140737488355328)
    (hc : Lx.pk s.data.toList p = 116) :
    Calls Tryz.prog 105 #[.pointer (some ⟨b, 0, none⟩), .pointer (some ⟨x, 0, none⟩), .int .i64 frm] w (EscPost b s lv ln ov opn B x l frm w (some (Lx.u16 9, p + 1))) := by
  have h0 := h.c0
  have h1 := h.c1
  have f1 := h.fz 1
  have hlt : (p : Int) < (s.size : Int) := by omega
  have hge : decide ((s.size : Int) ≤ (p : Int)) = false := by simp; omega
  have HC := Lib.hid hc
  clear hc
  have HS := Lib.hid h
  have HB := Lib.hid hB
  clear h hB
  go_enter Tryz.func105, Tryz.ntmps105
  go_wp2_with fail
  refine (peek0 _ hs (by omega) HS.out).mono ?_
  rintro e w1 ⟨rfl, n1, rfl⟩
  rw [HC.out]
  go_wp2_with fail
  refine (idxEsc 116 _).mono ?_
  rintro e w1 ⟨rfl, rfl⟩
  rw [show Lib.indexByte Lx.escs 116 = 1 from by decide]
  go_wp2
  go_quiet (fail)
  go_wp2_with fail
  refine (put_any 9 (by decide) (Bld.alloc (Bld.setScn (HB.out.drewN _) (HS.out.drewN _) 1 _) _) (by omega)).mono ?_
  rintro e w1 ⟨rfl, hW⟩
  go_wp2_with fail
  go_end0
  refine ⟨?_, rfl, ?_, hW.1⟩
  · exact ((Kf.alloc (Kf.set (a := ⟨b, 1, none⟩) ((Kf.refl _ w).drewN _) (fun _ _ => Or.inl rfl) _) _)).trans (kf_builder (hW.2.1.mono hxB) hW.2.2)
  · exact (((HS.out.drewN _).setTo (by omega)).alloc _).wrote (Bld.alloc (Bld.setScn (HB.out.drewN _) (HS.out.drewN _) 1 _) _) hW.2.2
set_option maxHeartbeats 1000000 in
set_option maxRecDepth 100000 in
theorem esc_letter98 (frm : Nat) (w : World) (hs : s.size ≤ 140737488351232) (hp : p < s.size) (h : Scn b s lv p ln ov opn w) (hB : Bld B x l w) (hxB : x ≤ B) (hl : l.length + 4 ≤ 140737488355328)
    (hc : Lx.pk s.data.toList p = 98) :
    Calls Tryz.prog 105 #[.pointer (some ⟨b, 0, none⟩), .pointer (some ⟨x, 0, none⟩), .int .i64 frm] w (EscPost b s lv ln ov opn B x l frm w (some (Lx.u16 8, p + 1))) := by
  have h0 := h.c0
  have h1 := h.c1
  have f1 := h.fz 1
  have hlt : (p : Int) < (s.size : Int) := by omega
  have hge : decide ((s.size : Int) ≤ (p : Int)) = false := by simp; omega
  have HC := Lib.hid hc
  clear hc
  have HS := Lib.hid h
  have HB := Lib.hid hB
  clear h hB
  go_enter Tryz.func105, Tryz.ntmps105
  go_wp2_with fail
  refine (peek0 _ hs (by omega) HS.out).mono ?_
  rintro e w1 ⟨rfl, n1, rfl⟩
  rw [HC.out]
  go_wp2_with fail
  refine (idxEsc 98 _).mono ?_
  rintro e w1 ⟨rfl, rfl⟩
  rw [show Lib.indexByte Lx.escs 98 = 2 from by decide]
  go_wp2
  go_quiet (fail)
  go_wp2_with fail
  refine (put_any 8 (by decide) (Bld.alloc (Bld.setScn (HB.out.drewN _) (HS.out.drewN _) 1 _) _) (by omega)).mono ?_
  rintro e w1 ⟨rfl, hW⟩
  go_wp2_with fail
  go_end0
  refine ⟨?_, rfl, ?_, hW.1⟩
  · exact ((Kf.alloc (Kf.set (a := ⟨b, 1, none⟩) ((Kf.refl _ w).drewN _) (fun _ _ => Or.inl rfl) _) _)).trans (kf_builder (hW.2.1.mono hxB) hW.2.2)
  · exact (((HS.out.drewN _).setTo (by omega)).alloc _).wrote (Bld.alloc (Bld.setScn (HB.out.drewN _) (HS.out.drewN _) 1 _) _) hW.2.2
set_option maxHeartbeats 1000000 in
set_option maxRecDepth 100000 in
theorem esc_letter118 (frm : Nat) (w : World) (hs : s.size ≤ 140737488351232) (hp : p < s.size) (h : Scn b s lv p ln ov opn w) (hB : Bld B x l w) (hxB : x ≤ B) (hl : l.length + 4 ≤ 140737488355328)
    (hc : Lx.pk s.data.toList p = 118) :
    Calls Tryz.prog 105 #[.pointer (some ⟨b, 0, none⟩), .pointer (some ⟨x, 0, none⟩), .int .i64 frm] w (EscPost b s lv ln ov opn B x l frm w (some (Lx.u16 11, p + 1))) := by
  have h0 := h.c0
  have h1 := h.c1
  have f1 := h.fz 1
  have hlt : (p : Int) < (s.size : Int) := by omega
  have hge : decide ((s.size : Int) ≤ (p : Int)) = false := by simp; omega
  have HC := Lib.hid hc
  clear hc
  have HS := Lib.hid h
  have HB := Lib.hid hB
  clear h hB
  go_enter Tryz.func105, Tryz.ntmps105
  go_wp2_with fail
  refine (peek0 _ hs (by omega) HS.out).mono ?_
  rintro e w1 ⟨rfl, n1, rfl⟩
  rw [HC.out]
  go_wp2_with fail
  refine (idxEsc 118 _).mono ?_
  rintro e w1 ⟨rfl, rfl⟩
  rw [show Lib.indexByte Lx.escs 118 = 3 from by decide]
  go_wp2
  go_quiet (fail)
  go_wp2_with fail
  refine (put_any 11 (by decide) (Bld.alloc (Bld.setScn (HB.out.drewN _) (HS.out.drewN _) 1 _) _) (by omega)).mono ?_
  rintro e w1 ⟨rfl, hW⟩
  go_wp2_with fail
  go_end0
  refine ⟨?_, rfl, ?_, hW.1⟩
  · exact ((Kf.alloc (Kf.set (a := ⟨b, 1, none⟩) ((Kf.refl _ w).drewN _) (fun _ _ => Or.inl rfl) _) _)).trans (kf_builder (hW.2.1.mono hxB) hW.2.2)
  · exact (((HS.out.drewN _).setTo (by omega)).alloc _).wrote (Bld.alloc (Bld.setScn (HB.out.drewN _) (HS.out.drewN _) 1 _) _) hW.2.2
set_option maxHeartbeats 1000000 in
set_option maxRecDepth 100000 in
theorem esc_letter102 (frm : Nat) (w : World) (hs : s.size ≤ 140737488351232) (hp : p < s.size) (h : Scn b s lv p ln ov opn w) (hB : Bld B x l w) (hxB : x ≤ B) (hl : l.length + 4 ≤ 140737488355328)
    (hc : Lx.pk s.data.toList p = 102) :
    Calls Tryz.prog 105 #[.pointer (some ⟨b, 0, none⟩), .pointer (some ⟨x, 0, none⟩), .int .i64 frm] w (EscPost b s lv ln ov opn B x l frm w (some (Lx.u16 12, p + 1))) := by
  have h0 := h.c0
  have h1 := h.c1
  have f1 := h.fz 1
  have hlt : (p : Int) < (s.size : Int) := by omega
  have hge : decide ((s.size : Int) ≤ (p : Int)) = false := by simp; omega
  have HC := Lib.hid hc
  clear hc
  have HS := Lib.hid h
  have HB := Lib.hid hB
  clear h hB
  go_enter Tryz.func105, Tryz.ntmps105
  go_wp2_with fail
  refine (peek0 _ hs (by omega) HS.out).mono ?_
  rintro e w1 ⟨rfl, n1, rfl⟩
  rw [HC.out]
  go_wp2_with fail
  refine (idxEsc 102 _).mono ?_
  rintro e w1 ⟨rfl, rfl⟩
  rw [show Lib.indexByte Lx.escs 102 = 4 from by decide]
  go_wp2
  go_quiet (fail)
  go_wp2_with fail
  refine (put_any 12 (by decide) (Bld.alloc (Bld.setScn (HB.out.drewN _) (HS.out.drewN _) 1 _) _) (by omega)).mono ?_
  rintro e w1 ⟨rfl, hW⟩
  go_wp2_with fail
  go_end0
  refine ⟨?_, rfl, ?_, hW.1⟩
  · exact ((Kf.alloc (Kf.set (a := ⟨b, 1, none⟩) ((Kf.refl _ w).drewN _) (fun _ _ => Or.inl rfl) _) _)).trans (kf_builder (hW.2.1.mono hxB) hW.2.2)
  · exact (((HS.out.drewN _).setTo (by omega)).alloc _).wrote (Bld.alloc (Bld.setScn (HB.out.drewN _) (HS.out.drewN _) 1 _) _) hW.2.2
set_option maxHeartbeats 1000000 in
set_option maxRecDepth 100000 in
theorem esc_letter114 (frm : Nat) (w : World) (hs : s.size ≤ 140737488351232) (hp : p < s.size) (h : Scn b s lv p ln ov opn w) (hB : Bld B x l w) (hxB : x ≤ B) (hl : l.length + 4 ≤ 140737488355328)
    (hc : Lx.pk s.data.toList p = 114) :
    Calls Tryz.prog 105 #[.pointer (some ⟨b, 0, none⟩), .pointer (some ⟨x, 0, none⟩), .int .i64 frm] w (EscPost b s lv ln ov opn B x l frm w (some (Lx.u16 13, p + 1))) := by
  have h0 := h.c0
  have h1 := h.c1
  have f1 := h.fz 1
  have hlt : (p : Int) < (s.size : Int) := by omega
  have hge : decide ((s.size : Int) ≤ (p : Int)) = false := by simp; omega
  have HC := Lib.hid hc
  clear hc
  have HS := Lib.hid h
  have HB := Lib.hid hB
  clear h hB
  go_enter Tryz.func105, Tryz.ntmps105
  go_wp2_with fail
  refine (peek0 _ hs (by omega) HS.out).mono ?_
  rintro e w1 ⟨rfl, n1, rfl⟩
  rw [HC.out]
  go_wp2_with fail
  refine (idxEsc 114 _).mono ?_
  rintro e w1 ⟨rfl, rfl⟩
  rw [show Lib.indexByte Lx.escs 114 = 5 from by decide]
  go_wp2
  go_quiet (fail)
  go_wp2_with fail
  refine (put_any 13 (by decide) (Bld.alloc (Bld.setScn (HB.out.drewN _) (HS.out.drewN _) 1 _) _) (by omega)).mono ?_
  rintro e w1 ⟨rfl, hW⟩
  go_wp2_with fail
  go_end0
  refine ⟨?_, rfl, ?_, hW.1⟩
  · exact ((Kf.alloc (Kf.set (a := ⟨b, 1, none⟩) ((Kf.refl _ w).drewN _) (fun _ _ => Or.inl rfl) _) _)).trans (kf_builder (hW.2.1.mono hxB) hW.2.2)
  · exact (((HS.out.drewN _).setTo (by omega)).alloc _).wrote (Bld.alloc (Bld.setScn (HB.out.drewN _) (HS.out.drewN _) 1 _) _) hW.2.2
set_option maxHeartbeats 1000000 in
set_option maxRecDepth 100000 in
theorem esc_crlf (frm : Nat) (w : World) (hs : s.size ≤ 140737488351232) (hp : p < s.size) (h : Scn b s lv p ln ov opn w) (hB : Bld B x l w) (_hxB : x ≤ B) (_hl : l.length + 4 ≤ 140737488355328)
    (hc : Lx.pk s.data.toList p = 13) (hcr : Lx.pre [13, 10] s.data.toList p = true) :
    Calls Tryz.prog 105 #[.pointer (some ⟨b, 0, none⟩), .pointer (some ⟨x, 0, none⟩), .int .i64 frm] w (EscPost b s lv ln ov opn B x l frm w (some ([], p + 2))) := by
  have h0 := h.c0
  have h1 := h.c1
  have f1 := h.fz 1
  have hlt : (p : Int) < (s.size : Int) := by omega
  have hge : decide ((s.size : Int) ≤ (p : Int)) = false := by simp; omega
  have HC := Lib.hid hc
  clear hc
  have hle : p + 2 ≤ s.size := by have := pre_le hcr (by simp; omega); simpa using this
  have HCR := Lib.hid hcr
  clear hcr
  have HS := Lib.hid h
  have HB := Lib.hid hB
  clear h hB
  go_enter Tryz.func105, Tryz.ntmps105
  go_wp2_with fail
  refine (peek0 _ hs (by omega) HS.out).mono ?_
  rintro e w1 ⟨rfl, n1, rfl⟩
  rw [HC.out]
  go_wp2_with fail
  refine (idxEsc 13 _).mono ?_
  rintro e w1 ⟨rfl, rfl⟩
  rw [show Lib.indexByte Lx.escs 13 = -1 from by decide]
  go_wp2
  go_quiet (fail)
  go_wp2_with fail
  refine (has_any _ _ hs (by omega) (HS.out.drewN _)).mono ?_
  rintro e w1 ⟨rfl, n2, rfl⟩
  rw [show Lx.pre (⟨#[13, 10]⟩ : ByteArray).data.toList s.data.toList p = true from HCR.out]
  go_wp2
  go_end0
  exact ⟨so_sx (((Kf.refl _ _).drewN _).setB 1 _), rfl, (HS.out.drewN _).setTo (by omega), by rw [List.append_nil]; exact Bld.setScn (HB.out.drewN _) (HS.out.drewN _) 1 _⟩
set_option maxHeartbeats 1000000 in
set_option maxRecDepth 100000 in
theorem esc_line (frm : Nat) (w : World) (hs : s.size ≤ 140737488351232) (hp : p < s.size) (h : Scn b s lv p ln ov opn w) (hB : Bld B x l w) (_hxB : x ≤ B) (_hl : l.length + 4 ≤ 140737488355328)
    {q : Nat} (hi : Lib.indexByte Lx.escs (Lx.pk s.data.toList p) < 0) (hcr : Lx.pre [13, 10] s.data.toList p = false) (hnl : Lx.nl s.data.toList p = some q) :
    Calls Tryz.prog 105 #[.pointer (some ⟨b, 0, none⟩), .pointer (some ⟨x, 0, none⟩), .int .i64 frm] w (EscPost b s lv ln ov opn B x l frm w (some ([], q))) := by
  have h0 := h.c0
  have h1 := h.c1
  have f1 := h.fz 1
  have hlt : (p : Int) < (s.size : Int) := by omega
  have hge : decide ((s.size : Int) ≤ (p : Int)) = false := by simp; omega
  obtain ⟨c, hc⟩ : ∃ c, Lx.pk s.data.toList p = c := ⟨_, rfl⟩
  rw [hc] at hi
  have HC := Lib.hid hc
  clear hc
  have HCR := Lib.hid hcr
  have HNL := Lib.hid hnl
  clear hcr hnl
  have HS := Lib.hid h
  have HB := Lib.hid hB
  clear h hB
  go_enter Tryz.func105, Tryz.ntmps105
  go_wp2_with fail
  refine (peek0 _ hs (by omega) HS.out).mono ?_
  rintro e w1 ⟨rfl, n1, rfl⟩
  rw [HC.out]
  go_wp2_with fail
  refine (idxEsc _ _).mono ?_
  rintro e w1 ⟨rfl, rfl⟩
  go_wp2
  go_quiet (fail)
  go_wp2_with fail
  refine (has_any _ _ hs (by omega) (HS.out.drewN _)).mono ?_
  rintro e w1 ⟨rfl, n2, rfl⟩
  rw [show Lx.pre (⟨#[13, 10]⟩ : ByteArray).data.toList s.data.toList p = false from HCR.out]
  go_wp2_with fail
  refine (newline_any _ hs (by omega) (HS.out.drewN _)).mono ?_
  rintro e w1 ⟨rfl, hk, hS1⟩
  rw [HNL.out] at hS1 ⊢
  have HS1 := Lib.hid hS1
  have HK := Lib.hid (show Kf (So b) w w1 from ((Kf.refl _ _).drewN _).trans hk)
  have HB1 := Lib.hid (Bld.so HB.out HS.out HK.out)
  clear hS1 hk
  go_wp2
  go_end0
  exact ⟨so_sx HK.out, rfl, HS1.out, by rw [List.append_nil]; exact HB1.out⟩
set_option maxHeartbeats 1000000 in
set_option maxRecDepth 100000 in
theorem esc_digit (frm : Nat) (w : World) (hs : s.size ≤ 140737488351232) (hp : p < s.size) (h : Scn b s lv p ln ov opn w) (hB : Bld B x l w) (_hxB : x ≤ B) (_hl : l.length + 4 ≤ 140737488355328)
    (hi : Lib.indexByte Lx.escs (Lx.pk s.data.toList p) < 0) (hcr : Lx.pre [13, 10] s.data.toList p = false) (hnl : Lx.nl s.data.toList p = none) (hdg : Lx.isDig (Lx.pk s.data.toList p) = true) (hz : Lx.pk s.data.toList p ≠ 48) :
    Calls Tryz.prog 105 #[.pointer (some ⟨b, 0, none⟩), .pointer (some ⟨x, 0, none⟩), .int .i64 frm] w (EscPost b s lv ln ov opn B x l frm w (none)) := by
  have h0 := h.c0
  have h1 := h.c1
  have f1 := h.fz 1
  have hlt : (p : Int) < (s.size : Int) := by omega
  have hge : decide ((s.size : Int) ≤ (p : Int)) = false := by simp; omega
  obtain ⟨c, hc⟩ : ∃ c, Lx.pk s.data.toList p = c := ⟨_, rfl⟩
  rw [hc] at hi hdg hz
  have tz : ((c.toNat : Int) != 48) = true := by have := toNat_ne hz; simpa [bne] using this
  have HDG := Lib.hid hdg
  clear hdg hz
  have HC := Lib.hid hc
  clear hc
  have HCR := Lib.hid hcr
  have HNL := Lib.hid hnl
  clear hcr hnl
  have HS := Lib.hid h
  have HB := Lib.hid hB
  clear h hB
  go_enter Tryz.func105, Tryz.ntmps105
  go_wp2_with fail
  refine (peek0 _ hs (by omega) HS.out).mono ?_
  rintro e w1 ⟨rfl, n1, rfl⟩
  rw [HC.out]
  go_wp2_with fail
  refine (idxEsc _ _).mono ?_
  rintro e w1 ⟨rfl, rfl⟩
  go_wp2
  go_quiet (fail)
  go_wp2_with fail
  refine (has_any _ _ hs (by omega) (HS.out.drewN _)).mono ?_
  rintro e w1 ⟨rfl, n2, rfl⟩
  rw [show Lx.pre (⟨#[13, 10]⟩ : ByteArray).data.toList s.data.toList p = false from HCR.out]
  go_wp2_with fail
  refine (newline_any _ hs (by omega) (HS.out.drewN _)).mono ?_
  rintro e w1 ⟨rfl, hk, hS1⟩
  rw [HNL.out] at hS1 ⊢
  have hS1 : Scn b s lv p ln ov opn w1 := hS1
  have HS1 := Lib.hid hS1
  have HK := Lib.hid (show Kf (So b) w w1 from ((Kf.refl _ _).drewN _).trans hk)
  have HB1 := Lib.hid (Bld.so HB.out HS.out HK.out)
  have k0 := hS1.c0
  have k1 := hS1.c1
  have g1 := hS1.fz 1
  clear hS1 hk
  go_wp2_with fail
  refine (digit_any _ _).mono ?_
  rintro e w2 ⟨rfl, rfl⟩
  rw [HDG.out]
  go_wp2
  exact ⟨rfl, so_sx HK.out, rfl⟩
set_option maxHeartbeats 1000000 in
set_option maxRecDepth 100000 in
theorem esc_zero_bad (frm : Nat) (w : World) (hs : s.size ≤ 140737488351232) (hp : p < s.size) (h : Scn b s lv p ln ov opn w) (hB : Bld B x l w) (_hxB : x ≤ B) (_hl : l.length + 4 ≤ 140737488355328)
    (hcr : Lx.pre [13, 10] s.data.toList p = false) (hnl : Lx.nl s.data.toList p = none) (hc : Lx.pk s.data.toList p = 48) (hd : Lx.isDig (Lx.pk s.data.toList (p + 1)) = true) :
    Calls Tryz.prog 105 #[.pointer (some ⟨b, 0, none⟩), .pointer (some ⟨x, 0, none⟩), .int .i64 frm] w (EscPost b s lv ln ov opn B x l frm w (none)) := by
  have h0 := h.c0
  have h1 := h.c1
  have f1 := h.fz 1
  have hlt : (p : Int) < (s.size : Int) := by omega
  have hge : decide ((s.size : Int) ≤ (p : Int)) = false := by simp; omega
  have HDN := Lib.hid hd
  clear hd
  have HC := Lib.hid hc
  clear hc
  have HCR := Lib.hid hcr
  have HNL := Lib.hid hnl
  clear hcr hnl
  have HS := Lib.hid h
  have HB := Lib.hid hB
  clear h hB
  go_enter Tryz.func105, Tryz.ntmps105
  go_wp2_with fail
  refine (peek0 _ hs (by omega) HS.out).mono ?_
  rintro e w1 ⟨rfl, n1, rfl⟩
  rw [HC.out]
  go_wp2_with fail
  refine (idxEsc 48 _).mono ?_
  rintro e w1 ⟨rfl, rfl⟩
  rw [show Lib.indexByte Lx.escs 48 = -1 from by decide]
  go_wp2
  go_quiet (fail)
  go_wp2_with fail
  refine (has_any _ _ hs (by omega) (HS.out.drewN _)).mono ?_
  rintro e w1 ⟨rfl, n2, rfl⟩
  rw [show Lx.pre (⟨#[13, 10]⟩ : ByteArray).data.toList s.data.toList p = false from HCR.out]
  go_wp2_with fail
  refine (newline_any _ hs (by omega) (HS.out.drewN _)).mono ?_
  rintro e w1 ⟨rfl, hk, hS1⟩
  rw [HNL.out] at hS1 ⊢
  have hS1 : Scn b s lv p ln ov opn w1 := hS1
  have HS1 := Lib.hid hS1
  have HK := Lib.hid (show Kf (So b) w w1 from ((Kf.refl _ _).drewN _).trans hk)
  have HB1 := Lib.hid (Bld.so HB.out HS.out HK.out)
  have k0 := hS1.c0
  have k1 := hS1.c1
  have g1 := hS1.fz 1
  clear hS1 hk
  go_wp2_with fail
  refine (digit_any 48 _).mono ?_
  rintro e w2 ⟨rfl, rfl⟩
  rw [show Lx.isDig 48 = true from rfl]
  go_wp2_with fail
  refine (peek1 _ hs (by omega) HS1.out).mono ?_
  rintro e w2 ⟨rfl, n3, rfl⟩
  go_wp2_with fail
  refine (digit_any _ _).mono ?_
  rintro e w2 ⟨rfl, rfl⟩
  rw [HDN.out]
  go_wp2
  exact ⟨rfl, so_sx (HK.out.drewN _), rfl⟩
set_option maxHeartbeats 1000000 in
set_option maxRecDepth 100000 in
theorem esc_zero (frm : Nat) (w : World) (hs : s.size ≤ 140737488351232) (hp : p < s.size) (h : Scn b s lv p ln ov opn w) (hB : Bld B x l w) (hxB : x ≤ B) (hl : l.length + 4 ≤ 140737488355328)
    (hcr : Lx.pre [13, 10] s.data.toList p = false) (hnl : Lx.nl s.data.toList p = none) (hc : Lx.pk s.data.toList p = 48) (hd : Lx.isDig (Lx.pk s.data.toList (p + 1)) = false) :
    Calls Tryz.prog 105 #[.pointer (some ⟨b, 0, none⟩), .pointer (some ⟨x, 0, none⟩), .int .i64 frm] w (EscPost b s lv ln ov opn B x l frm w (some (Lx.u16 0, p + 1))) := by
  have h0 := h.c0
  have h1 := h.c1
  have f1 := h.fz 1
  have hlt : (p : Int) < (s.size : Int) := by omega
  have hge : decide ((s.size : Int) ≤ (p : Int)) = false := by simp; omega
  have HDN := Lib.hid hd
  clear hd
  have HC := Lib.hid hc
  clear hc
  have HCR := Lib.hid hcr
  have HNL := Lib.hid hnl
  clear hcr hnl
  have HS := Lib.hid h
  have HB := Lib.hid hB
  clear h hB
  go_enter Tryz.func105, Tryz.ntmps105
  go_wp2_with fail
  refine (peek0 _ hs (by omega) HS.out).mono ?_
  rintro e w1 ⟨rfl, n1, rfl⟩
  rw [HC.out]
  go_wp2_with fail
  refine (idxEsc 48 _).mono ?_
  rintro e w1 ⟨rfl, rfl⟩
  rw [show Lib.indexByte Lx.escs 48 = -1 from by decide]
  go_wp2
  go_quiet (fail)
  go_wp2_with fail
  refine (has_any _ _ hs (by omega) (HS.out.drewN _)).mono ?_
  rintro e w1 ⟨rfl, n2, rfl⟩
  rw [show Lx.pre (⟨#[13, 10]⟩ : ByteArray).data.toList s.data.toList p = false from HCR.out]
  go_wp2_with fail
  refine (newline_any _ hs (by omega) (HS.out.drewN _)).mono ?_
  rintro e w1 ⟨rfl, hk, hS1⟩
  rw [HNL.out] at hS1 ⊢
  have hS1 : Scn b s lv p ln ov opn w1 := hS1
  have HS1 := Lib.hid hS1
  have HK := Lib.hid (show Kf (So b) w w1 from ((Kf.refl _ _).drewN _).trans hk)
  have HB1 := Lib.hid (Bld.so HB.out HS.out HK.out)
  have k0 := hS1.c0
  have k1 := hS1.c1
  have g1 := hS1.fz 1
  clear hS1 hk
  go_wp2_with fail
  refine (digit_any 48 _).mono ?_
  rintro e w2 ⟨rfl, rfl⟩
  rw [show Lx.isDig 48 = true from rfl]
  go_wp2_with fail
  refine (peek1 _ hs (by omega) HS1.out).mono ?_
  rintro e w2 ⟨rfl, n3, rfl⟩
  go_wp2_with fail
  refine (digit_any _ _).mono ?_
  rintro e w2 ⟨rfl, rfl⟩
  rw [HDN.out]
  go_wp2_with fail
  refine (put_any 0 (by decide) (Bld.setScn (HB1.out.drewN _) (HS1.out.drewN _) 1 _) (by omega)).mono ?_
  rintro e w4 ⟨rfl, hW⟩
  go_wp2_with fail
  go_end0
  exact ⟨(so_sx ((HK.out.drewN _).setB 1 _)).trans (kf_builder (hW.2.1.mono hxB) hW.2.2), rfl, ((HS1.out.drewN _).setTo (by omega)).wrote (Bld.setScn (HB1.out.drewN _) (HS1.out.drewN _) 1 _) hW.2.2, hW.1⟩
set_option maxHeartbeats 1000000 in
set_option maxRecDepth 100000 in
theorem esc_x_bad (frm : Nat) (w : World) (hs : s.size ≤ 140737488351232) (hp : p < s.size) (h : Scn b s lv p ln ov opn w) (hB : Bld B x l w) (_hxB : x ≤ B) (_hl : l.length + 4 ≤ 140737488355328)
    (hcr : Lx.pre [13, 10] s.data.toList p = false) (hnl : Lx.nl s.data.toList p = none) (hc : Lx.pk s.data.toList p = 120) (hx : Lx.hex s.data.toList 2 2 (p + 1) = none) :
    Calls Tryz.prog 105 #[.pointer (some ⟨b, 0, none⟩), .pointer (some ⟨x, 0, none⟩), .int .i64 frm] w (EscPost b s lv ln ov opn B x l frm w (none)) := by
  have h0 := h.c0
  have h1 := h.c1
  have f1 := h.fz 1
  have hlt : (p : Int) < (s.size : Int) := by omega
  have hge : decide ((s.size : Int) ≤ (p : Int)) = false := by simp; omega
  have HX := Lib.hid hx
  clear hx
  have HC := Lib.hid hc
  clear hc
  have HCR := Lib.hid hcr
  have HNL := Lib.hid hnl
  clear hcr hnl
  have HS := Lib.hid h
  have HB := Lib.hid hB
  clear h hB
  go_enter Tryz.func105, Tryz.ntmps105
  go_wp2_with fail
  refine (peek0 _ hs (by omega) HS.out).mono ?_
  rintro e w1 ⟨rfl, n1, rfl⟩
  rw [HC.out]
  go_wp2_with fail
  refine (idxEsc 120 _).mono ?_
  rintro e w1 ⟨rfl, rfl⟩
  rw [show Lib.indexByte Lx.escs 120 = -1 from by decide]
  go_wp2
  go_quiet (fail)
  go_wp2_with fail
  refine (has_any _ _ hs (by omega) (HS.out.drewN _)).mono ?_
  rintro e w1 ⟨rfl, n2, rfl⟩
  rw [show Lx.pre (⟨#[13, 10]⟩ : ByteArray).data.toList s.data.toList p = false from HCR.out]
  go_wp2_with fail
  refine (newline_any _ hs (by omega) (HS.out.drewN _)).mono ?_
  rintro e w1 ⟨rfl, hk, hS1⟩
  rw [HNL.out] at hS1 ⊢
  have hS1 : Scn b s lv p ln ov opn w1 := hS1
  have HS1 := Lib.hid hS1
  have HK := Lib.hid (show Kf (So b) w w1 from ((Kf.refl _ _).drewN _).trans hk)
  have HB1 := Lib.hid (Bld.so HB.out HS.out HK.out)
  have k0 := hS1.c0
  have k1 := hS1.c1
  have g1 := hS1.fz 1
  clear hS1 hk
  go_wp2_with fail
  refine (digit_any 120 _).mono ?_
  rintro e w2 ⟨rfl, rfl⟩
  rw [show Lx.isDig 120 = false from rfl]
  go_wp2_with fail
  refine (hex_any 2 2 frm _ hs (by omega) (by decide) (by decide) (HS1.out.setTo (q := p + 1) (by omega))).mono ?_
  rintro e w3 hP
  rw [HX.out] at hP
  obtain ⟨hK3, he⟩ := hP
  subst he
  unfold wrongAt
  go_wp2
  exact ⟨rfl, so_sx ((HK.out.setB 1 _).trans hK3), rfl⟩
set_option maxHeartbeats 1000000 in
set_option maxRecDepth 100000 in
theorem esc_x (frm : Nat) (w : World) (hs : s.size ≤ 140737488351232) (hp : p < s.size) (h : Scn b s lv p ln ov opn w) (hB : Bld B x l w) (hxB : x ≤ B) (hl : l.length + 4 ≤ 140737488355328)
    (hcr : Lx.pre [13, 10] s.data.toList p = false) (hnl : Lx.nl s.data.toList p = none) (hc : Lx.pk s.data.toList p = 120) {v q : Nat} (hx : Lx.hex s.data.toList 2 2 (p + 1) = some (v, q)) :
    Calls Tryz.prog 105 #[.pointer (some ⟨b, 0, none⟩), .pointer (some ⟨x, 0, none⟩), .int .i64 frm] w (EscPost b s lv ln ov opn B x l frm w (some (Lx.u16 v, q))) := by
  have h0 := h.c0
  have h1 := h.c1
  have f1 := h.fz 1
  have hlt : (p : Int) < (s.size : Int) := by omega
  have hge : decide ((s.size : Int) ≤ (p : Int)) = false := by simp; omega
  have hv := hex_lt hx
  simp only [Nat.reducePow] at hv
  have HX := Lib.hid hx
  clear hx
  have HC := Lib.hid hc
  clear hc
  have HCR := Lib.hid hcr
  have HNL := Lib.hid hnl
  clear hcr hnl
  have HS := Lib.hid h
  have HB := Lib.hid hB
  clear h hB
  go_enter Tryz.func105, Tryz.ntmps105
  go_wp2_with fail
  refine (peek0 _ hs (by omega) HS.out).mono ?_
  rintro e w1 ⟨rfl, n1, rfl⟩
  rw [HC.out]
  go_wp2_with fail
  refine (idxEsc 120 _).mono ?_
  rintro e w1 ⟨rfl, rfl⟩
  rw [show Lib.indexByte Lx.escs 120 = -1 from by decide]
  go_wp2
  go_quiet (fail)
  go_wp2_with fail
  refine (has_any _ _ hs (by omega) (HS.out.drewN _)).mono ?_
  rintro e w1 ⟨rfl, n2, rfl⟩
  rw [show Lx.pre (⟨#[13, 10]⟩ : ByteArray).data.toList s.data.toList p = false from HCR.out]
  go_wp2_with fail
  refine (newline_any _ hs (by omega) (HS.out.drewN _)).mono ?_
  rintro e w1 ⟨rfl, hk, hS1⟩
  rw [HNL.out] at hS1 ⊢
  have hS1 : Scn b s lv p ln ov opn w1 := hS1
  have HS1 := Lib.hid hS1
  have HK := Lib.hid (show Kf (So b) w w1 from ((Kf.refl _ _).drewN _).trans hk)
  have HB1 := Lib.hid (Bld.so HB.out HS.out HK.out)
  have k0 := hS1.c0
  have k1 := hS1.c1
  have g1 := hS1.fz 1
  clear hS1 hk
  go_wp2_with fail
  refine (digit_any 120 _).mono ?_
  rintro e w2 ⟨rfl, rfl⟩
  rw [show Lx.isDig 120 = false from rfl]
  go_wp2_with fail
  refine (hex_any 2 2 frm _ hs (by omega) (by decide) (by decide) (HS1.out.setTo (q := p + 1) (by omega))).mono ?_
  rintro e w3 hP
  rw [HX.out] at hP
  obtain ⟨hK3, rfl, hS3⟩ := hP
  have HS3 := Lib.hid hS3
  have HK3 := Lib.hid ((HK.out.setB 1 _).trans hK3)
  have HB3 := Lib.hid (Bld.so (Bld.setScn HB1.out HS1.out 1 _) (HS1.out.setTo (q := p + 1) (by omega)) hK3)
  clear hS3 hK3
  go_wp2_with fail
  refine (put_any v (by omega) HB3.out (by omega)).mono ?_
  rintro e w4 ⟨rfl, hW⟩
  go_wp2_with fail
  go_end0
  exact ⟨(so_sx HK3.out).trans (kf_builder (hW.2.1.mono hxB) hW.2.2), rfl, HS3.out.wrote HB3.out hW.2.2, hW.1⟩
set_option maxHeartbeats 1000000 in
set_option maxRecDepth 100000 in
theorem esc_u_bad (frm : Nat) (w : World) (hs : s.size ≤ 140737488351232) (hp : p < s.size) (h : Scn b s lv p ln ov opn w) (hB : Bld B x l w) (_hxB : x ≤ B) (_hl : l.length + 4 ≤ 140737488355328)
    (hcr : Lx.pre [13, 10] s.data.toList p = false) (hnl : Lx.nl s.data.toList p = none) (hc : Lx.pk s.data.toList p = 117) (hb : Lx.pk s.data.toList (p + 1) ≠ 123) (hx : Lx.hex s.data.toList 4 4 (p + 1) = none) :
    Calls Tryz.prog 105 #[.pointer (some ⟨b, 0, none⟩), .pointer (some ⟨x, 0, none⟩), .int .i64 frm] w (EscPost b s lv ln ov opn B x l frm w (none)) := by
  have h0 := h.c0
  have h1 := h.c1
  have f1 := h.fz 1
  have hlt : (p : Int) < (s.size : Int) := by omega
  have hge : decide ((s.size : Int) ≤ (p : Int)) = false := by simp; omega
  have tb : (((Lx.pk s.data.toList (p + 1)).toNat : Int) == 123) = false := toNat_ne hb
  clear hb
  have HX := Lib.hid hx
  clear hx
  have HC := Lib.hid hc
  clear hc
  have HCR := Lib.hid hcr
  have HNL := Lib.hid hnl
  clear hcr hnl
  have HS := Lib.hid h
  have HB := Lib.hid hB
  clear h hB
  go_enter Tryz.func105, Tryz.ntmps105
  go_wp2_with fail
  refine (peek0 _ hs (by omega) HS.out).mono ?_
  rintro e w1 ⟨rfl, n1, rfl⟩
  rw [HC.out]
  go_wp2_with fail
  refine (idxEsc 117 _).mono ?_
  rintro e w1 ⟨rfl, rfl⟩
  rw [show Lib.indexByte Lx.escs 117 = -1 from by decide]
  go_wp2
  go_quiet (fail)
  go_wp2_with fail
  refine (has_any _ _ hs (by omega) (HS.out.drewN _)).mono ?_
  rintro e w1 ⟨rfl, n2, rfl⟩
  rw [show Lx.pre (⟨#[13, 10]⟩ : ByteArray).data.toList s.data.toList p = false from HCR.out]
  go_wp2_with fail
  refine (newline_any _ hs (by omega) (HS.out.drewN _)).mono ?_
  rintro e w1 ⟨rfl, hk, hS1⟩
  rw [HNL.out] at hS1 ⊢
  have hS1 : Scn b s lv p ln ov opn w1 := hS1
  have HS1 := Lib.hid hS1
  have HK := Lib.hid (show Kf (So b) w w1 from ((Kf.refl _ _).drewN _).trans hk)
  have HB1 := Lib.hid (Bld.so HB.out HS.out HK.out)
  have k0 := hS1.c0
  have k1 := hS1.c1
  have g1 := hS1.fz 1
  clear hS1 hk
  go_wp2_with fail
  refine (digit_any 117 _).mono ?_
  rintro e w2 ⟨rfl, rfl⟩
  rw [show Lx.isDig 117 = false from rfl]
  go_wp2_with fail
  refine (peek1 _ hs (by omega) HS1.out).mono ?_
  rintro e w2 ⟨rfl, n3, rfl⟩
  go_wp2_with fail
  refine (hex_any 4 4 frm _ hs (by omega) (by decide) (by decide) ((HS1.out.drewN _).setTo (q := p + 1) (by omega))).mono ?_
  rintro e w3 hP
  rw [HX.out] at hP
  obtain ⟨hK3, he⟩ := hP
  subst he
  unfold wrongAt
  go_wp2
  exact ⟨rfl, so_sx (((HK.out.drewN _).setB 1 _).trans hK3), rfl⟩
set_option maxHeartbeats 1000000 in
set_option maxRecDepth 100000 in
theorem esc_u (frm : Nat) (w : World) (hs : s.size ≤ 140737488351232) (hp : p < s.size) (h : Scn b s lv p ln ov opn w) (hB : Bld B x l w) (hxB : x ≤ B) (hl : l.length + 4 ≤ 140737488355328)
    (hcr : Lx.pre [13, 10] s.data.toList p = false) (hnl : Lx.nl s.data.toList p = none) (hc : Lx.pk s.data.toList p = 117) (hb : Lx.pk s.data.toList (p + 1) ≠ 123) {v q : Nat} (hx : Lx.hex s.data.toList 4 4 (p + 1) = some (v, q)) :
    Calls Tryz.prog 105 #[.pointer (some ⟨b, 0, none⟩), .pointer (some ⟨x, 0, none⟩), .int .i64 frm] w (EscPost b s lv ln ov opn B x l frm w (some (Lx.u16 v, q))) := by
  have h0 := h.c0
  have h1 := h.c1
  have f1 := h.fz 1
  have hlt : (p : Int) < (s.size : Int) := by omega
  have hge : decide ((s.size : Int) ≤ (p : Int)) = false := by simp; omega
  have tb : (((Lx.pk s.data.toList (p + 1)).toNat : Int) == 123) = false := toNat_ne hb
  clear hb
  have hv := hex_lt hx
  simp only [Nat.reducePow] at hv
  have HX := Lib.hid hx
  clear hx
  have HC := Lib.hid hc
  clear hc
  have HCR := Lib.hid hcr
  have HNL := Lib.hid hnl
  clear hcr hnl
  have HS := Lib.hid h
  have HB := Lib.hid hB
  clear h hB
  go_enter Tryz.func105, Tryz.ntmps105
  go_wp2_with fail
  refine (peek0 _ hs (by omega) HS.out).mono ?_
  rintro e w1 ⟨rfl, n1, rfl⟩
  rw [HC.out]
  go_wp2_with fail
  refine (idxEsc 117 _).mono ?_
  rintro e w1 ⟨rfl, rfl⟩
  rw [show Lib.indexByte Lx.escs 117 = -1 from by decide]
  go_wp2
  go_quiet (fail)
  go_wp2_with fail
  refine (has_any _ _ hs (by omega) (HS.out.drewN _)).mono ?_
  rintro e w1 ⟨rfl, n2, rfl⟩
  rw [show Lx.pre (⟨#[13, 10]⟩ : ByteArray).data.toList s.data.toList p = false from HCR.out]
  go_wp2_with fail
  refine (newline_any _ hs (by omega) (HS.out.drewN _)).mono ?_
  rintro e w1 ⟨rfl, hk, hS1⟩
  rw [HNL.out] at hS1 ⊢
  have hS1 : Scn b s lv p ln ov opn w1 := hS1
  have HS1 := Lib.hid hS1
  have HK := Lib.hid (show Kf (So b) w w1 from ((Kf.refl _ _).drewN _).trans hk)
  have HB1 := Lib.hid (Bld.so HB.out HS.out HK.out)
  have k0 := hS1.c0
  have k1 := hS1.c1
  have g1 := hS1.fz 1
  clear hS1 hk
  go_wp2_with fail
  refine (digit_any 117 _).mono ?_
  rintro e w2 ⟨rfl, rfl⟩
  rw [show Lx.isDig 117 = false from rfl]
  go_wp2_with fail
  refine (peek1 _ hs (by omega) HS1.out).mono ?_
  rintro e w2 ⟨rfl, n3, rfl⟩
  go_wp2_with fail
  refine (hex_any 4 4 frm _ hs (by omega) (by decide) (by decide) ((HS1.out.drewN _).setTo (q := p + 1) (by omega))).mono ?_
  rintro e w3 hP
  rw [HX.out] at hP
  obtain ⟨hK3, rfl, hS3⟩ := hP
  have HS3 := Lib.hid hS3
  have HK3 := Lib.hid (((HK.out.drewN _).setB 1 _).trans hK3)
  have HB3 := Lib.hid (Bld.so (Bld.setScn (HB1.out.drewN _) (HS1.out.drewN _) 1 _) ((HS1.out.drewN _).setTo (q := p + 1) (by omega)) hK3)
  clear hS3 hK3
  go_wp2_with fail
  refine (put_any v (by omega) HB3.out (by omega)).mono ?_
  rintro e w4 ⟨rfl, hW⟩
  go_wp2_with fail
  go_end0
  exact ⟨(so_sx HK3.out).trans (kf_builder (hW.2.1.mono hxB) hW.2.2), rfl, HS3.out.wrote HB3.out hW.2.2, hW.1⟩
set_option maxHeartbeats 1000000 in
set_option maxRecDepth 100000 in
theorem esc_brace_bad (frm : Nat) (w : World) (hs : s.size ≤ 140737488351232) (hp : p < s.size) (h : Scn b s lv p ln ov opn w) (hB : Bld B x l w) (_hxB : x ≤ B) (_hl : l.length + 4 ≤ 140737488355328)
    (hcr : Lx.pre [13, 10] s.data.toList p = false) (hnl : Lx.nl s.data.toList p = none) (hc : Lx.pk s.data.toList p = 117) (hpb : Lx.pk s.data.toList (p + 1) = 123) (hle : p + 2 ≤ s.size) (hx : Lx.hex s.data.toList 1 s.size (p + 2) = none) :
    Calls Tryz.prog 105 #[.pointer (some ⟨b, 0, none⟩), .pointer (some ⟨x, 0, none⟩), .int .i64 frm] w (EscPost b s lv ln ov opn B x l frm w (none)) := by
  have h0 := h.c0
  have h1 := h.c1
  have f1 := h.fz 1
  have hlt : (p : Int) < (s.size : Int) := by omega
  have hge : decide ((s.size : Int) ≤ (p : Int)) = false := by simp; omega
  have HPB := Lib.hid hpb
  clear hpb
  have HX := Lib.hid hx
  clear hx
  have HC := Lib.hid hc
  clear hc
  have HCR := Lib.hid hcr
  have HNL := Lib.hid hnl
  clear hcr hnl
  have HS := Lib.hid h
  have HB := Lib.hid hB
  clear h hB
  go_enter Tryz.func105, Tryz.ntmps105
  go_wp2_with fail
  refine (peek0 _ hs (by omega) HS.out).mono ?_
  rintro e w1 ⟨rfl, n1, rfl⟩
  rw [HC.out]
  go_wp2_with fail
  refine (idxEsc 117 _).mono ?_
  rintro e w1 ⟨rfl, rfl⟩
  rw [show Lib.indexByte Lx.escs 117 = -1 from by decide]
  go_wp2
  go_quiet (fail)
  go_wp2_with fail
  refine (has_any _ _ hs (by omega) (HS.out.drewN _)).mono ?_
  rintro e w1 ⟨rfl, n2, rfl⟩
  rw [show Lx.pre (⟨#[13, 10]⟩ : ByteArray).data.toList s.data.toList p = false from HCR.out]
  go_wp2_with fail
  refine (newline_any _ hs (by omega) (HS.out.drewN _)).mono ?_
  rintro e w1 ⟨rfl, hk, hS1⟩
  rw [HNL.out] at hS1 ⊢
  have hS1 : Scn b s lv p ln ov opn w1 := hS1
  have HS1 := Lib.hid hS1
  have HK := Lib.hid (show Kf (So b) w w1 from ((Kf.refl _ _).drewN _).trans hk)
  have HB1 := Lib.hid (Bld.so HB.out HS.out HK.out)
  have k0 := hS1.c0
  have k1 := hS1.c1
  have g1 := hS1.fz 1
  clear hS1 hk
  go_wp2_with fail
  refine (digit_any 117 _).mono ?_
  rintro e w2 ⟨rfl, rfl⟩
  rw [show Lx.isDig 117 = false from rfl]
  go_wp2_with fail
  refine (peek1 _ hs (by omega) HS1.out).mono ?_
  rintro e w2 ⟨rfl, n3, rfl⟩
  rw [HPB.out]
  go_wp2_with fail
  refine (hex_any 1 s.size frm _ hs hle (by decide) (by omega) ((HS1.out.drewN _).setTo (x := (p : Int) + 2) (q := p + 2) (by omega))).mono ?_
  rintro e w3 hP
  rw [HX.out] at hP
  obtain ⟨hK3, he⟩ := hP
  subst he
  unfold wrongAt
  go_wp2
  exact ⟨rfl, so_sx (((HK.out.drewN _).setB 1 _).trans hK3), rfl⟩
set_option maxHeartbeats 1000000 in
set_option maxRecDepth 100000 in
theorem esc_brace_open (frm : Nat) (w : World) (hs : s.size ≤ 140737488351232) (hp : p < s.size) (h : Scn b s lv p ln ov opn w) (hB : Bld B x l w) (_hxB : x ≤ B) (_hl : l.length + 4 ≤ 140737488355328)
    (hcr : Lx.pre [13, 10] s.data.toList p = false) (hnl : Lx.nl s.data.toList p = none) (hc : Lx.pk s.data.toList p = 117) (hpb : Lx.pk s.data.toList (p + 1) = 123) (hle : p + 2 ≤ s.size) {r q : Nat} (hq : q ≤ s.size) (hx : Lx.hex s.data.toList 1 s.size (p + 2) = some (r, q)) (ht : Lx.pk s.data.toList q ≠ 125) :
    Calls Tryz.prog 105 #[.pointer (some ⟨b, 0, none⟩), .pointer (some ⟨x, 0, none⟩), .int .i64 frm] w (EscPost b s lv ln ov opn B x l frm w (none)) := by
  have h0 := h.c0
  have h1 := h.c1
  have f1 := h.fz 1
  have hlt : (p : Int) < (s.size : Int) := by omega
  have hge : decide ((s.size : Int) ≤ (p : Int)) = false := by simp; omega
  have tt : (((Lx.pk s.data.toList q).toNat : Int) == 125) = false := toNat_ne ht
  clear ht
  have HPB := Lib.hid hpb
  clear hpb
  have HX := Lib.hid hx
  clear hx
  have HC := Lib.hid hc
  clear hc
  have HCR := Lib.hid hcr
  have HNL := Lib.hid hnl
  clear hcr hnl
  have HS := Lib.hid h
  have HB := Lib.hid hB
  clear h hB
  go_enter Tryz.func105, Tryz.ntmps105
  go_wp2_with fail
  refine (peek0 _ hs (by omega) HS.out).mono ?_
  rintro e w1 ⟨rfl, n1, rfl⟩
  rw [HC.out]
  go_wp2_with fail
  refine (idxEsc 117 _).mono ?_
  rintro e w1 ⟨rfl, rfl⟩
  rw [show Lib.indexByte Lx.escs 117 = -1 from by decide]
  go_wp2
  go_quiet (fail)
  go_wp2_with fail
  refine (has_any _ _ hs (by omega) (HS.out.drewN _)).mono ?_
  rintro e w1 ⟨rfl, n2, rfl⟩
  rw [show Lx.pre (⟨#[13, 10]⟩ : ByteArray).data.toList s.data.toList p = false from HCR.out]
  go_wp2_with fail
  refine (newline_any _ hs (by omega) (HS.out.drewN _)).mono ?_
  rintro e w1 ⟨rfl, hk, hS1⟩
  rw [HNL.out] at hS1 ⊢
  have hS1 : Scn b s lv p ln ov opn w1 := hS1
  have HS1 := Lib.hid hS1
  have HK := Lib.hid (show Kf (So b) w w1 from ((Kf.refl _ _).drewN _).trans hk)
  have HB1 := Lib.hid (Bld.so HB.out HS.out HK.out)
  have k0 := hS1.c0
  have k1 := hS1.c1
  have g1 := hS1.fz 1
  clear hS1 hk
  go_wp2_with fail
  refine (digit_any 117 _).mono ?_
  rintro e w2 ⟨rfl, rfl⟩
  rw [show Lx.isDig 117 = false from rfl]
  go_wp2_with fail
  refine (peek1 _ hs (by omega) HS1.out).mono ?_
  rintro e w2 ⟨rfl, n3, rfl⟩
  rw [HPB.out]
  go_wp2_with fail
  refine (hex_any 1 s.size frm _ hs hle (by decide) (by omega) ((HS1.out.drewN _).setTo (x := (p : Int) + 2) (q := p + 2) (by omega))).mono ?_
  rintro e w3 hP
  rw [HX.out] at hP
  obtain ⟨hK3, rfl, hS3⟩ := hP
  have k3 := hS3.c1
  have g3 := hS3.fz 1
  have HS3 := Lib.hid hS3
  have HK3 := Lib.hid (((HK.out.drewN _).setB 1 _).trans hK3)
  have HB3 := Lib.hid (Bld.so (Bld.setScn (HB1.out.drewN _) (HS1.out.drewN _) 1 _) ((HS1.out.drewN _).setTo (x := (p : Int) + 2) (q := p + 2) (by omega)) hK3)
  clear hS3 hK3
  go_wp2_with fail
  refine (peek0 _ hs hq HS3.out).mono ?_
  rintro e w4 ⟨rfl, n4, rfl⟩
  go_wp2
  exact ⟨rfl, so_sx (HK3.out.drewN _), rfl⟩
set_option maxHeartbeats 1000000 in
set_option maxRecDepth 100000 in
theorem esc_brace (frm : Nat) (w : World) (hs : s.size ≤ 140737488351232) (hp : p < s.size) (h : Scn b s lv p ln ov opn w) (hB : Bld B x l w) (hxB : x ≤ B) (hl : l.length + 4 ≤ 140737488355328)
    (hcr : Lx.pre [13, 10] s.data.toList p = false) (hnl : Lx.nl s.data.toList p = none) (hc : Lx.pk s.data.toList p = 117) (hpb : Lx.pk s.data.toList (p + 1) = 123) (hle : p + 2 ≤ s.size) {r q : Nat} (hq : q < s.size) (hr : (r : Int) ≤ 1114111) (hx : Lx.hex s.data.toList 1 s.size (p + 2) = some (r, q)) (ht : Lx.pk s.data.toList q = 125) :
    Calls Tryz.prog 105 #[.pointer (some ⟨b, 0, none⟩), .pointer (some ⟨x, 0, none⟩), .int .i64 frm] w (EscPost b s lv ln ov opn B x l frm w (some (Lx.pointB r, q + 1))) := by
  have h0 := h.c0
  have h1 := h.c1
  have f1 := h.fz 1
  have hlt : (p : Int) < (s.size : Int) := by omega
  have hge : decide ((s.size : Int) ≤ (p : Int)) = false := by simp; omega
  have hpl := pointB_len r
  have HT := Lib.hid ht
  clear ht
  have HPB := Lib.hid hpb
  clear hpb
  have HX := Lib.hid hx
  clear hx
  have HC := Lib.hid hc
  clear hc
  have HCR := Lib.hid hcr
  have HNL := Lib.hid hnl
  clear hcr hnl
  have HS := Lib.hid h
  have HB := Lib.hid hB
  clear h hB
  go_enter Tryz.func105, Tryz.ntmps105
  go_wp2_with fail
  refine (peek0 _ hs (by omega) HS.out).mono ?_
  rintro e w1 ⟨rfl, n1, rfl⟩
  rw [HC.out]
  go_wp2_with fail
  refine (idxEsc 117 _).mono ?_
  rintro e w1 ⟨rfl, rfl⟩
  rw [show Lib.indexByte Lx.escs 117 = -1 from by decide]
  go_wp2
  go_quiet (fail)
  go_wp2_with fail
  refine (has_any _ _ hs (by omega) (HS.out.drewN _)).mono ?_
  rintro e w1 ⟨rfl, n2, rfl⟩
  rw [show Lx.pre (⟨#[13, 10]⟩ : ByteArray).data.toList s.data.toList p = false from HCR.out]
  go_wp2_with fail
  refine (newline_any _ hs (by omega) (HS.out.drewN _)).mono ?_
  rintro e w1 ⟨rfl, hk, hS1⟩
  rw [HNL.out] at hS1 ⊢
  have hS1 : Scn b s lv p ln ov opn w1 := hS1
  have HS1 := Lib.hid hS1
  have HK := Lib.hid (show Kf (So b) w w1 from ((Kf.refl _ _).drewN _).trans hk)
  have HB1 := Lib.hid (Bld.so HB.out HS.out HK.out)
  have k0 := hS1.c0
  have k1 := hS1.c1
  have g1 := hS1.fz 1
  clear hS1 hk
  go_wp2_with fail
  refine (digit_any 117 _).mono ?_
  rintro e w2 ⟨rfl, rfl⟩
  rw [show Lx.isDig 117 = false from rfl]
  go_wp2_with fail
  refine (peek1 _ hs (by omega) HS1.out).mono ?_
  rintro e w2 ⟨rfl, n3, rfl⟩
  rw [HPB.out]
  go_wp2_with fail
  refine (hex_any 1 s.size frm _ hs hle (by decide) (by omega) ((HS1.out.drewN _).setTo (x := (p : Int) + 2) (q := p + 2) (by omega))).mono ?_
  rintro e w3 hP
  rw [HX.out] at hP
  obtain ⟨hK3, rfl, hS3⟩ := hP
  have k3 := hS3.c1
  have g3 := hS3.fz 1
  have HS3 := Lib.hid hS3
  have HK3 := Lib.hid (((HK.out.drewN _).setB 1 _).trans hK3)
  have HB3 := Lib.hid (Bld.so (Bld.setScn (HB1.out.drewN _) (HS1.out.drewN _) 1 _) ((HS1.out.drewN _).setTo (x := (p : Int) + 2) (q := p + 2) (by omega)) hK3)
  clear hS3 hK3
  go_wp2_with fail
  refine (peek0 _ hs (by omega) HS3.out).mono ?_
  rintro e w4 ⟨rfl, n4, rfl⟩
  rw [HT.out]
  go_wp2_with fail
  refine (point_any (r : Int) (by omega) (by omega) _).mono ?_
  rintro e w5 ⟨rfl, hb⟩
  rw [Int.toNat_natCast]
  have HS5 := Lib.hid (((HS3.out.drewN _).setTo (q := q + 1) (by omega)).keep hb)
  have HB5 := Lib.hid ((Bld.setScn (HB3.out.drewN _) (HS3.out.drewN _) 1 _).keep hb)
  have HK5 := Lib.hid (((HK3.out.drewN _).setB 1 _).trans (Kf.of_below _ hb))
  clear hb
  go_wp2_with fail
  refine (bld_str _ HB5.out (by simp [ByteArray.size]; omega)).mono ?_
  rintro e w6 ⟨rfl, hW⟩
  go_wp2_with fail
  go_end0
  exact ⟨(so_sx HK5.out).trans (kf_builder (hW.2.1.mono hxB) hW.2.2), rfl, HS5.out.wrote HB5.out hW.2.2, by simpa using hW.1⟩
set_option maxHeartbeats 1000000 in
set_option maxRecDepth 100000 in
theorem esc_plain (frm : Nat) (w : World) (hs : s.size ≤ 140737488351232) (hp : p < s.size) (h : Scn b s lv p ln ov opn w) (hB : Bld B x l w) (hxB : x ≤ B) (hl : l.length + 4 ≤ 140737488355328)
    (hi : Lib.indexByte Lx.escs (Lx.pk s.data.toList p) < 0) (hcr : Lx.pre [13, 10] s.data.toList p = false) (hnl : Lx.nl s.data.toList p = none) (hdg : Lx.isDig (Lx.pk s.data.toList p) = false) (hx : Lx.pk s.data.toList p ≠ 120) (hu : Lx.pk s.data.toList p ≠ 117) :
    Calls Tryz.prog 105 #[.pointer (some ⟨b, 0, none⟩), .pointer (some ⟨x, 0, none⟩), .int .i64 frm] w (EscPost b s lv ln ov opn B x l frm w (some (Lx.plain s.data.toList p))) := by
  have h0 := h.c0
  have h1 := h.c1
  have f1 := h.fz 1
  have hlt : (p : Int) < (s.size : Int) := by omega
  have hge : decide ((s.size : Int) ≤ (p : Int)) = false := by simp; omega
  obtain ⟨c, hc⟩ : ∃ c, Lx.pk s.data.toList p = c := ⟨_, rfl⟩
  rw [hc] at hi hdg hx hu
  have tx : ((c.toNat : Int) == 120) = false := toNat_ne hx
  have tu : ((c.toNat : Int) == 117) = false := toNat_ne hu
  have HDG := Lib.hid hdg
  clear hdg hx hu
  have HC := Lib.hid hc
  clear hc
  have HCR := Lib.hid hcr
  have HNL := Lib.hid hnl
  clear hcr hnl
  have HS := Lib.hid h
  have HB := Lib.hid hB
  clear h hB
  go_enter Tryz.func105, Tryz.ntmps105
  go_wp2_with fail
  refine (peek0 _ hs (by omega) HS.out).mono ?_
  rintro e w1 ⟨rfl, n1, rfl⟩
  rw [HC.out]
  go_wp2_with fail
  refine (idxEsc _ _).mono ?_
  rintro e w1 ⟨rfl, rfl⟩
  go_wp2
  go_quiet (fail)
  go_wp2_with fail
  refine (has_any _ _ hs (by omega) (HS.out.drewN _)).mono ?_
  rintro e w1 ⟨rfl, n2, rfl⟩
  rw [show Lx.pre (⟨#[13, 10]⟩ : ByteArray).data.toList s.data.toList p = false from HCR.out]
  go_wp2_with fail
  refine (newline_any _ hs (by omega) (HS.out.drewN _)).mono ?_
  rintro e w1 ⟨rfl, hk, hS1⟩
  rw [HNL.out] at hS1 ⊢
  have hS1 : Scn b s lv p ln ov opn w1 := hS1
  have HS1 := Lib.hid hS1
  have HK := Lib.hid (show Kf (So b) w w1 from ((Kf.refl _ _).drewN _).trans hk)
  have HB1 := Lib.hid (Bld.so HB.out HS.out HK.out)
  have k0 := hS1.c0
  have k1 := hS1.c1
  have g1 := hS1.fz 1
  clear hS1 hk
  go_wp2_with fail
  refine (digit_any _ _).mono ?_
  rintro e w2 ⟨rfl, rfl⟩
  rw [HDG.out]
  go_wp2_with fail
  refine (plain_any _ hs hp HS1.out HB1.out hxB hl).mono ?_
  rintro e w3 ⟨rfl, hK2, hS2, hB2⟩
  go_wp2_with fail
  go_end0
  exact ⟨(so_sx HK.out).trans hK2, rfl, hS2, hB2⟩
end
end Go.Proofs.YtcgibcjpkhefpaaGreatDoor

/-
  The scanner's escape: whatever stands behind a backslash.
-/
import Derived.Test.YtcgibcjpkhefpaaGreatDoorW5
import Derived.Test.YtcgibcjpkhefpaaGreatDoorM1
namespace Go.Proofs.YtcgibcjpkhefpaaGreatDoor
open Go.RowKit
section
variable {b : Nat} {s : ByteArray} {lv ov : Value} {p : Nat} {ln : Bool} {opn : List Int} {B x : Nat} {l : List UInt8}
theorem letters : ∀ c : UInt8, 0 ≤ Lib.indexByte Lx.escs c → c = 110 ∨ c = 116 ∨ c = 98 ∨ c = 118 ∨ c = 102 ∨ c = 114 := u8_all (by decide +kernel)
theorem pre_head {a : UInt8} {t l : List UInt8} {p : Nat} (h : Lx.pre (a :: t) l p = true) : Lx.pk l p = a := by
  simp only [Lx.pre, List.isPrefixOf_iff_prefix] at h
  obtain ⟨r, hr⟩ := h
  have : (l.drop p)[0]? = some a := by rw [← hr]; rfl
  rw [List.getElem?_drop] at this
  simp only [Lx.pk]
  rw [show l[p]? = some a by simpa using this]
  rfl
theorem esc_any (frm : Nat) (w : World) (hs : s.size ≤ 140737488351232) (hp : p ≤ s.size) (h : Scn b s lv p ln ov opn w) (hB : Bld B x l w) (hxB : x ≤ B) (hl : l.length + 4 ≤ 140737488355328) :
    Calls Tryz.prog 105 #[.pointer (some ⟨b, 0, none⟩), .pointer (some ⟨x, 0, none⟩), .int .i64 frm] w (EscPost b s lv ln ov opn B x l frm w (Lx.escape s.data.toList p)) := by
  have hlen : s.data.toList.length = s.size := by simp
  unfold Lx.escape
  simp only
  split
  · exact esc_end frm w hs (by omega) hp h hB hxB hl
  rename_i hge
  have hlt : p < s.size := by omega
  split
  · rename_i hi
    rcases letters _ hi with e | e | e | e | e | e <;> rw [e]
    · exact esc_letter110 frm w hs hlt h hB hxB hl e
    · exact esc_letter116 frm w hs hlt h hB hxB hl e
    · exact esc_letter98 frm w hs hlt h hB hxB hl e
    · exact esc_letter118 frm w hs hlt h hB hxB hl e
    · exact esc_letter102 frm w hs hlt h hB hxB hl e
    · exact esc_letter114 frm w hs hlt h hB hxB hl e
  rename_i hi
  have hi : Lib.indexByte Lx.escs (Lx.pk s.data.toList p) < 0 := by omega
  split
  · rename_i hcr
    exact esc_crlf frm w hs hlt h hB hxB hl (pre_head hcr) hcr
  rename_i hcr
  have hcr : Lx.pre [13, 10] s.data.toList p = false := by simpa using hcr
  split
  · rename_i q hnl
    exact esc_line frm w hs hlt h hB hxB hl hi hcr hnl
  rename_i hnl
  split
  · rename_i hdg
    by_cases hz : Lx.pk s.data.toList p = 48
    · cases hd : Lx.isDig (Lx.pk s.data.toList (p + 1)) with
      | true => rw [hz]; exact esc_zero_bad frm w hs hlt h hB hxB hl hcr hnl hz hd
      | false => rw [hz]; exact esc_zero frm w hs hlt h hB hxB hl hcr hnl hz hd
    · rw [if_pos (by simp [hz])]
      exact esc_digit frm w hs hlt h hB hxB hl hi hcr hnl hdg hz
  rename_i hdg
  have hdg : Lx.isDig (Lx.pk s.data.toList p) = false := by simpa using hdg
  split
  · rename_i hx
    have hx : Lx.pk s.data.toList p = 120 := by simpa using hx
    cases hh : Lx.hex s.data.toList 2 2 (p + 1) with
    | none => exact esc_x_bad frm w hs hlt h hB hxB hl hcr hnl hx hh
    | some r => exact esc_x frm w hs hlt h hB hxB hl hcr hnl hx hh
  rename_i hx
  have hx : Lx.pk s.data.toList p ≠ 120 := by simpa using hx
  split
  · rename_i hb
    simp only [Bool.and_eq_true, beq_iff_eq] at hb
    have hle : p + 1 < s.data.toList.length := Lx.pk_lt (by rw [hb.2]; decide)
    rw [hlen]
    cases hh : Lx.hex s.data.toList 1 s.size (p + 2) with
    | none => exact esc_brace_bad frm w hs hlt h hB hxB hl hcr hnl hb.1 hb.2 (by omega) hh
    | some r =>
      obtain ⟨r, q⟩ := r
      have hq := Lx.hex_le hh (by omega)
      by_cases ht : Lx.pk s.data.toList q = 125
      · have hlq : q < s.data.toList.length := Lx.pk_lt (by rw [ht]; decide)
        simp only [ht]
        exact esc_brace frm w hs hlt h hB hxB hl hcr hnl hb.1 hb.2 (by omega) (by omega) (by omega) hh ht
      · simp only
        rw [if_pos (by simpa using ht)]
        exact esc_brace_open frm w hs hlt h hB hxB hl hcr hnl hb.1 hb.2 (by omega) (by omega) hh ht
  rename_i hb
  split
  · rename_i hu
    have hu : Lx.pk s.data.toList p = 117 := by simpa using hu
    have hb : Lx.pk s.data.toList (p + 1) ≠ 123 := by intro e; apply hb; simp [hu, e]
    cases hh : Lx.hex s.data.toList 4 4 (p + 1) with
    | none => exact esc_u_bad frm w hs hlt h hB hxB hl hcr hnl hu hb hh
    | some r => exact esc_u frm w hs hlt h hB hxB hl hcr hnl hu hb hh
  · rename_i hu
    exact esc_plain frm w hs hlt h hB hxB hl hi hcr hnl hdg hx (by simpa using hu)
end
end Go.Proofs.YtcgibcjpkhefpaaGreatDoor

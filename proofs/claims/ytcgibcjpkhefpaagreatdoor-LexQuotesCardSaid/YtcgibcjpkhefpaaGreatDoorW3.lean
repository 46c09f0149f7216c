/-
  Walks: put (two of that name), units.Point, the scanner's plain.
-/
import Derived.Test.YtcgibcjpkhefpaaGreatDoorW2
import Derived.Test.YtcgibcjpkhefpaaGreatDoorW0
namespace Go.Proofs.YtcgibcjpkhefpaaGreatDoor
open Go.RowKit
/-- What a Builder's method leaves alone. -/
def Wrote (B x : Nat) (l : List UInt8) (w w' : World) : Prop := Bld B x l w' ∧ Below B w w' ∧ Lib.OthersKept 5 (some x) w w'
theorem Wrote.trans {B x : Nat} {l l' : List UInt8} {w w1 w2 : World} (h : Wrote B x l w w1) (k : Wrote B x l' w1 w2) : Wrote B x l' w w2 :=
  ⟨k.1, h.2.1.trans k.2.1, h.2.2.trans k.2.2⟩
theorem bld_byte {B x : Nat} {l : List UInt8} {w : World} (c : UInt8) (h : Bld B x l w) (hl : l.length + 1 ≤ 140737488355328) :
    Calls Tryz.prog 92 #[.pointer (some ⟨x, 0, none⟩), .int .u8 c.toNat] w fun e w' => e = .returned .nilIface ∧ Wrote B x (l ++ [c]) w w' :=
  (WriteByte_k B x (Lib.byteCells l) c.toNat w h (by rw [Lib.byteCells_length]; exact hl) (by have := h.le; omega)).mono
    fun _ _ ⟨he, hb, h1, h2⟩ => ⟨he, by unfold Bld; rw [Lib.byteCells_append]; exact Or.inr hb, h1, h2⟩
theorem bld_str {B x : Nat} {l : List UInt8} {w : World} (s : ByteArray) (h : Bld B x l w) (hl : l.length + s.size ≤ 140737488355328) :
    Calls Tryz.prog 51 #[.pointer (some ⟨x, 0, none⟩), .string s] w fun e w' => e = .returned (.tuple #[.int .i64 s.size, .nilIface]) ∧ Wrote B x (l ++ s.data.toList) w w' :=
  (WriteString_k B x (Lib.byteCells l) s w h (by rw [Lib.byteCells_length]; exact hl) (by have := h.le; omega)).mono
    fun _ _ ⟨he, hb, h1, h2⟩ => ⟨he, by unfold Bld; rw [Lib.byteCells_append, ← Lib.strCells_eq]; exact Or.inr hb, h1, h2⟩
theorem bld_end {B x : Nat} {l : List UInt8} {w : World} (h : Bld B x l w) :
    Calls Tryz.prog 53 #[.pointer (some ⟨x, 0, none⟩)] w fun e w' => e = .returned (.string ⟨l.toArray⟩) ∧ Wrote B x l w w' :=
  (Tryz.Builder_String_any_k B x l w h (by have := h.le; omega)).mono fun _ _ ⟨he, hb, h1, h2⟩ => ⟨he, hb, h1, h2⟩
theorem bld_fresh (w : World) : Bld w.heap.size w.heap.size [] (w.alloc (.cells #[.pointer none, .slice none 0 0] 80)) :=
  Lib.IsBuilderF.of (Lib.fresh_isBuilder 80 5 w)
theorem hi_byte {n : Nat} (hn : n < 65536) : ((n : Int) / 256) = ((UInt8.ofNat (n / 256)).toNat : Int) := by
  have : (UInt8.ofNat (n / 256)).toNat = n / 256 := by simp; omega
  rw [this]; omega
theorem lo_byte (n : Nat) : ((n : Int) % 256) = ((UInt8.ofNat n).toNat : Int) := by
  have : (UInt8.ofNat n).toNat = n % 256 := by simp
  rw [this]; omega
set_option maxHeartbeats 400000 in
theorem put_any {B x : Nat} {l : List UInt8} {w : World} (n : Nat) (hn : n < 65536) (h : Bld B x l w) (hl : l.length + 2 ≤ 140737488355328) :
    Calls Tryz.prog 107 #[.pointer (some ⟨x, 0, none⟩), .int .u16 n] w fun e w' => e = .returned (.tuple #[]) ∧ Wrote B x (l ++ Lx.u16 n) w w' := by
  have HB := Lib.hid h
  have hl1 : (l ++ [UInt8.ofNat (n / 256)]).length + 1 ≤ 140737488355328 := by simp; omega
  clear h
  go_enter Tryz.func107, Tryz.ntmps107
  go_wp2_with fail
  rw [hi_byte hn]
  refine (bld_byte _ HB.out (by omega)).mono ?_
  rintro e w1 ⟨rfl, H1⟩
  have H1 := Lib.hid H1
  go_wp2_with fail
  rw [lo_byte n]
  refine (bld_byte _ H1.out.1 hl1).mono ?_
  rintro e w2 ⟨rfl, H2⟩
  go_wp2_with fail
  go_end0
  exact ⟨rfl, by simpa [Lx.u16] using H1.out.trans H2⟩
set_option maxHeartbeats 400000 in
theorem uput_any {B x : Nat} {l : List UInt8} {w : World} (n : Nat) (hn : n < 65536) (h : Bld B x l w) (hl : l.length + 2 ≤ 140737488355328) :
    Calls Tryz.prog 73 #[.pointer (some ⟨x, 0, none⟩), .int .u16 n] w fun e w' => e = .returned (.tuple #[]) ∧ Wrote B x (l ++ Lx.u16 n) w w' := by
  have HB := Lib.hid h
  have hl1 : (l ++ [UInt8.ofNat (n / 256)]).length + 1 ≤ 140737488355328 := by simp; omega
  clear h
  go_enter Tryz.func73, Tryz.ntmps73
  go_wp2_with fail
  rw [hi_byte hn]
  refine (bld_byte _ HB.out (by omega)).mono ?_
  rintro e w1 ⟨rfl, H1⟩
  have H1 := Lib.hid H1
  go_wp2_with fail
  rw [lo_byte n]
  refine (bld_byte _ H1.out.1 hl1).mono ?_
  rintro e w2 ⟨rfl, H2⟩
  go_wp2_with fail
  go_end0
  exact ⟨rfl, by simpa [Lx.u16] using H1.out.trans H2⟩
theorem pointB_small {n : Nat} (h : n < 65536) : Lx.pointB n = Lx.u16 n := by
  unfold Lx.pointB; rw [if_neg (by omega), if_pos h]
theorem pointB_great {n : Nat} (h : 65536 ≤ n) (h2 : n ≤ 1114111) : Lx.pointB n = Lx.u16 (55296 + (n - 65536) / 1024) ++ Lx.u16 (56320 + n % 1024) := by
  unfold Lx.pointB; rw [if_neg (by omega), if_neg (by omega)]
theorem arrList (l : List UInt8) : ([] ++ l).toArray = l.toArray := by simp
theorem low_surr (r : Int) (h0 : 0 ≤ r) (h1 : r < 2147483648) : IntKind.u16.wrap (bits BinOp.or IntKind.i32 56320 (bits BinOp.and IntKind.i32 r 1023)) = ((56320 + r.toNat % 1024 : Nat) : Int) := by
  have e1 : bits .and .i32 r 1023 = r % 1024 := bits_mask .i32 31 (by decide) wraps_i32 10 (by decide) r h0 (by omega)
  rw [e1]
  have e2 : bits .or .i32 56320 (r % 1024) = 56320 + r % 1024 := bits_join .i32 31 (by decide) wraps_i32 10 56320 _ (by decide) (by decide) (by decide) (by omega) (by omega) (by omega)
  rw [e2, IntKind.wrap_u16]
  omega
set_option maxRecDepth 100000 in
set_option maxHeartbeats 400000 in
theorem point_a (r : Int) (h0 : 0 ≤ r) (hr : r < 65536) (w : World) :
    Calls Tryz.prog 52 #[.int .i32 r] w fun e w' => e = .returned (.string ⟨(Lx.pointB r.toNat).toArray⟩) ∧ Below w.heap.size w w' := by
    have hB := Lib.hid (bld_fresh w)
    have hA := Lib.hid ((Below.refl w.heap.size w).alloc (Nat.le_refl _) (.cells #[.pointer none, .slice none 0 0] 80))
    go_enter Tryz.func52, Tryz.ntmps52
    go_wp2_with fail
    rw [show r = ((r.toNat : Nat) : Int) by omega]
    refine (uput_any _ (by omega) hB.out (by simp)).mono ?_
    rintro e w1 ⟨rfl, H1⟩
    have H1 := Lib.hid H1
    go_wp2_with fail
    refine (bld_end H1.out.1).mono ?_
    rintro e w2 ⟨rfl, H2⟩
    have H2 := Lib.hid H2
    go_wp2
    go_ret
    exact ⟨by rw [pointB_small (by omega)]; rfl, hA.out.trans (H1.out.2.1.trans H2.out.2.1)⟩
set_option maxRecDepth 100000 in
set_option maxHeartbeats 400000 in
theorem point_b (r : Int) (h0 : 65536 ≤ r) (hr : r ≤ 1114111) (w : World) :
    Calls Tryz.prog 52 #[.int .i32 r] w fun e w' => e = .returned (.string ⟨(Lx.pointB r.toNat).toArray⟩) ∧ Below w.heap.size w w' := by
    have hB := Lib.hid (bld_fresh w)
    have hA := Lib.hid ((Below.refl w.heap.size w).alloc (Nat.le_refl _) (.cells #[.pointer none, .slice none 0 0] 80))
    have HE := Lib.hid (show 55296 + (r - 65536) / 1024 = ((55296 + (r.toNat - 65536) / 1024 : Nat) : Int) by omega)
    go_enter Tryz.func52, Tryz.ntmps52
    go_wp2_with fail
    rw [HE.out]
    refine (uput_any _ (by omega) hB.out (by simp)).mono ?_
    rintro e w1 ⟨rfl, H1⟩
    have H1 := Lib.hid H1
    go_wp2_with fail
    rw [low_surr r (by omega) (by omega)]
    refine (uput_any _ (by omega) H1.out.1 (by simp [Lx.u16])).mono ?_
    rintro e w1 ⟨rfl, H2⟩
    have H2 := Lib.hid H2
    go_wp2_with fail
    refine (bld_end H2.out.1).mono ?_
    rintro e w2 ⟨rfl, H3⟩
    have H3 := Lib.hid H3
    go_wp2
    go_ret
    exact ⟨by rw [pointB_great (by omega) (by omega)]; rfl, hA.out.trans (H1.out.2.1.trans (H2.out.2.1.trans H3.out.2.1))⟩
theorem point_any (r : Int) (h0 : 0 ≤ r) (hr : r ≤ 1114111) (w : World) :
    Calls Tryz.prog 52 #[.int .i32 r] w fun e w' => e = .returned (.string ⟨(Lx.pointB r.toNat).toArray⟩) ∧ Below w.heap.size w w' := by
  by_cases h : r < 65536
  · exact point_a r h0 h w
  · exact point_b r (by omega) hr w
end Go.Proofs.YtcgibcjpkhefpaaGreatDoor

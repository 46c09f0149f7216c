/-
  Walks of the scanner's methods hex, put, plain; of units.Point and units.put.
-/
import Derived.Test.YtcgibcjpkhefpaaGreatDoorW1
namespace Go.Proofs.YtcgibcjpkhefpaaGreatDoor
open Go.RowKit

/-- What is thrown: a place at which no token begins. -/
def wrongAt (p : Nat) : Ending := .panicked [{ v := .iface 62 (.agg #[.int .i64 p]), recovered := false }]

theorem or32 : ∀ c : UInt8, bits .or .u8 (c.toNat : Int) 32 = ((c.toNat ||| 32 : Nat) : Int) := u8_all (by decide +kernel)
theorem idxByte (t : ByteArray) (c : UInt8) (w : World) :
    Calls Tryz.prog 117 #[.string t, .int .u8 c.toNat] w fun e w' => e = .returned (.int .i64 (Lib.indexByte t.data.toList c)) ∧ w' = w := by
  have h := Tryz.strings_IndexByte t c.toNat w
  simpa using h
section
variable {b : Nat} {s : ByteArray} {lv ov : Value} {p : Nat} {ln : Bool} {opn : List Int}
theorem peek0 (w : World) (hs : s.size ≤ 140737488351232) (hp : p ≤ s.size) (h : Scn b s lv p ln ov opn w) :
    Calls Tryz.prog 78 #[.pointer (some ⟨b, 0, none⟩), .int .i64 0] w fun e w' => e = .returned (.int .u8 (Lx.pk s.data.toList p).toNat) ∧ ∃ k, w' = w.drewN k :=
  peek_any 0 w hs (by omega) hp h
theorem peek1 (w : World) (hs : s.size ≤ 140737488351232) (hp : p ≤ s.size) (h : Scn b s lv p ln ov opn w) :
    Calls Tryz.prog 78 #[.pointer (some ⟨b, 0, none⟩), .int .i64 1] w fun e w' => e = .returned (.int .u8 (Lx.pk s.data.toList (p + 1)).toNat) ∧ ∃ k, w' = w.drewN k :=
  peek_any 1 w hs (by omega) hp h

/-- A number to the base 16 has been read. -/
def HexPost (b : Nat) (s : ByteArray) (lv : Value) (ln : Bool) (ov : Value) (opn : List Int) (frm : Nat) (w : World) (r : Option (Nat × Nat)) (e : Ending) (w' : World) : Prop :=
  Kf (So b) w w' ∧ match r with
    | some (v, q) => e = .returned (.int .i32 v) ∧ Scn b s lv q ln ov opn w'
    | none => e = wrongAt frm
theorem hexd_chk : ∀ c : UInt8, (match Lx.hexd c with | some k => decide (Lib.indexByte Lx.hexDigits (c ||| 32) = k ∧ k ≤ 15 ∧ 48 ≤ c.toNat) | none => true) = true := u8_all (by decide +kernel)
theorem hexd_some {c : UInt8} {k : Nat} (h : Lx.hexd c = some k) : Lib.indexByte Lx.hexDigits (c ||| 32) = k ∧ k ≤ 15 ∧ 48 ≤ c.toNat := by
  have := hexd_chk c
  rw [h] at this
  simpa using this
theorem idxHex (c : UInt8) (w : World) :
    Calls Tryz.prog 117 #[.string ⟨#[48, 49, 50, 51, 52, 53, 54, 55, 56, 57, 97, 98, 99, 100, 101, 102]⟩, .int .u8 ((c.toNat ||| 32 : Nat) : Int)] w fun e w' => e = .returned (.int .i64 (Lib.indexByte Lx.hexDigits (c ||| 32))) ∧ w' = w := by
  have := idxByte ⟨#[48, 49, 50, 51, 52, 53, 54, 55, 56, 57, 97, 98, 99, 100, 101, 102]⟩ (c ||| 32) w
  rw [show (c ||| 32).toNat = (c.toNat ||| 32 : Nat) by simp] at this
  exact this
theorem hexd_none {c : UInt8} (h : Lx.hexd c = none) : Lib.indexByte Lx.hexDigits (c ||| 32) < 0 ∨ c.toNat < 48 := by
  unfold Lx.hexd at h
  simp only [ite_eq_left_iff, reduceCtorEq, imp_false, Decidable.not_not] at h
  rcases h with h | h
  · exact Or.inl h
  · exact Or.inr (by simpa [UInt8.lt_iff_toNat_lt] using h)
theorem hex_bad0 {l : List UInt8} {least most p : Nat} (h : Lx.hexGo l most 0 0 p = none) : Lx.hex l least most p = none := by simp [Lx.hex, h]
theorem hex_bad {l : List UInt8} {least most p n v q : Nat} (h : Lx.hexGo l most 0 0 p = some (n, v, q)) (hl : n < least) : Lx.hex l least most p = none := by simp [Lx.hex, h, hl]
theorem hex_ok {l : List UInt8} {least most p n v q : Nat} (h : Lx.hexGo l most 0 0 p = some (n, v, q)) (hl : ¬ n < least) : Lx.hex l least most p = some (v, q) := by simp [Lx.hex, h, hl]
theorem pk_zero {l : List UInt8} {p : Nat} (h : l.length ≤ p) : Lx.pk l p = 0 := by simp [Lx.pk, h]
set_option maxHeartbeats 1000000 in
theorem hex_any (least most frm : Nat) (w : World) (hs : s.size ≤ 140737488351232) (hp : p ≤ s.size) (_hl : least ≤ 4) (hm : most ≤ 140737488351232) (h : Scn b s lv p ln ov opn w) :
    Calls Tryz.prog 124 #[.pointer (some ⟨b, 0, none⟩), .int .i64 least, .int .i64 most, .int .i64 frm] w
      (HexPost b s lv ln ov opn frm w (Lx.hex s.data.toList least most p)) := by
  have hlen : s.data.toList.length = s.size := by simp
  go_enter Tryz.func124, Tryz.ntmps124
  go_wp2
  go_loopw [9, 10] (fun vv nn wr => ∃ f n v q : Nat, n + f = most ∧ v ≤ 1114111 ∧ q ≤ s.size ∧ vv = .int .i32 v ∧ nn = .int .i64 n ∧ Scn b s lv q ln ov opn wr ∧ Kf (So b) w wr ∧ Lx.hexGo s.data.toList f n v q = Lx.hexGo s.data.toList most 0 0 p) (fun _ nn _ => most - (intOf nn).toNat)
  case atStart => exact ⟨most, 0, 0, p, by omega, by omega, hp, rfl, rfl, h, Kf.refl _ _, rfl⟩
  case round =>
    obtain ⟨f, n, v, q, hnf, hv, hq, rfl, rfl, hS, hK, hG⟩ := hrel
    have h0 := hS.c0
    have h1 := hS.c1
    have f1 := hS.fz 1
    have HG := Lib.hid hG
    have HS := Lib.hid hS
    have HK := Lib.hid hK
    have HNF := Lib.hid hnf
    clear hG hS hK h hnf
    cases f with
    | zero =>
      have hlt : most ≤ n := by have := HNF.out; omega
      have FIN := Lib.hid (show Lx.hexGo s.data.toList 0 n v q = some (n, v, q) from rfl)
      by_cases hle : n < least
      · go_wp2
        exact ⟨rfl, HK.out, by rw [hex_bad (by rw [← HG.out]; exact FIN.out) hle]; rfl⟩
      · go_wp2
        go_ret
        exact ⟨HK.out, by rw [hex_ok (by rw [← HG.out]; exact FIN.out) hle]; exact ⟨rfl, HS.out⟩⟩
    | succ f =>
      have hlt : n < most := by have := HNF.out; omega
      have e32 := or32 (Lx.pk s.data.toList q)
      cases hd : Lx.hexd (Lx.pk s.data.toList q) with
      | none =>
        have FIN := Lib.hid (show Lx.hexGo s.data.toList (f + 1) n v q = some (n, v, q) by rw [Lx.hexGo, hd])
        have hno := hexd_none hd
        clear hd
        by_cases hi : Lib.indexByte Lx.hexDigits (Lx.pk s.data.toList q ||| 32) < 0
        · clear hno
          by_cases hle : n < least
          all_goals
            go_wp2_with fail
            refine (peek0 _ hs hq HS.out).mono ?_
            rintro e w1 ⟨rfl, n1, rfl⟩
            go_wp2_with fail
            refine (idxHex _ _).mono ?_
            rintro e w1 ⟨rfl, rfl⟩
            go_wp2
          · exact ⟨rfl, HK.out.drewN _, by rw [hex_bad (by rw [← HG.out]; exact FIN.out) hle]; rfl⟩
          · go_ret
            exact ⟨HK.out.drewN _, by rw [hex_ok (by rw [← HG.out]; exact FIN.out) hle]; exact ⟨rfl, HS.out.drewN _⟩⟩
        · have h48 : ((Lx.pk s.data.toList q).toNat : Int) < 48 := by omega
          clear hno
          by_cases hle : n < least
          all_goals
            go_wp2_with fail
            refine (peek0 _ hs hq HS.out).mono ?_
            rintro e w1 ⟨rfl, n1, rfl⟩
            go_wp2_with fail
            refine (idxHex _ _).mono ?_
            rintro e w1 ⟨rfl, rfl⟩
            go_wp2_with fail
            refine (peek0 _ hs hq (HS.out.drewN _)).mono ?_
            rintro e w1 ⟨rfl, n2, rfl⟩
            go_wp2_with fail
          · exact ⟨rfl, HK.out.drewN _, by rw [hex_bad (by rw [← HG.out]; exact FIN.out) hle]; rfl⟩
          · go_ret
            exact ⟨HK.out.drewN _, by rw [hex_ok (by rw [← HG.out]; exact FIN.out) hle]; exact ⟨rfl, HS.out.drewN _⟩⟩
      | some k =>
        obtain ⟨hk1, hk2, hk3⟩ := hexd_some hd
        have HK1 := Lib.hid hk1
        have HD := Lib.hid hd
        clear hk1 hd
        by_cases hbig : 1114111 < 16 * v + k
        · have FIN := Lib.hid (show Lx.hexGo s.data.toList (f + 1) n v q = none by simp only [Lx.hexGo, HD.out]; rw [if_pos hbig])
          go_wp2_with fail
          refine (peek0 _ hs hq HS.out).mono ?_
          rintro e w1 ⟨rfl, n1, rfl⟩
          go_wp2_with fail
          refine (idxHex _ _).mono ?_
          rintro e w1 ⟨rfl, rfl⟩
          rw [HK1.out]
          go_wp2_with fail
          refine (peek0 _ hs hq (HS.out.drewN _)).mono ?_
          rintro e w1 ⟨rfl, n2, rfl⟩
          go_wp2_with fail
          exact ⟨rfl, HK.out.drewN _, by rw [hex_bad0 (by rw [← HG.out]; exact FIN.out)]; rfl⟩
        · have FIN := Lib.hid (show Lx.hexGo s.data.toList (f + 1) n v q = Lx.hexGo s.data.toList f (n + 1) (16 * v + k) (q + 1) by simp only [Lx.hexGo, HD.out]; rw [if_neg hbig])
          have hqs : q < s.size := by
            rcases Nat.lt_or_ge q s.size with hx | hx
            · exact hx
            · rw [pk_zero (by omega)] at hk3; simp at hk3
          go_wp2_with fail
          refine (peek0 _ hs hq HS.out).mono ?_
          rintro e w1 ⟨rfl, n1, rfl⟩
          go_wp2_with fail
          refine (idxHex _ _).mono ?_
          rintro e w1 ⟨rfl, rfl⟩
          rw [HK1.out]
          go_wp2_with fail
          refine (peek0 _ hs hq (HS.out.drewN _)).mono ?_
          rintro e w1 ⟨rfl, n2, rfl⟩
          go_wp2_with fail
          go_roundw
          case rel =>
            refine ⟨f, n + 1, 16 * v + k, q + 1, by have := HNF.out; omega, by omega, by omega, by go_num, by go_num, ?_, ?_, by rw [← HG.out]; exact FIN.out.symm⟩
            · exact (HS.out.drewN _).setTo (by omega)
            · exact (HK.out.drewN _).setB 1 _
          case measure => simp [intOf]; omega
end
end Go.Proofs.YtcgibcjpkhefpaaGreatDoor

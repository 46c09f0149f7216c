/-
  The program's Units (28): even (47), unit (48): the units of a text.
  The program's Units (28): the units of a text.
-/
import Derived.Test.YtcgibcjpkhefpaaGreatDoorZU0
import Derived.Laws.BitsAllLaws
namespace Go.Proofs.YtcgibcjpkhefpaaGreatDoor
open Go.RowKit
theorem andNot_one (n : Nat) (h : n < 9223372036854775808) : bits .andNot .i64 (n : Int) 1 = ((n / 2 * 2 : Nat) : Int) := by
  have key : (BitVec.ofInt 64 (n : Int) &&& ~~~BitVec.ofInt 64 1).toNat = n / 2 * 2 := by
    rw [BitVec.toNat_and, BitVec.toNat_ofInt]
    have e : (~~~BitVec.ofInt 64 1).toNat = 18446744073709551614 := by decide
    rw [e, nat_hi64_1]
    omega
  show IntKind.i64.wrap ((BitVec.ofInt 64 (n : Int) &&& ~~~BitVec.ofInt 64 1).toNat : Int) = _
  rw [key]
  exact IntWalk.i64_in _ (by omega)
set_option maxHeartbeats 1000000 in
theorem even_any (s : ByteArray) (w : World) (hs : s.size ≤ 262144) :
    Calls Tryz.prog 47 #[.string s] w fun e w' => e = .returned (.string (s.extract 0 (s.size / 2 * 2))) ∧ w' = w := by
  have ha := andNot_one s.size (by omega)
  have h1 : ((s.size / 2 * 2 : Nat) : Int) ≤ s.size := by omega
  have h2 : s.size / 2 * 2 ≤ s.size := by omega
  obtain ⟨n, hn⟩ : ∃ n, s.size / 2 * 2 = n := ⟨_, rfl⟩
  rw [hn] at ha h1 h2 ⊢
  clear hn
  go_enter Tryz.func47, Tryz.ntmps47
  go_wp2
  go_ret
  exact ⟨rfl, rfl⟩
theorem u8_or (x y : Nat) (hx : x < 256) (hy : y < 256) : bits .or .u16 ((x : Int) * 256) (y : Int) = (x : Int) * 256 + y := by
  have := u16_or_nat (x * 256) y (by omega) (by omega)
  have e : ((x * 256 : Nat) : Int) = (x : Int) * 256 := by omega
  rw [e] at this
  rw [this]
  have h := Nat.two_pow_add_eq_or_of_lt (i := 8) (show y < 2 ^ 8 from hy) x
  have h2 : 2 ^ 8 * x = x * 256 := Nat.mul_comm _ _
  rw [h2] at h
  rw [← h]
  rfl
set_option maxHeartbeats 1000000 in
theorem unit_any (t : ByteArray) (i : Nat) (w : World) (hs : t.size ≤ 262144) (hi : 2 * i + 1 < t.size) :
    Calls Tryz.prog 48 #[.string t, .int .i64 i] w fun e w' => e = .returned (.int .u16 (((Lx.pk t.data.toList (2 * i)).toNat : Int) * 256 + (Lx.pk t.data.toList (2 * i + 1)).toNat)) ∧ ∃ k, w' = w.drewN k := by
  have p1 : Lx.pk t.data.toList (2 * i) = t[2 * i]'(by omega) := by simp [Lx.pk, (show 2 * i < t.size by omega)]; rfl
  have p2 : Lx.pk t.data.toList (2 * i + 1) = t[2 * i + 1]'(by omega) := by simp [Lx.pk, hi]; rfl
  rw [p1, p2]
  have ha := (t[2 * i]'(by omega)).toNat_lt
  have hb := (t[2 * i + 1]'(by omega)).toNat_lt
  have w1 : IntKind.u16.wrap ((t[2 * i]'(by omega)).toNat : Int) = ((t[2 * i]'(by omega)).toNat : Int) := u16_in _ (by omega)
  have w2 : IntKind.u16.wrap (((t[2 * i]'(by omega)).toNat : Int) * 256) = ((t[2 * i]'(by omega)).toNat : Int) * 256 := u16_in _ (by omega)
  have w3 : IntKind.u16.wrap ((t[2 * i + 1]'(by omega)).toNat : Int) = ((t[2 * i + 1]'(by omega)).toNat : Int) := u16_in _ (by omega)
  have w4 := u8_or _ _ ha hb
  have hm : IntKind.i64.wrap (2 * (i : Int)) = 2 * (i : Int) := IntWalk.i64_in _ (by omega)
  have hm1 : IntKind.i64.wrap (2 * (i : Int) + 1) = 2 * (i : Int) + 1 := IntWalk.i64_in _ (by omega)
  have ht : (2 * (i : Int)).toNat = 2 * i := by omega
  have ht1 : (2 * (i : Int) + 1).toNat = 2 * i + 1 := by omega
  have g0 : 0 ≤ 2 * (i : Int) := by omega
  have g1 : 0 ≤ 2 * (i : Int) + 1 := by omega
  have l0 : 2 * (i : Int) < t.size := by omega
  have l1 : 2 * (i : Int) + 1 < t.size := by omega
  clear p1 p2
  go_enter Tryz.func48, Tryz.ntmps48
  go_wp2
  go_quiet (fail)
  go_wp2
  go_ret
  exact ⟨by rfl, _, rfl⟩
end Go.Proofs.YtcgibcjpkhefpaaGreatDoor
namespace Go.Proofs.YtcgibcjpkhefpaaGreatDoor
open Go.RowKit
theorem even_size (s : ByteArray) : (s.extract 0 (s.size / 2 * 2)).size = 2 * (s.size / 2) := by
  rw [ByteArray.size_extract]; omega
theorem even_pk (s : ByteArray) (q : Nat) (h : q < 2 * (s.size / 2)) : Lx.pk (s.extract 0 (s.size / 2 * 2)).data.toList q = Lx.pk s.data.toList q := by
  unfold Lx.pk
  congr 1
  rw [ByteArray.data_extract]
  simp only [Array.toList_extract, List.extract_eq_take_drop, List.drop_zero]
  rw [List.getElem?_take_of_lt (by omega)]
theorem own_drewN {w : World} {B n : Nat} {e : TypeId} {sz : Nat} {v : Value} {xs : List Value} (h : w.ownsRow B e sz v n xs) (k : Nat) : (w.drewN k).ownsRow B e sz v n xs := h
set_option maxHeartbeats 4000000 in
set_option maxRecDepth 100000 in
theorem units28_any (s : ByteArray) (w : World) (hs : s.size ≤ 262144) :
    Calls Tryz.prog 28 #[.string s] w fun e w' => ∃ v, e = .returned v ∧ w'.ownsRow w.heap.size 55 1 v (Lx.unitsOf s.data.toList).length ((Lx.unitsOf s.data.toList).map u16V) ∧ Below w.heap.size w w' := by
  have HL := Lib.hid (show (Lx.unitsOf s.data.toList).length = s.size / 2 by rw [units_len _ _ (Nat.le_refl _)]; simp)
  have HT := Lib.hid (even_size s)
  have HP := Lib.hid (fun q h => even_pk s q h)
  have HU := Lib.hid (show ∀ j, j < s.size / 2 → (Lx.unitsOf s.data.toList)[j]? = some ((Lx.pk s.data.toList (2 * j)).toNat * 256 + (Lx.pk s.data.toList (2 * j + 1)).toNat) from fun j hj => unit_at _ _ (Nat.le_refl _) j (by simp; omega))
  have HEV := Lib.hid (even_any s w hs)
  generalize s.extract 0 (s.size / 2 * 2) = t at *
  generalize hm : s.size / 2 = m at *
  have hm1 : m ≤ 131072 := by omega
  have hts : t.size = 2 * m := HT.out
  have HTS := Lib.hid hts
  clear hts hm HT
  obtain ⟨i0, hi, hz0, hz1, hz2⟩ := info_parts info55
  have HI := Lib.hid (And.intro hi (And.intro hz0 (And.intro hz1 hz2)))
  clear hi hz0 hz1 hz2
  have MK := Lib.hid (show i0.bytes * m ≤ 281474976710656 ∧ m ≤ maxLen by rw [HI.out.2.2.2]; unfold maxLen; omega)
  have hq : (t.size : Int) / 2 = m := by have := HTS.out; omega
  go_enter Tryz.func28, Tryz.ntmps28
  go_wp2_with fail
  refine HEV.out.mono ?_
  rintro e w1 ⟨rfl, rfl⟩
  go_wp2_with (at_make; refine wpList_make_own _ rfl (.const (.int .i64 0)) (.tmp 10) 53 rfl w1.heap.size 55 i0 (.int .u16 0) 1 Tryz.underlying53 HI.out.1 HI.out.2.1 HI.out.2.2.1 .i64 .i64 (m : Int) m rfl rfl rfl MK.out.1 MK.out.2 (Nat.le_refl _) ?_; intro w2 hown hgrow)
  have HO1 := Lib.hid hown
  have HB1 := Lib.hid (below_grown (Below.refl w1.heap.size w1) hgrow (Nat.le_refl _) (fun _ h => by cases h))
  clear hown hgrow
  go_loopw [4, 15] (fun v i wr => ∃ j : Nat, i = .int .i64 j ∧ j ≤ m ∧ wr.ownsRow w1.heap.size 55 1 v j (((Lx.unitsOf s.data.toList).take j).map u16V) ∧ Below w1.heap.size w1 wr) (fun _ i _ => m - (intOf i).toNat)
  case atStart => exact ⟨0, rfl, by omega, HO1.out, HB1.out⟩
  case round =>
    obtain ⟨j, rfl, hj, hown, hB⟩ := hrel
    have HO := Lib.hid hown
    have HB := Lib.hid hB
    clear hown hB
    by_cases hlt : j < m
    · go_wp2_with fail
      refine (unit_any t j _ (by have := HTS.out; omega) (by have := HTS.out; omega)).mono ?_
      rintro e w3 ⟨rfl, k, rfl⟩
      rw [HP.out (2 * j) (by omega), HP.out (2 * j + 1) (by omega)]
      have HV := Lib.hid (HU.out j hlt)
      have HOK := Lib.hid (own_drewN HO.out k)
      generalize hx : ((Lx.pk s.data.toList (2 * j)).toNat : Int) * 256 + ((Lx.pk s.data.toList (2 * j + 1)).toNat : Int) = x
      have HX := Lib.hid hx
      clear hx
      go_wp2_with (at_builtin; refine wpList_append_own _ rfl (.tmp 18) (.tmp 22) 53 rfl w1.heap.size 55 i0 (.int .u16 0) 1 2 Tryz.underlying53 HI.out.1 HI.out.2.1 HI.out.2.2.1 HI.out.2.2.2 rfl (by decide) _ _ _ rfl (HOK.out.alloc _) ⟨wr.heap.size, 0, none⟩ 1 1 [.int .u16 x] rfl rfl ?c1 ?c2 ?c3 ?c4 ?c5 ?_)
      case c1 =>
        intro q u hq
        match q, hq with
        | 0, hq => simp at hq; subst hq; exact cell_newU rfl
      case c2 => intro u hu; simp at hu; subst hu; rfl
      case c3 => unfold maxLen; omega
      case c4 => omega
      case c5 => have := HB.out.size; simp; omega
      intro v' w4 hown' hgrow _
      have HY := Lib.hid hown'
      have HB2 := Lib.hid (show Below w1.heap.size w1 w4 from below_grown (((HB.out.trans (((Kf.refl (fun _ _ => False) wr).drewN k).below (Nat.le_refl _) (fun _ _ h => h.elim) |>.mono HB.out.size))).alloc (by have := HB.out.size; simpa using this) _) hgrow (by have := HB.out.size; simp; omega) (fun k hk => (HO.out.lt k hk).1))
      clear hown' hgrow
      go_wp2
      refine ⟨⟨j + 1, by simp, by omega, ?_, HB2.out⟩, by simp [intOf]; omega⟩
      have e : ((Lx.unitsOf s.data.toList).take (j + 1)).map u16V = ((Lx.unitsOf s.data.toList).take j).map u16V ++ [.int .u16 x] := by
        rw [List.take_add_one, HV.out, ← HX.out]
        simp [u16V]
      rw [e]
      simpa using HY.out
    · go_wp2
      have hjl : j = (Lx.unitsOf s.data.toList).length := by have := HL.out; omega
      have h := HO.out
      rw [hjl, List.take_length] at h
      exact bodyPost_ret (v := _) (by simp [results, Tryz.results28]) rfl ⟨_, rfl, h, HB.out⟩
end Go.Proofs.YtcgibcjpkhefpaaGreatDoor

/-
  prefixIsLessThan (202) on a decimal's digits: whether they stand before a text's digits, as fractions.
  leftShift (199): a decimal times a power of two.
-/
import Derived.Test.YtcgibcjpkhefpaaGreatDoorZA
import Derived.Test.YtcgibcjpkhefpaaGreatDoorZB
namespace Go.Proofs.YtcgibcjpkhefpaaGreatDoor
open Go.RowKit
section
variable {D : Nat} {x : Nat → Nat} {nd : Nat} {dp : Int} {ng tr : Bool} {w : World}
/-- A text's digits, a decimal's digits. -/
def et (t : ByteArray) (j : Nat) : Nat := (t.data.toList[j]?.getD 48).toNat - 48
def dgt (x : Nat → Nat) (j : Nat) : Nat := x j - 48
theorem drewN2 (w : World) (a b c : Nat) : ((w.drewN a).drewN b).drewN c = w.drewN (a + b + c) := by
  simp [World.drewN]; omega
set_option maxHeartbeats 1000000 in
set_option maxRecDepth 100000 in
theorem pil_any (w : World) (t : ByteArray) (h : Dc D x nd dp ng tr w) (hx : ∀ i, i < nd → 48 ≤ x i ∧ x i ≤ 57) (ht : ∀ c ∈ t.data.toList, 48 ≤ c.toNat ∧ c.toNat ≤ 57) (hl : 1 ≤ et t (t.size - 1)) (hs : t.size ≤ 800) :
    Calls Tryz.prog 202 #[.slice (some ⟨D, 0, none⟩) nd 800, .string t] w fun e w' => ∃ (b : Bool) (k : Nat), e = .returned (.bool b) ∧ w' = w.drewN k ∧ (b = true → Dec.Less (dgt x) nd (et t) t.size) ∧ (b = false → ¬ Dec.Less (dgt x) nd (et t) t.size) := by
  have HS := Lib.hid h
  have hnd := h.nd
  have HX := Lib.hid hx
  have HT := Lib.hid ht
  have HL := Lib.hid hl
  have hlen : t.data.toList.length = t.size := by simp
  have HE : ∀ j (hj : j < t.size), et t j = (t[j]'hj).toNat - 48 ∧ 48 ≤ (t[j]'hj).toNat ∧ (t[j]'hj).toNat ≤ 57 := fun j hj => by
    have e : t.data.toList[j]? = some (t[j]'hj) := by rw [List.getElem?_eq_getElem (by omega)]; simp; rfl
    refine ⟨by simp [et, e], ht _ (List.mem_of_getElem? e)⟩
  have HED : ∀ j, j < t.size → et t j ≤ 9 := fun j hj => by have := HE j hj; omega
  have HDD : ∀ j, j < nd → dgt x j ≤ 9 := fun j hj => by have := hx j hj; simp only [dgt]; omega
  have HE2 := Lib.hid HE
  have HE3 := Lib.hid HED
  have HD3 := Lib.hid HDD
  clear h hx ht hl HE HED HDD
  go_enter Tryz.func202, Tryz.ntmps202
  go_wp2
  go_loopw [5] (fun i wr => ∃ j m : Nat, i = .int .i64 j ∧ wr = w.drewN m ∧ j ≤ t.size ∧ j ≤ nd ∧ ∀ q, q < j → dgt x q = et t q) (fun i _ => t.size - (intOf i).toNat)
  case atStart => exact ⟨0, 0, rfl, rfl, by omega, by omega, fun q hq => by omega⟩
  case round =>
    obtain ⟨j, m, rfl, rfl, hj, hjn, heq⟩ := hrel
    have HEQ := Lib.hid heq
    clear heq
    by_cases hlt : j < t.size
    · have g1 : decide ((j : Int) < t.size) = true := by simp; omega
      have g1n : decide (j < t.size) = true := by simp; omega
      by_cases hjd : j < nd
      · have g2 : decide ((nd : Int) ≤ j) = false := by simp; omega
        have g2n : decide (nd ≤ j) = false := by simp; omega
        have hb := HS.out.byte (i := j) (by omega)
        obtain ⟨v, hv⟩ : ∃ v, (t[j]'hlt).toNat = v := ⟨_, rfl⟩
        have hE := HE2.out j hlt
        rw [hv] at hE
        have hX := HX.out j hjd
        by_cases hq : x j = v
        · have g3 : ((x j : Int) == ((t[j]'hlt).toNat : Int)) = true := by simp [hv, hq]
          have g3n : (x j == (t[j]'hlt).toNat) = true := by simp [hv, hq]
          go_wp2
          go_quiet (fail)
          go_wp2
          go_roundw
          case rel =>
            refine ⟨j + 1, _, by simp, rfl, by omega, by omega, fun q hq2 => ?_⟩
            by_cases e : q = j
            · subst e; simp only [dgt]; omega
            · exact HEQ.out q (by omega)
          case measure => simp [intOf]; omega
        · have g3 : ((x j : Int) == ((t[j]'hlt).toNat : Int)) = false := by simp [hv]; omega
          have g3n : (x j == (t[j]'hlt).toNat) = false := by simp [hv]; omega
          by_cases hlt2 : x j < v
          · have g4 : decide ((x j : Int) < ((t[j]'hlt).toNat : Int)) = true := by simp [hv]; omega
            have g4n : decide (x j < (t[j]'hlt).toNat) = true := by simp [hv]; omega
            have FIN := Lib.hid (Dec.less_at (d := dgt x) (e := et t) (nd := nd) (c := t.size) HEQ.out hjd hlt HD3.out HE3.out (by simp only [dgt]; omega))
            go_wp2
            go_quiet (fail)
            go_wp2
            go_quiet (fail)
            go_wp2
            go_ret
            exact ⟨true, _, rfl, drewN2 _ _ _ _, fun _ => FIN.out, fun h => (by cases h)⟩
          · have g4 : decide ((x j : Int) < ((t[j]'hlt).toNat : Int)) = false := by simp [hv]; omega
            have g4n : decide (x j < (t[j]'hlt).toNat) = false := by simp [hv]; omega
            have FIN := Lib.hid (Dec.not_less_at (d := dgt x) (e := et t) (nd := nd) (c := t.size) HEQ.out hjd hlt HD3.out HE3.out (by simp only [dgt]; omega))
            go_wp2
            go_quiet (fail)
            go_wp2
            go_quiet (fail)
            go_wp2
            go_ret
            exact ⟨false, _, rfl, drewN2 _ _ _ _, fun h => (by cases h), fun _ => FIN.out⟩
      · have g2 : decide ((nd : Int) ≤ j) = true := by simp; omega
        have g2n : decide (nd ≤ j) = true := by simp; omega
        have FIN := Lib.hid (Dec.less_short (d := dgt x) (e := et t) (nd := nd) (c := t.size) (fun q hq => HEQ.out q (by omega)) (by omega) HE3.out HL.out)
        go_wp2
        go_ret
        exact ⟨true, _, rfl, rfl, fun _ => FIN.out, fun h => (by cases h)⟩
    · have g1 : decide ((j : Int) < t.size) = false := by simp; omega
      have g1n : decide (j < t.size) = false := by simp; omega
      have FIN := Lib.hid (Dec.not_less_all (d := dgt x) (e := et t) (nd := nd) (c := t.size) (fun q hq => HEQ.out q (by omega)) (by omega) HD3.out)
      go_wp2
      go_ret
      exact ⟨false, _, rfl, rfl, fun h => (by cases h), fun _ => FIN.out⟩
end
end Go.Proofs.YtcgibcjpkhefpaaGreatDoor
namespace Go.Dec
instance less_dec (d : Nat → Nat) (nd : Nat) (e : Nat → Nat) (c : Nat) : Decidable (Less d nd e c) := by unfold Less; infer_instance
end Go.Dec
namespace Go.Proofs.YtcgibcjpkhefpaaGreatDoor
open Go.RowKit
/-- The table of the left shift lies in memory, in block g. -/
structure LC (g o c : Nat) (w : World) : Prop where
  v : w.cell? ⟨18, 0, none⟩ = some (.slice (some ⟨g, o, none⟩) 61 c)
  a : ∀ k, k ≤ 60 → w.cell? ⟨g, o + k * 2, none⟩ = some (.int .i64 (Dec.row k).1)
  b : ∀ k, k ≤ 60 → w.cell? ⟨g, o + k * 2 + 1, none⟩ = some (.string ⟨(Dec.row k).2.toArray⟩)
/-- A decimal that is not 0: its first digit d0, its point dp. -/
structure DOk (D d0 : Nat) (dp : Int) (x : Nat → Nat) (nd : Nat) (ng tr : Bool) (w : World) : Prop where
  dc : Dc D x nd dp ng tr w
  n1 : 1 ≤ nd
  dig : ∀ i, i < nd → 48 ≤ x i ∧ x i ≤ 57
  byt : ∀ i, i < 800 → x i < 256
  x0 : x 0 = 48 + d0
  d1 : 1 ≤ d0
section
variable {D d0 g o c : Nat} {x : Nat → Nat} {nd : Nat} {dp : Int} {ng tr : Bool} {w : World}
theorem DOk.d9 (h : DOk D d0 dp x nd ng tr w) : d0 ≤ 9 := by
  have := h.dig 0 h.n1
  have := h.x0
  omega
theorem Dc.setTwice (h : Dc D x nd dp ng tr w) (v : Value) {n : Int} {m : Nat} (e : n = m) (hm : m ≤ 800) : Dc D x m dp ng tr ((w.setCell ⟨D, 800, none⟩ v).setCell ⟨D, 800, none⟩ (.int .i64 n)) := by
  subst e
  obtain ⟨cs, h1, h2, h3, h4, h5, h6, h7⟩ := h.ex
  refine ⟨⟨_, heap_setSelf (heap_setSelf h1 _ _) _ _, by simpa using h2, fun i hi => ?_, ?_, ?_, ?_, ?_⟩, hm⟩
  · rw [set_cell, if_neg (by omega), set_cell, if_neg (by omega), h3 i hi]
  · rw [set_cell, if_pos (by simp; omega)]
  · rw [set_cell, if_neg (by omega), set_cell, if_neg (by omega), h5]
  · rw [set_cell, if_neg (by omega), set_cell, if_neg (by omega), h6]
  · rw [set_cell, if_neg (by omega), set_cell, if_neg (by omega), h7]
theorem alen211 : Tryz.prog.arrayLen 211 = 800 := by kernel_rfl
theorem slice_d (D n : Nat) (hn : n ≤ 800) (w : World) : (Instr.sliceAt 211 (.pointer (some ⟨D, 0, none⟩)) (some (.int .i64 0)) (some (.int .i64 n)) none).run Tryz.prog w = .ok (.slice (some ⟨D, 0, none⟩) n 800) w := by
  have h1 : (n : Int) ≤ 800 := by omega
  simp [go_sem, Instr.sliceAt, Instr.sliceBounds, Instr.sliceBound]
  intro h
  omega
set_option maxHeartbeats 2000000 in
set_option maxRecDepth 100000 in
theorem left_any (w : World) (k : Nat) (h : DOk D d0 dp x nd ng tr w) (hL : LC g o c w) (_hgD : g ≠ D) (_h18 : 18 ≠ D) (hk1 : 1 ≤ k) (hk2 : k ≤ 60) (hdp : -1000000000000 ≤ dp ∧ dp ≤ 1000000000000) :
    Calls Tryz.prog 199 #[.pointer (some ⟨D, 0, none⟩), .int .u64 k] w fun e w' => e = .returned (.tuple #[]) ∧ Kf (So D) w w' ∧ ∃ (delta d0' : Nat) (x' : Nat → Nat) (nd' : Nat) (tr' : Bool), DOk D d0' (dp + delta) x' nd' ng tr' w' ∧ delta ≤ 60 ∧ (delta = 0 → 2 * d0 ≤ d0') := by
  have hnd := h.dc.nd
  have hch := Dec.cheat_at hk1 hk2
  have hrs : (⟨(Dec.row k).2.toArray⟩ : ByteArray).size = (Dec.row k).2.length := by simp [ByteArray.size]
  have het : et ⟨(Dec.row k).2.toArray⟩ = Dec.ed k := by funext j; simp [et, Dec.ed]
  obtain ⟨B, hB⟩ : ∃ B, decide (Dec.Less (dgt x) nd (Dec.ed k) (Dec.row k).2.length) = B := ⟨_, rfl⟩
  have HPIL := Lib.hid (show ∀ m, Calls Tryz.prog 202 #[.slice (some ⟨D, 0, none⟩) nd 800, .string ⟨(Dec.row k).2.toArray⟩] (w.drewN m) fun e w' => e = .returned (.bool B) ∧ ∃ n, w' = (w.drewN m).drewN n from fun m => by
    refine (pil_any (w.drewN m) ⟨(Dec.row k).2.toArray⟩ (h.dc.drewN m) h.dig ?_ ?_ ?_).mono ?_
    · intro c hc; exact hch.2 c (by simpa using hc)
    · rw [het, hrs]; exact hch.1.last
    · rw [hrs]; have := hch.1.ck; omega
    · rintro e w' ⟨b, n, rfl, rfl, h1, h2⟩
      rw [het, hrs] at h1 h2
      refine ⟨?_, n, rfl⟩
      cases b with
      | true => have := h1 rfl; rw [← hB]; simp [this]
      | false => have := h2 rfl; rw [← hB]; simp [this])
  have HB := Lib.hid hB
  have HS := Lib.hid h
  have HCH := Lib.hid hch
  have hsl := fun w => slice_d D nd hnd w
  have hv := hL.v
  have ha := hL.a k hk2
  have hb := hL.b k hk2
  have c0 := h.dc.c0
  obtain ⟨R, hR⟩ : ∃ R, (Dec.row k).1 = R := ⟨_, rfl⟩
  have hRb : 1 ≤ R ∧ R ≤ 60 := by have := hch.1.de; have := hch.1.ck; have := hch.1.c1; omega
  obtain ⟨DL, hDL⟩ : ∃ DL : Nat, R = DL + (if B then 1 else 0) := by
    cases B with
    | true => exact ⟨R - 1, by simp; omega⟩
    | false => exact ⟨R, by simp⟩
  obtain ⟨X0, hX0⟩ : ∃ X0, Dec.pv (dgt x) nd * 2 ^ k = X0 := ⟨_, rfl⟩
  have hdg : ∀ j, j < nd → dgt x j ≤ 9 := fun j hj => by have := h.dig j hj; simp only [dgt]; omega
  have hd0 : dgt x 0 = d0 := by have := h.x0; simp only [dgt]; omega
  have hW : Dec.Wd X0 (nd + DL) := by
    rw [← hX0]
    cases B with
    | true =>
      have := Dec.wd_less hch.1 hdg (by rw [hd0]; exact h.d1) h.n1 (by simpa using hB)
      rw [hR, hDL] at this
      simpa using this
    | false =>
      have := Dec.wd_not_less hch.1 hdg (by simpa using hB)
      rw [hR, hDL] at this
      simpa using this
  obtain ⟨L, hLd⟩ : ∃ L, X0 / 10 ^ (nd + DL - 1) = L := ⟨_, rfl⟩
  have hL1 : 1 ≤ L := by
    rw [← hLd, Nat.le_div_iff_mul_le (Nat.pow_pos (by decide)), Nat.one_mul]
    exact hW.2 (by have := h.n1; omega)
  have hL0 : DL = 0 → 2 * d0 ≤ L := by
    intro e
    subst e
    rw [← hLd, ← hX0, ← hd0]
    exact Dec.lead_grow hk1 hdg h.n1
  have hn1 := h.n1
  have HW := Lib.hid hW
  have HLD := Lib.hid hLd
  have HX0 := Lib.hid hX0
  have HL1 := Lib.hid (And.intro hL1 hL0)
  have HP60 := Lib.hid (show (2 : Nat) ^ k ≤ 2 ^ 60 from Nat.pow_le_pow_right (by decide) hk2)
  rw [hR] at ha
  clear h hB hch hrs het hW hLd hX0 hdg hd0 hL1 hL0 hR
  cases B
  all_goals
    simp only [Bool.false_eq_true, if_false, if_true, Nat.add_zero] at hDL
    first | (have hDL2 := hDL.symm; subst hDL2; clear hDL) | subst hDL
    go_enter Tryz.func199, Tryz.ntmps199
    go_wp2
    go_quiet ((go_at_call 202; exact Calls.quiet_of (HPIL.out _)))
    go_wp2
    go_loopw [5, 6, 7] (fun r wi n wr => ∃ (q m : Nat) (x1 : Nat → Nat) (tr1 : Bool), r = .int .i64 ((q : Int) - 1) ∧ wi = .int .i64 ((q : Int) + DL) ∧ n = .int .u64 m ∧ q ≤ nd ∧ m < 2 ^ k ∧ Dec.Wd (Dec.pv (dgt x) q * 2 ^ k + m) (q + DL) ∧ (1 ≤ q + DL → (Dec.pv (dgt x) q * 2 ^ k + m) / 10 ^ (q + DL - 1) = L) ∧ (q + DL = 0 → x1 0 = 48 + L) ∧ (∀ i, i < q → x1 i = x i) ∧ (∀ i, i < 800 → x1 i < 256) ∧ (∀ i, q + DL ≤ i → i < nd + DL → i < 800 → 48 ≤ x1 i ∧ x1 i ≤ 57) ∧ Dc D x1 nd dp ng tr1 wr ∧ Kf (So D) w wr) (fun r _ _ _ => (intOf r + 1).toNat)
    case atStart =>
      refine ⟨nd, 0, x, tr, rfl, rfl, rfl, Nat.le_refl _, Nat.pow_pos (by decide), ?_, ?_, fun e => by omega, fun _ _ => rfl, HS.out.byt, fun i _ _ _ => by omega, HS.out.dc.drewN _, (Kf.refl _ _).drewN _⟩
      · rw [HX0.out]; exact HW.out
      · intro _; rw [HX0.out]; exact HLD.out
    case round =>
      obtain ⟨q, m, x1, tr1, rfl, rfl, rfl, hq, hm, hwd, hld, hz, hsame, hbyt, hdig, hD, hK⟩ := hrel
      by_cases hq0 : q = 0
      · subst hq0
        have hX1 : Dec.Wd m DL := by simpa [Dec.pv] using hwd
        have hX2 : 1 ≤ DL → m / 10 ^ (DL - 1) = L := by simpa [Dec.pv] using hld
        have HX1 := Lib.hid hX1
        have HX2 := Lib.hid hX2
        have HZ := Lib.hid (show DL = 0 → x1 0 = 48 + L by simpa using hz)
        have HD1 := Lib.hid (show ∀ i, DL ≤ i → i < nd + DL → i < 800 → 48 ≤ x1 i ∧ x1 i ≤ 57 by simpa using hdig)
        have HB1 := Lib.hid hbyt
        have HD := Lib.hid hD
        have HK := Lib.hid hK
        have hz0 : ((0 : Int) + DL) = (DL : Int) := by omega
        clear hX1 hX2 hz hdig hbyt hD hK hwd hld hsame
        go_wp2
        go_loopw [6, 7] (fun wi n wv => ∃ (v m : Nat) (x1 : Nat → Nat) (tr1 : Bool), wi = .int .i64 (v : Int) ∧ n = .int .u64 m ∧ v ≤ DL ∧ m < 2 ^ k ∧ Dec.Wd m v ∧ (1 ≤ v → m / 10 ^ (v - 1) = L) ∧ (v = 0 → x1 0 = 48 + L) ∧ (∀ i, i < 800 → x1 i < 256) ∧ (∀ i, v ≤ i → i < nd + DL → i < 800 → 48 ≤ x1 i ∧ x1 i ≤ 57) ∧ Dc D x1 nd dp ng tr1 wv ∧ Kf (So D) w wv) (fun wi _ _ => (intOf wi).toNat)
        case atStart => exact ⟨DL, m, x1, tr1, by simp, rfl, Nat.le_refl _, hm, HX1.out, HX2.out, HZ.out, HB1.out, HD1.out, HD.out, HK.out⟩
        case round =>
          obtain ⟨v, m, x1, tr1, rfl, rfl, hv, hm, hwd, hld, hz, hbyt, hdig, hD, hK⟩ := hrel
          have HD := Lib.hid hD
          have HK := Lib.hid hK
          have HD1 := Lib.hid hdig
          have HB1 := Lib.hid hbyt
          have f0 := hD.fz
          have c3 := hD.c3
          have c0' := hD.c0
          have c1' := hD.c1
          by_cases hm0 : m = 0
          · subst hm0
            have hv0 := Dec.wd_zero hwd
            subst hv0
            have HZ2 := Lib.hid (hz rfl)
            clear hD hK hdig hbyt hwd hld hz
            by_cases h8 : 800 ≤ nd + DL
            · have d8 : decide (800 ≤ nd + DL) = true := by simp; omega
              go_wp2_with fail
              refine (trim_any _ ((HD.out.setTwice _ (n := 800) (m := 800) (by rfl) (by omega)).setDp _) HB1.out (by omega) (by rw [HZ2.out]; have := HL1.out.1; omega)).mono ?_
              rintro e w2 ⟨rfl, hK2, n, hn1', hn2', hD2⟩
              go_wp2
              exact bodyPost_end (v := .tuple #[]) (results_none rfl _ _ _) rfl ⟨rfl, (((HK.out.setB _ _).setB _ _).setB _ _).trans hK2, DL, L, x1, n, tr1, ⟨hD2, hn1', fun i hi => HD1.out i (by omega) (by omega) (by omega), HB1.out, HZ2.out, HL1.out.1⟩, by omega, HL1.out.2⟩
            · have d8 : decide (800 ≤ nd + DL) = false := by simp; omega
              go_wp2_with fail
              refine (trim_any _ ((HD.out.setNd (n := (nd : Int) + DL) (m := nd + DL) (by omega) (by omega)).setDp _) HB1.out (by omega) (by rw [HZ2.out]; have := HL1.out.1; omega)).mono ?_
              rintro e w2 ⟨rfl, hK2, n, hn1', hn2', hD2⟩
              go_wp2
              exact bodyPost_end (v := .tuple #[]) (results_none rfl _ _ _) rfl ⟨rfl, ((HK.out.setB _ _).setB _ _).trans hK2, DL, L, x1, n, tr1, ⟨hD2, hn1', fun i hi => HD1.out i (by omega) (by omega) (by have := hD2.nd; omega), HB1.out, HZ2.out, HL1.out.1⟩, by omega, HL1.out.2⟩
          have hv1 := Dec.wd_pos hwd (by omega)
          obtain ⟨v, rfl⟩ : ∃ v', v = v' + 1 := ⟨v - 1, by omega⟩
          have hp60 := HP60.out
          obtain ⟨u, hu⟩ : ∃ u, m / 10 = u := ⟨_, rfl⟩
          obtain ⟨r, hr⟩ : ∃ r, m % 10 = r := ⟨_, rfl⟩
          have hr9 : r ≤ 9 := by omega
          have hm64 : m < 18446744073709551616 := by omega
          have e3 : (m : Int) / 10 = u := by omega
          have e5 : (m : Int) - 10 * u = r := by omega
          have hw1 : ((v + 1 : Nat) : Int) - 1 = (v : Int) := by omega
          have hw2 : ((v : Int) + 1 - 1) = (v : Int) := by omega
          have hmp : decide (0 < m) = true := by simp; omega
          have hu2 : u < 2 ^ k := by omega
          have hr48 : (r : Int) + 48 = ((48 + r : Nat) : Int) := by omega
          have HWD := Lib.hid (show Dec.Wd u v by rw [← hu]; exact Dec.wd_div hwd)
          have HLD1 := Lib.hid (show 1 ≤ v → u / 10 ^ (v - 1) = L by
            intro h1
            rw [← hu, Dec.lead_div, show v - 1 + 1 = v + 1 - 1 by omega]
            exact hld (by omega))
          have HZ2 := Lib.hid (show v = 0 → r = L by
            intro h0
            subst h0
            have h2 := Dec.wd_one hwd
            have h3 := hld (Nat.le_refl _)
            rw [show 0 + 1 - 1 = 0 from rfl, Nat.pow_zero, Nat.div_one] at h3
            rw [← hr, h3]; omega)
          have HMS := Lib.hid (show (intOf (Value.int .i64 (v : Int))).toNat < (intOf (Value.int .i64 ((v + 1 : Nat) : Int))).toNat by simp [intOf])
          have h8 : v < 800 := by omega
          have d8 : decide (v < 800) = true := by simp; omega
          have hcw := hD.byte h8
          clear hD hK hdig hbyt hwd hld hz hm hv1
          go_wp2
          go_roundw
          case rel =>
            refine ⟨v, u, upd x1 v (48 + r), tr1, rfl, rfl, by omega, hu2, HWD.out, HLD1.out, fun e => ?_, fun i hi => ?_, fun i h1 h2 h3 => ?_, HD.out.setByte h8 _, HK.out.setB _ _⟩
            · have := HZ2.out e; rw [e]; simp [upd, this]
            · simp only [upd]; split
              · omega
              · exact HB1.out i hi
            · simp only [upd]; split
              · omega
              · exact HD1.out i (by omega) h2 h3
          case measure => exact HMS.out
      obtain ⟨q, rfl⟩ : ∃ q', q = q' + 1 := ⟨q - 1, by omega⟩
      have hxq := hsame q (by omega)
      obtain ⟨d, hd⟩ : ∃ d, x q = 48 + d := ⟨x q - 48, by have := HS.out.dig q (by omega); omega⟩
      have hd9 : d ≤ 9 := by have := HS.out.dig q (by omega); omega
      have hbc := hD.byte (i := q) (by omega)
      rw [hxq, hd] at hbc
      have f0 := hD.fz
      have HD := Lib.hid hD
      have HK := Lib.hid hK
      obtain ⟨a, haa⟩ : ∃ a, d * 2 ^ k = a := ⟨_, rfl⟩
      have ha9 : a ≤ 9 * 2 ^ k := by rw [← haa]; exact Nat.mul_le_mul_right _ hd9
      have hp60 := HP60.out
      obtain ⟨n1, hn1a⟩ : ∃ n1, m + a = n1 := ⟨_, rfl⟩
      obtain ⟨u, hu⟩ : ∃ u, n1 / 10 = u := ⟨_, rfl⟩
      obtain ⟨v, hv⟩ : ∃ v, n1 % 10 = v := ⟨_, rfl⟩
      have hv9 : v ≤ 9 := by omega
      have hn64 : n1 < 18446744073709551616 := by omega
      have e1 : IntKind.u64.wrap ((48 + (d : Int) - 48) * 2 ^ k) = a := by
        rw [show (48 + (d : Int) - 48) * 2 ^ k = ((d * 2 ^ k : Nat) : Int) by rw [show (48 + (d : Int) - 48) = (d : Int) by omega]; push_cast; rfl, haa]
        rw [IntKind.wrap_u64]; omega
      have e2 : IntKind.u64.wrap ((m : Int) + a) = n1 := by rw [IntKind.wrap_u64]; omega
      have e3 : (n1 : Int) / 10 = u := by omega
      have e5 : (n1 : Int) - 10 * u = v := by omega
      have hw1 : ((q : Int) + 1 + DL - 1) = ((q + DL : Nat) : Int) := by omega
      have hdq : dgt x q = d := by simp only [dgt]; omega
      have hst := Dec.step_div (dgt x) q m (2 ^ k)
      rw [hdq, haa, hn1a, hu, hv] at hst
      have HST := Lib.hid hst
      have HWD := Lib.hid (show Dec.Wd (Dec.pv (dgt x) q * 2 ^ k + u) (q + DL) by
        rw [← hst.1]; exact Dec.wd_div (by rw [show q + DL + 1 = q + 1 + DL by omega]; exact hwd))
      have HLD1 := Lib.hid (show 1 ≤ q + DL → (Dec.pv (dgt x) q * 2 ^ k + u) / 10 ^ (q + DL - 1) = L by
        intro h1
        rw [← hst.1, Dec.lead_div, show q + DL - 1 + 1 = q + 1 + DL - 1 by omega]
        exact hld (by omega))
      have HZ := Lib.hid (show q + DL = 0 → v = L by
        intro h0
        have h1 : q + 1 + DL = 1 := by omega
        rw [h1] at hwd hld
        have h2 := Dec.wd_one hwd
        have h3 := hld (Nat.le_refl _)
        rw [show 1 - 1 = 0 from rfl, Nat.pow_zero, Nat.div_one] at h3
        rw [← hst.2, h3]; omega)
      have hu2 : u < 2 ^ k := by omega
      have hv48 : (v : Int) + 48 = ((48 + v : Nat) : Int) := by omega
      have HD1 := Lib.hid hdig
      have HB1 := Lib.hid hbyt
      have HSM := Lib.hid hsame
      have c3 := hD.c3
      have hms : (intOf (Value.int .i64 ((q : Int) - 1)) + 1).toNat < (intOf (Value.int .i64 (((q + 1 : Nat) : Int) - 1)) + 1).toNat := by simp [intOf]
      have HMS := Lib.hid hms
      by_cases h8 : q + DL < 800
      · have d8 : decide (q + DL < 800) = true := by simp; omega
        have hcw := hD.byte h8
        clear hD hK haa hn1a hdig hbyt hsame hwd hld hz hst hms hdq hm
        go_wp2
        go_roundw
        case rel =>
          refine ⟨q, u, upd x1 (q + DL) (48 + v), tr1, rfl, rfl, rfl, by omega, hu2, HWD.out, HLD1.out, fun e => ?_, fun i hi => ?_, fun i hi => ?_, fun i h1 h2 h3 => ?_, HD.out.setByte h8 _, HK.out.setB _ _⟩
          · have := HZ.out e; rw [e]; simp [upd, this]
          · have := HSM.out i (by omega); simp [upd]; rw [if_neg (by omega)]; exact this
          · simp only [upd]; split
            · omega
            · exact HB1.out i hi
          · simp only [upd]; split
            · omega
            · exact HD1.out i (by omega) h2 h3
        case measure => exact HMS.out
      · have d8 : decide (q + DL < 800) = false := by simp; omega
        by_cases hv0 : v = 0
        · have b0 : ((v : Int) != 0) = false := by simp; omega
          clear hD hK haa hn1a hdig hbyt hsame hwd hld hz hst hms hdq hm
          go_wp2
          go_roundw
          case rel => exact ⟨q, u, x1, tr1, rfl, rfl, rfl, by omega, hu2, HWD.out, HLD1.out, fun e => by omega, fun i hi => HSM.out i (by omega), HB1.out, fun i h1 h2 h3 => by omega, HD.out, HK.out⟩
          case measure => exact HMS.out
        · have b0 : ((v : Int) != 0) = true := by simp; omega
          clear hD hK haa hn1a hdig hbyt hsame hwd hld hz hst hms hdq hm
          go_wp2
          go_roundw
          case rel => exact ⟨q, u, x1, true, rfl, rfl, rfl, by omega, hu2, HWD.out, HLD1.out, fun e => by omega, fun i hi => HSM.out i (by omega), HB1.out, fun i h1 h2 h3 => by omega, HD.out.setTr true, HK.out.setB _ _⟩
          case measure => exact HMS.out
end
end Go.Proofs.YtcgibcjpkhefpaaGreatDoor

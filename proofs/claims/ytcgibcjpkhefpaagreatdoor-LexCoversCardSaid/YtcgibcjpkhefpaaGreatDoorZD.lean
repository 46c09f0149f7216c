/-
  rightShift (200): a decimal over a power of two.
  Shift (195), shouldRoundUp (201) and RoundedInteger (196) of a decimal that is not 0.
-/
import Derived.Test.YtcgibcjpkhefpaaGreatDoorZC
import Derived.Deep.LoopGhost
import Derived.Laws.BitsAllLaws
namespace Go.Proofs.YtcgibcjpkhefpaaGreatDoor
open Go.RowKit
section
variable {D d0 g o c : Nat} {x : Nat → Nat} {nd : Nat} {dp : Int} {ng tr : Bool} {w : World}
theorem and_mask {k m P : Nat} (hP : 2 ^ k = P) (hP60 : P ≤ 2 ^ 60) (hm : m < 18446744073709551616) : bits .and .u64 (m : Int) ((P : Int) - 1) = ((m % P : Nat) : Int) := by
  have h0 : 0 < P := by rw [← hP]; exact Nat.pow_pos (by decide)
  rw [show (P : Int) - 1 = ((P - 1 : Nat) : Int) by omega, u64_and_nat m (P - 1) hm (by omega), ← hP, Nat.and_two_pow_sub_one_eq_mod]
theorem dvd_step {j k m : Nat} (h : 2 ^ j ∣ m) (hj : j ≤ k) : 2 ^ (j + 1) ∣ m % 2 ^ k * 10 := by
  have h1 : 2 ^ j ∣ m % 2 ^ k := (Nat.dvd_mod_iff (Nat.pow_dvd_pow 2 hj)).2 h
  rw [Nat.pow_succ]
  exact Nat.mul_dvd_mul h1 (by decide)
set_option maxHeartbeats 8000000 in
set_option maxRecDepth 100000 in
theorem right_any (w : World) (k : Nat) (h : DOk D d0 dp x nd ng tr w) (hk1 : 1 ≤ k) (hk2 : k ≤ 60) (hdp : -1000000000000 ≤ dp ∧ dp ≤ 1000000000000) :
    Calls Tryz.prog 200 #[.pointer (some ⟨D, 0, none⟩), .int .u64 k] w fun e w' => e = .returned (.tuple #[]) ∧ Kf (So D) w w' ∧ ∃ (dp' : Int) (d0' : Nat) (x' : Nat → Nat) (nd' : Nat) (tr' : Bool), DOk D d0' dp' x' nd' ng tr' w' ∧ dp - 900 ≤ dp' ∧ (dp' < dp ∨ dp' = dp ∧ d0' < d0) := by
  have HS := Lib.hid h
  have hnd := h.dc.nd
  have hn1 := h.n1
  have hp60 : 2 ^ k ≤ 2 ^ 60 := Nat.pow_le_pow_right (by decide) hk2
  have hp0 : 0 < 2 ^ k := Nat.pow_pos (by decide)
  obtain ⟨P, hP⟩ : ∃ P, 2 ^ k = P := ⟨_, rfl⟩
  have pI : (2 : Int) ^ k = (P : Int) := by rw [← hP]; push_cast; rfl
  rw [hP] at hp60 hp0
  have c0 := h.dc.c0
  have c1 := h.dc.c1
  have f0 := h.dc.fz
  have HP := Lib.hid hP
  have hd0 : x 0 = 48 + d0 := h.x0
  have hd9 := h.d9
  have hd1 := h.d1
  clear h hP
  go_enter Tryz.func200, Tryz.ntmps200
  go_wp2
  go_loopw [4, 6] (fun r n wr => ∃ q m : Nat, r = .int .i64 (q : Int) ∧ n = .int .u64 (m : Int) ∧ w = wr ∧ q ≤ nd ∧ m < 10 * P ∧ (q = 0 → m = 0) ∧ (1 ≤ q → 1 ≤ m) ∧ (q = 1 → m = d0)) (fun r _ _ => 801 - (intOf r).toNat)
  case atStart => exact ⟨0, 0, rfl, rfl, rfl, by omega, by omega, fun _ => rfl, fun h => by omega, fun h => by omega⟩
  case round =>
    obtain ⟨q, m, rfl, rfl, rfl, hq, hm, hz, h1, h1d⟩ := hrel
    rcases Nat.lt_or_ge m P with hmP | hmP
    case' inl =>
      have b1 : ((m : Int) / P == 0) = true := by
        have : (m : Int) / P = 0 := Int.ediv_eq_zero_of_lt (by omega) (by omega)
        simp [this]
      have b1n : m / P = 0 := Nat.div_eq_of_lt hmP
      by_cases hqn : q < nd
      case' pos =>
        have d1 : decide (nd ≤ q) = false := by simp; omega
        obtain ⟨d, hd⟩ : ∃ d, x q = 48 + d := ⟨x q - 48, by have := HS.out.dig q (by omega); omega⟩
        have hd9 : d ≤ 9 := by have := HS.out.dig q (by omega); omega
        have hbc := HS.out.dc.byte (i := q) (by omega)
        rw [hd] at hbc
        have hqd : q = 0 → d = d0 := by intro e; subst e; omega
        go_wp2
        go_roundw
        case rel => exact ⟨q + 1, m * 10 + d, by simp, congrArg (Value.int .u64) (by omega), trivial, by omega, by omega, by omega, fun _ => by omega, fun _ => by omega⟩
        case measure => simp [intOf]; omega
      case' neg =>
        have d1 : decide (nd ≤ q) = true := by simp; omega
        have b2 : ((m : Int) == 0) = false := by simp; omega
        have b2n : (m == 0) = false := by simp; omega
        go_wp2
        go_loopw [4, 6] (fun r n wv => ∃ q m : Nat, r = .int .i64 (q : Int) ∧ n = .int .u64 (m : Int) ∧ w = wv ∧ nd ≤ q ∧ q ≤ nd + 60 ∧ 1 ≤ m ∧ m < 10 * P ∧ 2 ^ (q - nd) ≤ m ∧ (q = nd → m < P)) (fun _ n _ => 10 * P - (intOf n).toNat)
        case' atStart => exact ⟨q, m, rfl, rfl, rfl, by omega, by omega, by omega, by omega, by rw [show q - nd = 0 by omega]; omega, fun _ => hmP⟩
        case' round =>
          clear b1 b1n b2 b2n hz h1 h1d hmP hm hq d1 hqn
          obtain ⟨q, m, rfl, rfl, rfl, hq1, hq2, hm1, hm, hpow, hqP⟩ := hrel
          rcases Nat.lt_or_ge m P with hmP | hmP
          case' inl =>
            have b1 : ((m : Int) / P == 0) = true := by
              have : (m : Int) / P = 0 := Int.ediv_eq_zero_of_lt (by omega) (by omega)
              simp [this]
            have b1n : m / P = 0 := Nat.div_eq_of_lt hmP
            have hqk : q - nd < k := by
              have h2 : 2 ^ (q - nd) < 2 ^ k := by rw [HP.out]; omega
              exact (Nat.pow_lt_pow_iff_right (by decide)).1 h2
            go_wp2
            go_roundw
            case rel => exact ⟨q + 1, m * 10, by simp, congrArg (Value.int .u64) (by omega), trivial, by omega, by omega, by omega, by omega, by rw [show q + 1 - nd = q - nd + 1 by omega, Nat.pow_succ]; omega, fun _ => by omega⟩
            case measure => simp [intOf]; omega
          case' inr =>
            have b1 : ((m : Int) / P == 0) = false := by
              have : 1 ≤ m / P := by rw [Nat.le_div_iff_mul_le hp0]; omega
              have : (1 : Int) ≤ (m : Int) / P := by exact_mod_cast this
              simp; omega
            have hA1 : 2 ≤ q := by omega
            have hA5 : q = 1 → m = d0 := by omega
            have hA1 : 1 ≤ q := by omega
            clear hq1 hm1 hpow hqP
            go_wp2
    case' inr =>
      have b1 : ((m : Int) / P == 0) = false := by
        have : 1 ≤ m / P := by rw [Nat.le_div_iff_mul_le hp0]; omega
        have : (1 : Int) ≤ (m : Int) / P := by exact_mod_cast this
        simp; omega
      have hA1 : 1 ≤ q := by omega
      have hA5 := h1d
      have hq2 : q ≤ nd + 60 := by omega
      clear hz h1 h1d hq
      go_wp2
    all_goals
      clear b1
      obtain ⟨dp', hdp'⟩ : ∃ dp', dp - ((q : Int) - 1) = dp' := ⟨_, rfl⟩
      have hmd1 : 1 ≤ m / P := by rw [Nat.le_div_iff_mul_le hp0]; omega
      have hmd2 : m / P < 10 := by rw [Nat.div_lt_iff_lt_mul hp0]; omega
      have hmd : 1 ≤ m / P ∧ m / P ≤ 9 := ⟨hmd1, by omega⟩
      clear hmd1 hmd2
      obtain ⟨L, hL⟩ : ∃ L, m / P = L := ⟨_, rfl⟩
      have hL2 : q = 1 → L < d0 := by
        intro e
        have hmd0 := hA5 e
        rw [← hL, hmd0]
        have h2 : 2 ^ 1 ≤ 2 ^ k := Nat.pow_le_pow_right (by decide) hk1
        have h3 : 2 ≤ P := by rw [← HP.out]; exact h2
        exact Nat.div_lt_self (by omega) (by omega)
      rw [hL] at hmd
      have HL := Lib.hid hL
      have HL2 := Lib.hid hL2
      have HQ := Lib.hid hdp'
      have HD0 := Lib.hid (HS.out.dc.setDp dp')
      have HK0 := Lib.hid ((Kf.refl (So D) w).setB 801 (.int .i64 dp'))
      rw [hdp']
      generalize w.setCell ⟨D, 801, none⟩ (.int .i64 dp') = w1 at *
      clear hL hL2 hA5 hdp' c0 c1 f0
      go_loopw [4, 5, 6] (fun r v n wr => ∃ (v3 m3 : Nat) (x1 : Nat → Nat), r = .int .i64 ((q + v3 : Nat) : Int) ∧ v = .int .i64 (v3 : Int) ∧ n = .int .u64 (m3 : Int) ∧ (v3 = 0 ∨ q + v3 ≤ nd) ∧ m3 < 10 * P ∧ (v3 = 0 → m3 = m) ∧ (1 ≤ v3 → x1 0 = 48 + L) ∧ (∀ i, v3 ≤ i → x1 i = x i) ∧ (∀ i, i < 800 → x1 i < 256) ∧ (∀ i, i < v3 → 48 ≤ x1 i ∧ x1 i ≤ 57) ∧ Dc D x1 nd dp' ng tr wr ∧ Kf (So D) w wr) (fun r _ _ _ => 1000 - (intOf r).toNat)
      case' atStart => exact ⟨0, m, x, by simp, rfl, rfl, Or.inl rfl, hm, fun _ => rfl, fun h => by omega, fun _ _ => rfl, HS.out.byt, fun i hi => by omega, HD0.out, HK0.out⟩
      case' round =>
        obtain ⟨v3, m3, x1, rfl, rfl, rfl, hv, hm3, hv0, hv1, hsame, hbyt, hdig, hD, hK⟩ := hrel
        have HD := Lib.hid hD
        have HK := Lib.hid hK
        have HD1 := Lib.hid hdig
        have HB1 := Lib.hid hbyt
        have HSM := Lib.hid hsame
        have HV0 := Lib.hid hv0
        have HV1 := Lib.hid hv1
        have f0 := hD.fz
        have c0 := hD.c0
        have c3 := hD.c3
        by_cases hlt : q + v3 < nd
        · have d1 : decide (q + v3 < nd) = true := by simp; omega
          have hdq := HS.out.dig (q + v3) hlt
          have hxq := hsame (q + v3) (by omega)
          obtain ⟨d, hd⟩ : ∃ d, x (q + v3) = 48 + d := ⟨x (q + v3) - 48, by omega⟩
          have hd9 : d ≤ 9 := by omega
          have hbc := hD.byte (i := q + v3) (by omega)
          rw [hxq, hd] at hbc
          have hbw := hD.byte (i := v3) (by omega)
          have hand := and_mask HP.out hp60 (show m3 < 18446744073709551616 by omega)
          obtain ⟨y, hy⟩ : ∃ y, m3 % P = y := ⟨_, rfl⟩
          obtain ⟨z, hz⟩ : ∃ z, m3 / P = z := ⟨_, rfl⟩
          have hyP : y < P := by rw [← hy]; exact Nat.mod_lt _ hp0
          have hz9 : z ≤ 9 := by
            have h2 : m3 / P < 10 := by rw [Nat.div_lt_iff_lt_mul hp0]; omega
            omega
          have hzI : (m3 : Int) / P = (z : Int) := by rw [← hz]; exact_mod_cast rfl
          have hz48 : (z : Int) + 48 = ((48 + z : Nat) : Int) := by omega
          have HZ0 := Lib.hid (show v3 = 0 → z = L by intro e; rw [← hz, hv0 e]; exact HL.out)
          rw [hy] at hand
          clear hD hK hdig hbyt hsame hv0 hv1 hy hz hdq
          go_wp2
          go_roundw
          case rel =>
            refine ⟨v3 + 1, y * 10 + d, upd x1 v3 (48 + z), congrArg (Value.int .i64) (by omega), congrArg (Value.int .i64) (by omega), congrArg (Value.int .u64) (by omega), Or.inr (by omega), by omega, fun h => by omega, fun _ => ?_, fun i hi => ?_, fun i hi => ?_, fun i hi => ?_, HD.out.setByte (by omega) _, HK.out.setB _ _⟩
            · by_cases e : v3 = 0
              · have := HZ0.out e; subst e; simp [upd, this]
              · simp only [upd]; rw [if_neg (by omega)]; exact HV1.out (by omega)
            · simp only [upd]; rw [if_neg (by omega)]; exact HSM.out i (by omega)
            · simp only [upd]; split
              · omega
              · exact HB1.out i hi
            · simp only [upd]; split
              · omega
              · exact HD1.out i (by omega)
          case measure => simp [intOf]; omega
        · have d1 : decide (q + v3 < nd) = false := by simp; omega
          have hv8 : v3 ≤ 800 := by omega
          clear hD hK hdig hbyt hsame hv0 hv1
          go_wp2
          go_loopg [5, 6] (k + 1) (fun t v n wv => ∃ (v4 m4 : Nat) (x1 : Nat → Nat) (tr1 : Bool), v = .int .i64 (v4 : Int) ∧ n = .int .u64 (m4 : Int) ∧ v4 ≤ 800 ∧ m4 < 10 * P ∧ t ≤ k + 1 ∧ 2 ^ (k + 1 - t) ∣ m4 ∧ (t = 0 → m4 = 0) ∧ (v4 = 0 → m4 = m) ∧ (1 ≤ v4 → x1 0 = 48 + L) ∧ (∀ i, i < 800 → x1 i < 256) ∧ (∀ i, i < v4 → 48 ≤ x1 i ∧ x1 i ≤ 57) ∧ Dc D x1 nd dp' ng tr1 wv ∧ Kf (So D) w wv)
          case' atStart => exact ⟨v3, m3, x1, tr, rfl, rfl, hv8, hm3, Nat.le_refl _, by rw [Nat.sub_self]; exact Nat.one_dvd _, fun h => by omega, HV0.out, HV1.out, HB1.out, HD1.out, HD.out, HK.out⟩
          case' round =>
            clear f0 c0 c3
            obtain ⟨v4, m4, x2, tr1, rfl, rfl, hv4, hm4, ht, hdv, ht0, hv40, hv41, hbyt, hdig, hD, hK⟩ := hrel
            have HD := Lib.hid hD
            have HK := Lib.hid hK
            have HD1 := Lib.hid hdig
            have HB1 := Lib.hid hbyt
            have HV0 := Lib.hid hv40
            have HV1 := Lib.hid hv41
            have f0 := hD.fz
            have c0 := hD.c0
            have c3 := hD.c3
            by_cases hm0 : m4 = 0
            · subst hm0
              have hv1 : 1 ≤ v4 := by
                rcases Nat.eq_zero_or_pos v4 with h | h
                · have := hv40 h; omega
                · exact h
              have HX0 := Lib.hid (hv41 hv1)
              clear hD hK hdig hbyt hv40 hv41 hdv ht0
              go_wp2_with fail
              refine (trim_any _ (HD.out.setNd (n := (v4 : Int)) (m := v4) rfl hv4) HB1.out hv1 (by rw [HX0.out]; omega)).mono ?_
              rintro e w2 ⟨rfl, hK2, n, hn1', hn2', hD2⟩
              go_wp2
              refine bodyPost_end (v := .tuple #[]) (results_none rfl _ _ _) rfl ⟨rfl, (HK.out.setB _ _).trans hK2, dp', L, x2, n, tr1, ⟨hD2, hn1', fun i hi => HD1.out i (by omega), HB1.out, HX0.out, hmd.1⟩, by have := HQ.out; omega, ?_⟩
              by_cases hq1 : q = 1
              · exact Or.inr ⟨by have := HQ.out; omega, HL2.out hq1⟩
              · exact Or.inl (by have := HQ.out; omega)
            · have dpos : decide (0 < m4) = true := by simp; omega
              have hand := and_mask HP.out hp60 (show m4 < 18446744073709551616 by omega)
              obtain ⟨y, hy⟩ : ∃ y, m4 % P = y := ⟨_, rfl⟩
              obtain ⟨z, hz⟩ : ∃ z, m4 / P = z := ⟨_, rfl⟩
              have hyP : y < P := by rw [← hy]; exact Nat.mod_lt _ hp0
              have hz9 : z ≤ 9 := by
                have h2 : m4 / P < 10 := by rw [Nat.div_lt_iff_lt_mul hp0]; omega
                omega
              have hzI : (m4 : Int) / P = (z : Int) := by rw [← hz]; exact_mod_cast rfl
              have hz48 : (z : Int) + 48 = ((48 + z : Nat) : Int) := by omega
              have HZ0 := Lib.hid (show v4 = 0 → z = L by intro e; rw [← hz, hv40 e]; exact HL.out)
              have hgk1 : 1 ≤ gk := by
                rcases Nat.eq_zero_or_pos gk with h | h
                · exact absurd (ht0 h) hm0
                · exact h
              have HDV := Lib.hid (show 2 ^ (k + 1 - (gk - 1)) ∣ y * 10 by
                have h2 := dvd_step hdv (k := k) (by omega)
                rw [HP.out, hy] at h2
                rwa [show k + 1 - (gk - 1) = k + 1 - gk + 1 by omega])
              have HT0 := Lib.hid (show gk - 1 = 0 → y * 10 = 0 by
                intro e
                have e1 : k + 1 - gk = k := by omega
                rw [e1, HP.out] at hdv
                rw [← hy, Nat.mod_eq_zero_of_dvd hdv])
              rw [hy] at hand
              by_cases h8 : v4 < 800
              · have d8 : decide (v4 < 800) = true := by simp; omega
                have hbw := hD.byte (i := v4) h8
                clear hD hK hdig hbyt hv40 hv41 hdv ht0 hy hz
                go_wp2
                go_roundg (gk - 1)
                case measure => omega
                case rel =>
                  refine ⟨v4 + 1, y * 10, upd x2 v4 (48 + z), tr1, congrArg (Value.int .i64) (by omega), congrArg (Value.int .u64) (by omega), by omega, by omega, by omega, HDV.out, HT0.out, fun h => by omega, fun _ => ?_, fun i hi => ?_, fun i hi => ?_, HD.out.setByte h8 _, HK.out.setB _ _⟩
                  · by_cases e : v4 = 0
                    · have := HZ0.out e; subst e; simp [upd, this]
                    · simp only [upd]; rw [if_neg (by omega)]; exact HV1.out (by omega)
                  · simp only [upd]; split
                    · omega
                    · exact HB1.out i hi
                  · simp only [upd]; split
                    · omega
                    · exact HD1.out i (by omega)
              · have d8 : decide (v4 < 800) = false := by simp; omega
                by_cases hz0 : z = 0
                · have b0 : decide (0 < z) = false := by simp; omega
                  clear hD hK hdig hbyt hv40 hv41 hdv ht0 hy hz
                  go_wp2
                  go_roundg (gk - 1)
                  case measure => omega
                  case rel => exact ⟨v4, y * 10, x2, tr1, rfl, congrArg (Value.int .u64) (by omega), by omega, by omega, by omega, HDV.out, HT0.out, fun h => by omega, HV1.out, HB1.out, HD1.out, HD.out, HK.out⟩
                · have b0 : decide (0 < z) = true := by simp; omega
                  clear hD hK hdig hbyt hv40 hv41 hdv ht0 hy hz
                  go_wp2
                  go_roundg (gk - 1)
                  case measure => omega
                  case rel => exact ⟨v4, y * 10, x2, true, rfl, congrArg (Value.int .u64) (by omega), by omega, by omega, by omega, HDV.out, HT0.out, fun h => by omega, HV1.out, HB1.out, HD1.out, HD.out.setTr true, HK.out.setB _ _⟩
end
end Go.Proofs.YtcgibcjpkhefpaaGreatDoor
namespace Go.Proofs.YtcgibcjpkhefpaaGreatDoor
open Go.RowKit
section
variable {D d0 g o c : Nat} {x : Nat → Nat} {nd : Nat} {dp : Int} {ng tr : Bool} {w : World}
set_option maxHeartbeats 2000000 in
set_option maxRecDepth 100000 in
theorem shift_left (w : World) (k : Nat) (h : DOk D d0 dp x nd ng tr w) (hL : LC g o c w) (hgD : g ≠ D) (h18 : 18 ≠ D) (hk1 : 1 ≤ k) (hk2 : k ≤ 60) (hdp : -1000000000000 ≤ dp ∧ dp ≤ 1000000000000) :
    Calls Tryz.prog 195 #[.pointer (some ⟨D, 0, none⟩), .int .i64 k] w fun e w' => e = .returned (.tuple #[]) ∧ Kf (So D) w w' ∧ ∃ (delta d0' : Nat) (x' : Nat → Nat) (nd' : Nat) (tr' : Bool), DOk D d0' (dp + delta) x' nd' ng tr' w' ∧ delta ≤ 60 ∧ (delta = 0 → 2 * d0 ≤ d0') := by
  have c0 := h.dc.c0
  have hn1 := h.n1
  have b0 : ((nd : Int) == 0) = false := by simp; omega
  have b1 : decide (0 < k) = true := by simp; omega
  have b2 : decide ((60 : Int) < k) = false := by simp; omega
  have HA := Lib.hid (left_any w k h hL hgD h18 hk1 hk2 hdp)
  clear h hL
  go_enter Tryz.func195, Tryz.ntmps195
  go_wp2
  go_loopw [1] (fun s wr => s = .int .i64 k ∧ w = wr) (fun _ _ => 0)
  case atStart => exact ⟨rfl, rfl⟩
  case round =>
    obtain ⟨rfl, rfl⟩ := hrel
    go_wp2_with fail
    refine HA.out.mono ?_
    rintro e w1 ⟨rfl, hP⟩
    go_wp2
    exact bodyPost_end (v := .tuple #[]) (results_none rfl _ _ _) rfl ⟨rfl, hP⟩
set_option maxHeartbeats 2000000 in
set_option maxRecDepth 100000 in
theorem shift_right (w : World) (n : Nat) (h : DOk D d0 dp x nd ng tr w) (hk1 : 1 ≤ n) (hk2 : n ≤ 1000000) (hdp : -10000000000 ≤ dp ∧ dp ≤ 10000000000) :
    Calls Tryz.prog 195 #[.pointer (some ⟨D, 0, none⟩), .int .i64 (-(n : Int))] w fun e w' => e = .returned (.tuple #[]) ∧ Kf (So D) w w' ∧ ∃ (dp' : Int) (d0' : Nat) (x' : Nat → Nat) (nd' : Nat) (tr' : Bool), DOk D d0' dp' x' nd' ng tr' w' ∧ dp - 900 * ((n + 59) / 60 : Nat) ≤ dp' ∧ (dp' < dp ∨ dp' = dp ∧ d0' < d0) := by
  have c0 := h.dc.c0
  have hn1 := h.n1
  have b0 : ((nd : Int) == 0) = false := by simp; omega
  have b1 : decide ((n : Int) < 0) = false := by simp
  have b2 : decide (0 < n) = true := by simp; omega
  have HS := Lib.hid h
  clear h
  go_enter Tryz.func195, Tryz.ntmps195
  go_wp2
  go_loopw [1] (fun s wr => ∃ (m : Nat) (dp1 : Int) (d1 : Nat) (x1 : Nat → Nat) (nd1 : Nat) (tr1 : Bool), s = .int .i64 (-(m : Int)) ∧ 1 ≤ m ∧ m ≤ n ∧ DOk D d1 dp1 x1 nd1 ng tr1 wr ∧ dp - 900 * ((n - m + 59) / 60 : Nat) ≤ dp1 ∧ (n - m) % 60 = 0 ∧ (dp1 < dp ∨ dp1 = dp ∧ d1 < d0 ∨ m = n ∧ dp1 = dp ∧ d1 = d0) ∧ Kf (So D) w wr) (fun s _ => (-(intOf s)).toNat)
  case atStart => exact ⟨n, dp, d0, x, nd, tr, rfl, hk1, Nat.le_refl _, HS.out, by omega, by omega, Or.inr (Or.inr ⟨rfl, rfl, rfl⟩), Kf.refl _ _⟩
  case round =>
    obtain ⟨m, dp1, d1, x1, nd1, tr1, rfl, hm1, hm2, hD, hdp1, hmod, hlex, hK⟩ := hrel
    have HD := Lib.hid hD
    have HK := Lib.hid hK
    clear hD hK
    by_cases h60 : 60 < m
    · have b3 : decide (60 < m) = true := by simp; omega
      go_wp2_with fail
      refine (right_any _ 60 HD.out (by omega) (by omega) (by omega)).mono ?_
      rintro e w1 ⟨rfl, hK2, dp2, d2, x2, nd2, tr2, hD2, hb, hl⟩
      go_wp2
      go_roundw
      case rel => exact ⟨m - 60, dp2, d2, x2, nd2, tr2, congrArg (Value.int .i64) (by omega), by omega, by omega, hD2, by omega, by omega, by omega, HK.out.trans hK2⟩
      case measure => simp [intOf]; omega
    · have b3 : decide (60 < m) = false := by simp; omega
      go_wp2_with fail
      refine (right_any _ m HD.out (by omega) (by omega) (by omega)).mono ?_
      rintro e w1 ⟨rfl, hK2, dp2, d2, x2, nd2, tr2, hD2, hb, hl⟩
      go_wp2
      exact bodyPost_end (v := .tuple #[]) (results_none rfl _ _ _) rfl ⟨rfl, HK.out.trans hK2, dp2, d2, x2, nd2, tr2, hD2, by omega, by omega⟩
theorem wrapV (E : Int) : Value.int .u64 (IntKind.u64.wrap E) = Value.int .u64 (((IntKind.u64.wrap E).toNat : Nat) : Int) := congrArg (Value.int .u64) (by rw [IntKind.wrap_u64]; omega)
theorem wrapB (E : Int) : (IntKind.u64.wrap E).toNat < 18446744073709551616 := by rw [IntKind.wrap_u64]; omega
/-- Some bool is returned, nothing is written. -/
def BoolPost (w : World) (e : Ending) (w' : World) : Prop := (∃ b, e = .returned (.bool b)) ∧ w' = w
/-- Some number is returned, nothing is written. -/
def U64Post (w : World) (e : Ending) (w' : World) : Prop := (∃ n : Nat, n < 18446744073709551616 ∧ e = .returned (.int .u64 n)) ∧ w' = w
set_option maxHeartbeats 2000000 in
set_option maxRecDepth 100000 in
theorem sru_any (w : World) (p : Int) (h : Dc D x nd dp ng tr w) (hp : -1000000000000 ≤ p ∧ p ≤ 1000000000000) :
    Calls Tryz.prog 201 #[.pointer (some ⟨D, 0, none⟩), .int .i64 p] w (BoolPost w) := by
  have c0 := h.c0
  have c3 := h.c3
  have hnd := h.nd
  by_cases hneg : p < 0
  · have b0 : decide (p < 0) = true := by simp; omega
    go_enter Tryz.func201, Tryz.ntmps201
    go_wp2
    go_ret
    exact ⟨⟨_, rfl⟩, rfl⟩
  obtain ⟨q, rfl⟩ : ∃ q : Nat, p = q := ⟨p.toNat, by omega⟩
  have b0 : decide ((q : Int) < 0) = false := by simp
  by_cases hq : nd ≤ q
  · have b1 : decide (nd ≤ q) = true := by simp; omega
    go_enter Tryz.func201, Tryz.ntmps201
    go_wp2
    go_ret
    exact ⟨⟨_, rfl⟩, rfl⟩
  have b1 : decide (nd ≤ q) = false := by simp; omega
  have hb := h.byte (i := q) (by omega)
  by_cases hq0 : q = 0
  · subst hq0
    go_enter Tryz.func201, Tryz.ntmps201
    go_wp2
    all_goals
      go_ret
      exact ⟨⟨_, rfl⟩, rfl⟩
  have hb1 := h.byte (i := q - 1) (by omega)
  have hI : (q : Int) - 1 = ((q - 1 : Nat) : Int) := by omega
  have b2 : decide (0 < q) = true := by simp; omega
  go_enter Tryz.func201, Tryz.ntmps201
  go_wp2
  all_goals
    go_ret
    exact ⟨⟨_, rfl⟩, rfl⟩
set_option maxHeartbeats 2000000 in
set_option maxRecDepth 100000 in
theorem rint_any (w : World) (h : Dc D x nd dp ng tr w) (hp : -1000000000000 ≤ dp ∧ dp ≤ 1000000000000) :
    Calls Tryz.prog 196 #[.pointer (some ⟨D, 0, none⟩)] w (U64Post w) := by
  have c0 := h.c0
  have c1 := h.c1
  have hnd := h.nd
  have HD := Lib.hid h
  by_cases h20 : 20 < dp
  · have b0 : decide (20 < dp) = true := by simp; omega
    go_enter Tryz.func196, Tryz.ntmps196
    go_wp2
    go_ret
    exact ⟨⟨18446744073709551615, by omega, rfl⟩, rfl⟩
  have b0 : decide (20 < dp) = false := by simp; omega
  go_enter Tryz.func196, Tryz.ntmps196
  go_wp2
  go_loopw [3, 4] (fun i n wr => ∃ j m : Nat, i = .int .i64 j ∧ n = .int .u64 m ∧ m < 18446744073709551616 ∧ j ≤ nd ∧ w = wr) (fun i _ _ => 800 - (intOf i).toNat)
  case atStart => exact ⟨0, 0, rfl, rfl, by omega, by omega, rfl⟩
  case round =>
    obtain ⟨j, m, rfl, rfl, hm, hj, rfl⟩ := hrel
    have HM := Lib.hid hm
    clear hm
    by_cases hjd : (j : Int) < dp ∧ j < nd
    · have d1 : decide ((j : Int) < dp) = true := by simp; omega
      have d2 : decide (j < nd) = true := by simp; omega
      have hb := HD.out.byte (i := j) (by omega)
      go_wp2
      go_roundw
      case rel => exact ⟨j + 1, _, congrArg (Value.int .i64) (by omega), wrapV _, wrapB _, by omega, trivial⟩
      case measure => simp [intOf]; omega
    · rcases (show ¬ (j : Int) < dp ∨ ((j : Int) < dp ∧ ¬ j < nd) by omega) with h1 | h1
      case' inl => have d1 : decide ((j : Int) < dp) = false := by simp; omega
      case' inr =>
        have d2 : decide (j < nd) = false := by simp; omega
        have d1 : decide ((j : Int) < dp) = true := by simp; omega
      all_goals
        clear h1 hjd
        go_wp2
        go_loopw [3, 4] (fun i n wv => ∃ j m : Nat, i = .int .i64 j ∧ n = .int .u64 m ∧ m < 18446744073709551616 ∧ j ≤ 1000 ∧ w = wv) (fun i _ _ => (dp - intOf i).toNat)
        case' atStart => exact ⟨j, m, rfl, rfl, HM.out, by omega, rfl⟩
        case' round =>
          obtain ⟨j, m, rfl, rfl, hm, hj, rfl⟩ := hrel
          have HM := Lib.hid hm
          clear hm
          by_cases hjd : (j : Int) < dp
          · have d1 : decide ((j : Int) < dp) = true := by simp; omega
            go_wp2
            go_roundw
            case rel => exact ⟨j + 1, _, congrArg (Value.int .i64) (by omega), wrapV _, wrapB _, by omega, trivial⟩
            case measure => simp [intOf]; omega
          · have d1 : decide ((j : Int) < dp) = false := by simp; omega
            go_wp2_with fail
            refine (sru_any _ dp HD.out hp).mono ?_
            rintro e w1 ⟨⟨b, rfl⟩, rfl⟩
            cases b
            · go_wp2
              go_ret
              exact ⟨⟨m, HM.out, rfl⟩, rfl⟩
            · go_wp2
              go_ret
              exact ⟨⟨_, wrapB _, congrArg Ending.returned (wrapV _)⟩, rfl⟩
end
end Go.Proofs.YtcgibcjpkhefpaaGreatDoor

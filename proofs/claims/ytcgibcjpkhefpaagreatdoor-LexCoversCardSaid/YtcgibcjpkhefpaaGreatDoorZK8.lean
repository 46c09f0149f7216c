/-
  The decimal's set (173) at any text that begins with the digit 0.
-/
import Derived.Test.YtcgibcjpkhefpaaGreatDoorZE
import Derived.Test.YtcgibcjpkhefpaaGreatDoorZK7
import Derived.Deep.CutBlock
import Derived.Deep.DeepCutAuto
namespace Go.Proofs.YtcgibcjpkhefpaaGreatDoor
open Go.RowKit
section
variable {D : Nat} {x : Nat → Nat} {nd : Nat} {dp : Int} {ng tr : Bool} {w : World}
/-- A decimal that is 0 or begins with a digit that is not 0. -/
structure DZ (D : Nat) (dp : Int) (x : Nat → Nat) (nd : Nat) (tr : Bool) (w : World) : Prop where
  dc : Dc D x nd dp false tr w
  dig : ∀ i, i < nd → 48 ≤ x i ∧ x i ≤ 57
  byt : ∀ i, i < 800 → x i < 256
  x0 : 1 ≤ nd → 49 ≤ x 0
theorem DZ.ok (h : DZ D dp x nd tr w) (hn : 1 ≤ nd) : DOk D (x 0 - 48) dp x nd false tr w := ⟨h.dc, hn, h.dig, h.byt, by have := h.x0 hn; omega, by have := h.x0 hn; omega⟩
theorem DZ.setDp (h : DZ D dp x nd tr w) (n : Int) : DZ D n x nd tr (w.setCell ⟨D, 801, none⟩ (.int .i64 n)) := ⟨h.dc.setDp n, h.dig, h.byt, h.x0⟩
theorem DZ.setTr (h : DZ D dp x nd tr w) (b : Bool) : DZ D dp x nd b (w.setCell ⟨D, 803, none⟩ (.bool b)) := ⟨h.dc.setTr b, h.dig, h.byt, h.x0⟩
theorem DZ.drewN (h : DZ D dp x nd tr w) (n : Nat) : DZ D dp x nd tr (w.drewN n) := ⟨h.dc.drewN n, h.dig, h.byt, h.x0⟩
theorem DZ.drew (h : DZ D dp x nd tr w) : DZ D dp x nd tr w.drew := ⟨h.dc.drew, h.dig, h.byt, h.x0⟩
theorem DZ.push {v : Nat} (h : DZ D dp x nd tr w) (h8 : nd < 800) (hv : 48 ≤ v ∧ v ≤ 57) (hn : v ≠ 48 ∨ nd ≠ 0) : DZ D dp (upd x nd v) (nd + 1) tr ((w.setCell ⟨D, nd, none⟩ (.int .u8 v)).setCell ⟨D, 800, none⟩ (.int .i64 ((nd : Int) + 1))) := by
  refine ⟨(h.dc.setByte h8 v).setNd (by omega) (by omega), fun i hi => ?_, fun i hi => ?_, fun _ => ?_⟩
  · simp only [upd]; split
    · exact hv
    · exact h.dig i (by omega)
  · simp only [upd]; split
    · omega
    · exact h.byt i hi
  · simp only [upd]; split
    · omega
    · exact h.x0 (by omega)
def SetPost (D : Nat) (w : World) (e : Ending) (w' : World) : Prop := (∃ b, e = .returned (.bool b)) ∧ Kf (So D) w w' ∧ ∃ dp x nd tr, DZ D dp x nd tr w'
theorem lower_any (c : UInt8) (w : World) : Calls Tryz.prog 187 #[.int .u8 c.toNat] w fun e w' => e = .returned (.int .u8 (c ||| 32).toNat) ∧ w' = w := by
  have h32 := or32D c
  go_enter Tryz.func187, Tryz.ntmps187
  go_wp2
  go_ret
  exact ⟨by rfl, rfl⟩
set_option maxHeartbeats 16000000 in
set_option maxRecDepth 100000 in
theorem set_any (w : World) (t : ByteArray) (ht : t.size ≤ 300000) (h0 : ∀ h : 0 < t.size, t[0]'h = 48) (h : DZ D dp x 0 tr w) :
    Calls Tryz.prog 173 #[.pointer (some ⟨D, 0, none⟩), .string t] w (SetPost D w) := by
  have f0 := h.dc.fz
  have c2 := h.dc.c2
  have c3 := h.dc.c3
  by_cases hz : t.size = 0
  · have b0n : (t.size == 0) = true := by rw [hz]; rfl
    have HS := Lib.hid h
    clear h
    go_enter Tryz.func173, Tryz.ntmps173
    go_wp2
    go_ret
    exact ⟨⟨_, rfl⟩, (((Kf.refl _ _).setB _ _).setB _ _), dp, x, 0, false, ⟨(HS.out.dc.setNg false).setTr false, HS.out.dig, HS.out.byt, HS.out.x0⟩⟩
  have hp0 : 0 < t.size := by omega
  have b0n : (t.size == 0) = false := beq_eq_false_iff_ne.2 (by omega)
  have e0 : (t[0]'hp0).toNat = 48 := by rw [h0 hp0]; rfl
  have HS := Lib.hid (show DZ D dp x 0 false ((w.setCell ⟨D, 802, none⟩ (.bool false)).setCell ⟨D, 803, none⟩ (.bool false)) from ⟨(h.dc.setNg false).setTr false, h.dig, h.byt, h.x0⟩)
  have HK := Lib.hid (show Kf (So D) w ((w.setCell ⟨D, 802, none⟩ (.bool false)).setCell ⟨D, 803, none⟩ (.bool false)) from ((Kf.refl _ _).setB _ _).setB _ _)
  clear h
  go_enter Tryz.func173, Tryz.ntmps173
  go_upto_block 1 with fail
  clear f0 c2 c3 b0n e0
  generalize World.setCell _ _ _ = w1 at *
  go_cut [5, 6, 7] (fun i d g wc => ∃ (j : Nat) (b1 b2 : Bool) (dp : Int) (x : Nat → Nat) (nd : Nat) (tr : Bool), i = .int .i64 j ∧ d = .bool b1 ∧ g = .bool b2 ∧ j ≤ t.size ∧ DZ D dp x nd tr wc ∧ Kf (So D) w wc)
  case first =>
    go_wp2_with fail
    go_loopw [5, 6, 7] (fun i d g wr => ∃ (j : Nat) (b1 b2 : Bool) (dp : Int) (x : Nat → Nat) (nd : Nat) (tr : Bool), i = .int .i64 j ∧ d = .bool b1 ∧ g = .bool b2 ∧ j ≤ t.size ∧ DZ D dp x nd tr wr ∧ Kf (So D) w wr) (fun i _ _ _ => t.size - (intOf i).toNat)
    case atStart => exact ⟨0, false, false, dp, x, 0, false, rfl, rfl, rfl, by omega, HS.out, HK.out⟩
    case round =>
      clear HS HK
      obtain ⟨j, b1, b2, dp, x, nd, tr, rfl, rfl, rfl, hj, hD, hK⟩ := hrel
      have HD := Lib.hid hD
      have HK := Lib.hid hK
      have c0 := hD.dc.c0
      have c1 := hD.dc.c1
      have c3 := hD.dc.c3
      have f0 := hD.dc.fz
      have hnd := hD.dc.nd
      clear hD hK
      rcases Nat.lt_or_ge j t.size with hlt | hge
      case' inl =>
        have d1 : decide (j < t.size) = true := by simp; omega
        obtain ⟨v, hv⟩ : ∃ v, (t[j]'hlt).toNat = v := ⟨_, rfl⟩
        have hv256 : v < 256 := by rw [← hv]; exact UInt8.toNat_lt _
        by_cases h95 : v = 95
        case' pos =>
          subst h95
          go_wp2
          go_roundw
          case rel => exact ⟨j + 1, b1, b2, dp, x, nd, tr, congrArg (Value.int .i64) (by omega), rfl, rfl, by omega, HD.out, HK.out⟩
          case measure => simp [intOf]; omega
        case' neg =>
          have e95 : (v == 95) = false := by simp; omega
          have e95I : ((v : Int) == 95) = false := by simp; omega
          by_cases h46 : v = 46
          case' pos =>
            subst h46
            cases b1
            · go_wp2
              go_roundw
              case rel => exact ⟨j + 1, true, b2, nd, x, nd, tr, congrArg (Value.int .i64) (by omega), rfl, rfl, by omega, HD.out.setDp _, HK.out.setB _ _⟩
              case measure => simp [intOf]; omega
            · go_wp2
              go_ret
              exact ⟨⟨_, rfl⟩, HK.out, dp, x, nd, tr, HD.out⟩
          case' neg =>
            have e46 : (v == 46) = false := by simp; omega
            have e46I : ((v : Int) == 46) = false := by simp; omega
            by_cases hdg : 48 ≤ v ∧ v ≤ 57
            case' pos =>
              have g1 : decide (48 ≤ v) = true := by simp; omega
              have g2 : decide (v ≤ 57) = true := by simp; omega
              have g1I : decide (48 ≤ (v : Int)) = true := by simp; omega
              have g2I : decide ((v : Int) ≤ 57) = true := by simp; omega
              by_cases hzz : v = 48 ∧ nd = 0
              · obtain ⟨rfl, rfl⟩ := hzz
                go_wp2
                go_roundw
                case rel => exact ⟨j + 1, b1, true, _, x, 0, tr, congrArg (Value.int .i64) (by omega), rfl, rfl, by omega, HD.out.setDp _, HK.out.setB _ _⟩
                case measure => simp [intOf]; omega
              · rcases (show v ≠ 48 ∨ (v = 48 ∧ nd ≠ 0) by omega) with hne | ⟨hne, hne2⟩
                case' inl =>
                  have g3 : (v == 48) = false := by simp; omega
                  have g3I : ((v : Int) == 48) = false := by simp; omega
                case' inr =>
                  have g4 : (nd == 0) = false := by simp; omega
                  subst hne
                all_goals
                  by_cases h8 : nd < 800
                  · have g5 : decide (nd < 800) = true := by simp; omega
                    have hbw := HD.out.dc.byte h8
                    have n8 : nd ≠ 800 := by omega
                    have n8' : 800 ≠ nd := by omega
                    go_wp2
                    go_region
                    all_goals
                      go_wp2
                      go_roundw
                      case rel => exact ⟨j + 1, b1, true, dp, _, nd + 1, tr, congrArg (Value.int .i64) (by omega), rfl, rfl, by omega, (HD.out.push h8 hdg (by omega)).drew, ((HK.out.setB _ _).setB _ _).drew⟩
                      case measure => simp [intOf]; omega
                  · have g5 : decide (nd < 800) = false := by simp; omega
                    go_wp2
                    go_roundw
                    case rel =>
                      first
                      | exact ⟨j + 1, b1, true, dp, x, nd, tr, congrArg (Value.int .i64) (by omega), rfl, rfl, by omega, HD.out, HK.out⟩
                      | exact ⟨j + 1, b1, true, dp, x, nd, true, congrArg (Value.int .i64) (by omega), rfl, rfl, by omega, HD.out.setTr _, HK.out.setB _ _⟩
                    case measure => simp [intOf]; omega
            case' neg =>
              have gd : decide (48 ≤ (v : Int)) = false ∨ (decide (48 ≤ (v : Int)) = true ∧ decide ((v : Int) ≤ 57) = false) := by
                rcases Nat.lt_or_ge v 48 with h | h
                · left; simp; omega
                · right; refine ⟨by simp; omega, by simp; omega⟩
              rcases gd with g1 | ⟨g1, g2⟩
              · go_wp2
                go_meet
                case rel => exact ⟨j, b1, b2, dp, x, nd, tr, rfl, rfl, rfl, by omega, HD.out, HK.out⟩
              · go_wp2
                go_meet
                case rel => exact ⟨j, b1, b2, dp, x, nd, tr, rfl, rfl, rfl, by omega, HD.out, HK.out⟩
      case' inr =>
        have d1 : decide (j < t.size) = false := by simp; omega
        go_wp2
        go_meet
        case rel => exact ⟨j, b1, b2, dp, x, nd, tr, rfl, rfl, rfl, by omega, HD.out, HK.out⟩
  case rest =>
    clear HS HK
    obtain ⟨j, b1, b2, dp, x, nd, tr, rfl, rfl, rfl, hj, hD, hK⟩ := hcut
    have HD := Lib.hid hD
    have HK := Lib.hid hK
    have c0 := hD.dc.c0
    have c1 := hD.dc.c1
    have f0 := hD.dc.fz
    clear hD hK
    cases b2
    · go_wp2
      go_ret
      exact ⟨⟨_, rfl⟩, HK.out, dp, x, nd, tr, HD.out⟩
    go_upto_if 120 with fail
    go_cut [] (fun wc => ∃ dp, DZ D dp x nd tr wc ∧ Kf (So D) w wc)
    case first =>
      cases b1
      · go_wp2
        go_meet
        case rel => exact ⟨_, HD.out.setDp _, HK.out.setB _ _⟩
      · go_wp2
        go_meet
        case rel => exact ⟨_, HD.out, HK.out⟩
    case rest =>
      clear HD HK c0 c1 f0
      obtain ⟨dp, hD, hK⟩ := hcut
      have HD := Lib.hid hD
      have HK := Lib.hid hK
      clear hD hK
      rcases Nat.lt_or_ge j t.size with hlt | hge
      · have d1 : decide (j < t.size) = true := by simp; omega
        obtain ⟨v, hv⟩ : ∃ v, (t[j]'hlt).toNat = v := ⟨_, rfl⟩
        have hjn : (j == t.size) = false := beq_eq_false_iff_ne.2 (by omega)
        have hjn2 : (j != t.size) = true := by simp; omega
        go_wp2_with fail
        refine (Tryz.internal_strconv_lower v _).mono ?_
        rintro e w2 ⟨rfl, rfl⟩
        by_cases he : bits .or .u8 (v : Int) 32 = 101
        · have he2 : (bits .or .u8 (v : Int) 32 == 101) = true := by simp [he]
          by_cases hj1 : j + 1 < t.size
          · have d2 : decide (t.size ≤ j + 1) = false := by simp; omega
            have d3 : decide ((t.size : Int) ≤ (j : Int) + 1) = false := by simp; omega
            obtain ⟨v1, hv1⟩ : ∃ v1, (t[j + 1]'hj1).toNat = v1 := ⟨_, rfl⟩
            go_upto_block 4 with fail
            go_cut [5, 8] (fun i g wc => ∃ (q : Nat) (S : Int), i = .int .i64 q ∧ g = .int .i64 S ∧ q ≤ t.size ∧ w2 = wc)
            case first =>
              go_wp2
              all_goals
                go_meet
              all_goals
                first
                | exact ⟨j + 1, _, congrArg (Value.int .i64) (by omega), rfl, by omega, rfl⟩
                | exact ⟨j + 2, _, congrArg (Value.int .i64) (by omega), rfl, by omega, rfl⟩
            case rest =>
              obtain ⟨q, S, rfl, rfl, hq, rfl⟩ := hcut
              clear d1 hv hjn hjn2 he he2 d2 d3 hv1
              by_cases hqt : q < t.size
              · have d1 : decide (t.size ≤ q) = false := by simp; omega
                have d1I : decide ((t.size : Int) ≤ (q : Int)) = false := by simp; omega
                obtain ⟨v2, hv2⟩ : ∃ v2, (t[q]'hqt).toNat = v2 := ⟨_, rfl⟩
                by_cases hd2 : 48 ≤ v2 ∧ v2 ≤ 57
                · have g1 : decide ((v2 : Int) < 48) = false := by simp; omega
                  have g2 : decide ((57 : Int) < v2) = false := by simp; omega
                  have g1n : decide (v2 < 48) = false := by simp; omega
                  have g2n : decide (57 < v2) = false := by simp; omega
                  go_upto_block 5 with fail
                  go_wp2_with fail
                  clear d1 d1I hv2 g1 g2 g1n g2n
                  go_loopw [5, 9] (fun i e wr2 => ∃ (q : Nat) (E : Int), i = .int .i64 q ∧ e = .int .i64 E ∧ q ≤ t.size ∧ w2 = wr2) (fun i _ _ => t.size - (intOf i).toNat)
                  case atStart => exact ⟨q, 0, rfl, rfl, hq, rfl⟩
                  case round =>
                    clear hqt hd2
                    obtain ⟨q, E, rfl, rfl, hq, rfl⟩ := hrel
                    have c1 := HD.out.dc.c1
                    have f0 := HD.out.dc.fz
                    rcases Nat.lt_or_ge q t.size with hlt3 | hge3
                    · have d1 : decide (q < t.size) = true := by simp; omega
                      obtain ⟨v3, hv3⟩ : ∃ v3, (t[q]'hlt3).toNat = v3 := ⟨_, rfl⟩
                      have hqn : (q == t.size) = false := beq_eq_false_iff_ne.2 (by omega)
                      have hqn2 : (q != t.size) = true := by simp; omega
                      go_wp2
                      all_goals
                        first
                        | (go_ret; exact ⟨⟨_, rfl⟩, HK.out.setB _ _, _, x, nd, tr, HD.out.setDp _⟩)
                        | (go_roundw
                           case rel => exact ⟨q + 1, _, congrArg (Value.int .i64) (by omega), rfl, by omega, trivial⟩
                           case measure => simp [intOf]; omega)
                    · have d1 : decide (q < t.size) = false := by simp; omega
                      have hqn : (q == t.size) = true := by rw [beq_iff_eq]; omega
                      have hqn2 : (q != t.size) = false := by rw [bne_eq_false_iff_eq]; omega
                      go_wp2
                      go_ret
                      exact ⟨⟨_, rfl⟩, HK.out.setB _ _, _, x, nd, tr, HD.out.setDp _⟩
                · go_wp2
                  all_goals
                    go_ret
                    exact ⟨⟨_, rfl⟩, HK.out, dp, x, nd, tr, HD.out⟩
              · have d1 : decide (t.size ≤ q) = true := by simp; omega
                have d1I : decide ((t.size : Int) ≤ (q : Int)) = true := by simp; omega
                go_wp2
                go_ret
                exact ⟨⟨_, rfl⟩, HK.out, dp, x, nd, tr, HD.out⟩
          · have d2 : decide (t.size ≤ j + 1) = true := by simp; omega
            have d3 : decide ((t.size : Int) ≤ (j : Int) + 1) = true := by simp; omega
            go_wp2
            go_ret
            exact ⟨⟨_, rfl⟩, HK.out, dp, x, nd, tr, HD.out⟩
        · have he2 : (bits .or .u8 (v : Int) 32 == 101) = false := by simp [he]
          go_wp2
          go_ret
          exact ⟨⟨_, rfl⟩, HK.out, dp, x, nd, tr, HD.out⟩
      · have d1 : decide (j < t.size) = false := by simp; omega
        have hjn : (j == t.size) = true := by rw [beq_iff_eq]; omega
        have hjn2 : (j != t.size) = false := by rw [bne_eq_false_iff_eq]; omega
        go_wp2
        go_ret
        exact ⟨⟨_, rfl⟩, HK.out, dp, x, nd, tr, HD.out⟩
end
end Go.Proofs.YtcgibcjpkhefpaaGreatDoor

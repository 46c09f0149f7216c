/-
  The reference's skip at a gap that ends with the text.
-/
import Derived.Test.YtcgibcjpkhefpaaGreatDoorZH
import Derived.Deep.RegionWith
import Derived.Deep.DeepMust
import Derived.Deep.CutBlock
import Derived.Deep.DeepCutAuto
namespace Go.Proofs.YtcgibcjpkhefpaaGreatDoor
open Go.RowKit
/-- The reference's scanner without tokens so far. -/
structure RS (b : Nat) (s : ByteArray) (p : Nat) (ln : Bool) (w : World) : Prop where
  blk : w.heap[b]? = some (.cells #[.string s, .int .i64 p, .bool ln, .slice none 0 0, .slice none 0 0, .bool false, .int .i64 0] 50 (0, 0))
section
variable {b : Nat} {s : ByteArray} {p : Nat} {ln : Bool} {w : World}
theorem RS.c0 (h : RS b s p ln w) : w.cell? ⟨b, 0, none⟩ = some (.string s) := by simp [World.cell?, h.blk]
theorem RS.c1 (h : RS b s p ln w) : w.cell? ⟨b, 1, none⟩ = some (.int .i64 p) := by simp [World.cell?, h.blk]
theorem RS.c2 (h : RS b s p ln w) : w.cell? ⟨b, 2, none⟩ = some (.bool ln) := by simp [World.cell?, h.blk]
theorem RS.c4 (h : RS b s p ln w) : w.cell? ⟨b, 4, none⟩ = some (.slice none 0 0) := by simp [World.cell?, h.blk]
theorem RS.c5 (h : RS b s p ln w) : w.cell? ⟨b, 5, none⟩ = some (.bool false) := by simp [World.cell?, h.blk]
theorem RS.fz (h : RS b s p ln w) (i : Nat) : w.frozen? ⟨b, i, none⟩ = false := by simp [World.frozen?, h.blk]
theorem RS.drewN (h : RS b s p ln w) (k : Nat) : RS b s p ln (w.drewN k) := ⟨h.blk⟩
theorem RS.setTo (h : RS b s p ln w) {x : Int} {q : Nat} (e : x = q) : RS b s q ln (w.setCell ⟨b, 1, none⟩ (.int .i64 x)) := by
  subst e; exact ⟨by rw [heap_setSelf h.blk]; rfl⟩
theorem RS.setLn (h : RS b s p ln w) (x : Bool) : RS b s p x (w.setCell ⟨b, 2, none⟩ (.bool x)) := ⟨by rw [heap_setSelf h.blk]; rfl⟩
def posR (b : Nat) (w : World) : Nat := match w.cell? ⟨b, 1, none⟩ with
  | some (.int _ x) => x.toNat
  | _ => 0
theorem posR_eq (h : RS b s p ln w) : posR b w = p := by simp [posR, h.c1]
set_option maxHeartbeats 4000000 in
set_option maxRecDepth 100000 in
theorem rskip_gap (hs : s.size ≤ 262144) (hp : p ≤ s.size) (hg : Lx.Gap s.data.toList p s.data.toList.length) (h : RS b s p ln w) :
    Calls Tryz.prog 26 #[.pointer (some ⟨b, 0, none⟩)] w fun e w' => e = .returned (.tuple #[]) ∧ Kf (So b) w w' ∧ ∃ ln', RS b s s.size ln' w' := by
  have hlen : s.data.toList.length = s.size := by simp
  have HS := Lib.hid h
  have HG := Lib.hid hg
  clear h hg
  go_enter Tryz.func26, Tryz.ntmps26
  go_wp2
  go_loopw [] (fun wr => ∃ (q : Nat) (lq : Bool), q ≤ s.size ∧ Lx.Gap s.data.toList q s.data.toList.length ∧ RS b s q lq wr ∧ Kf (So b) w wr) (fun wr => s.size - posR b wr)
  case atStart => exact ⟨p, ln, hp, HG.out, HS.out, Kf.refl _ _⟩
  case round =>
    obtain ⟨q, lq, hqs, hgap, hS, hK⟩ := hrel
    have HP1 := Lib.hid (posR_eq hS)
    have HS1 := Lib.hid hS
    have HK1 := Lib.hid hK
    have c0 := hS.c0
    have c1 := hS.c1
    have c2 := hS.c2
    have c5 := hS.c5
    have fz1 := hS.fz 1
    have fz2 := hS.fz 2
    clear hS hK
    by_cases hlt : q < s.size
    · have hi : (q : Int) < s.size := by omega
      have hst := Lx.gap_step hgap rfl (by omega)
      clear hgap
      cases hst with
      | blank n hn hb hle hg2 =>
        have hle : q + n ≤ s.size := by omega
        have HB := Lib.hid hb
        have HG2 := Lib.hid hg2
        clear hb hg2
        have hn1 : (0 : Int) < n := by omega
        go_wp2
        go_quiet (fail)
        go_wp2
        go_quiet ((go_at_call 39; exact (rblank_any _ hs hqs).mono (fun e w h => ⟨h.1, _, h.2⟩)))
        rw [HB.out]
        go_wp2
        go_roundw
        case rel => exact ⟨q + n, lq, hle, HG2.out, (HS1.out.drewN _).setTo (by omega), (HK1.out.drewN _).setB 1 _⟩
        case measure => rw [posR_eq ((HS1.out.drewN _).setTo (q := q + n) (by omega)), HP1.out]; omega
      | line n hb hn hl hle hg2 =>
        have hle : q + n ≤ s.size := by omega
        have HB := Lib.hid hb
        have HL := Lib.hid hl
        have HG2 := Lib.hid hg2
        clear hb hg2 hl
        have hn1 : (0 : Int) < n := by omega
        go_wp2
        go_quiet (fail)
        go_wp2
        go_quiet ((go_at_call 39; exact (rblank_any _ hs hqs).mono (fun e w h => ⟨h.1, _, h.2⟩)))
        rw [HB.out]
        go_wp2
        go_quiet ((go_at_call 40; exact (rline_any _ hs hqs).mono (fun e w h => ⟨h.1, _, h.2⟩)))
        rw [HL.out]
        go_wp2
        go_roundw
        case rel => exact ⟨q + n, true, hle, HG2.out, ((HS1.out.drewN _).setTo (by omega)).setLn true, ((HK1.out.drewN _).setB 1 _).setB 2 _⟩
        case measure => rw [posR_eq (((HS1.out.drewN _).setTo (q := q + n) (by omega)).setLn true), HP1.out]; omega
      | rem j hb hl hpre hqj hjl hno hj hg2 =>
        have HB := Lib.hid hb
        have HL := Lib.hid hl
        have HP := Lib.hid hpre
        have HG2 := Lib.hid hg2
        have HNO := Lib.hid hno
        have HJ := Lib.hid hj
        have hjs : j ≤ s.size := by omega
        clear hb hg2 hl hpre hno hj hjl
        go_wp2
        go_quiet (fail)
        go_wp2
        go_quiet ((go_at_call 39; exact (rblank_any _ hs hqs).mono (fun e w h => ⟨h.1, _, h.2⟩)))
        rw [HB.out]
        go_wp2
        go_quiet ((go_at_call 40; exact (rline_any _ hs hqs).mono (fun e w h => ⟨h.1, _, h.2⟩)))
        rw [HL.out]
        go_wp2
        go_quiet ((go_at_call 41; exact (rhas_any _ _ hs (by decide) hqs).mono (fun e w h => ⟨h.1, _, h.2⟩)))
        rw [show Lx.pre (⟨#[47, 47]⟩ : ByteArray).data.toList s.data.toList q = true from HP.out]
        go_wp2
        generalize hW : World.drewN _ _ = W
        have HSW := Lib.hid (show RS b s q lq W by rw [← hW]; exact (HS1.out.drewN _).drewN _)
        have HKW := Lib.hid (show Kf (So b) w W by rw [← hW]; exact (HK1.out.drewN _).drewN _)
        clear hW c0 c1 c2 c5 fz1 fz2
        go_loopw [] (fun wi => ∃ i : Nat, q ≤ i ∧ i ≤ j ∧ RS b s i lq wi ∧ Kf (So b) w wi) (fun wi => j - posR b wi)
        case atStart => exact ⟨q, Nat.le_refl _, by omega, HSW.out, HKW.out⟩
        case round =>
          obtain ⟨i, hqi, hij, hS, hK⟩ := hrel
          have HPi := Lib.hid (posR_eq hS)
          have HSi := Lib.hid hS
          have HKi := Lib.hid hK
          have c0 := hS.c0
          have c1 := hS.c1
          have fz1 := hS.fz 1
          clear hS hK
          have his : i ≤ s.size := by omega
          by_cases hlj : i < j
          · have hi2 : (i : Int) < s.size := by omega
            have HZ := Lib.hid (HNO.out i hqi hlj)
            go_wp2
            go_quiet ((go_at_call 40; exact (rline_any _ hs his).mono (fun e w h => ⟨h.1, _, h.2⟩)))
            rw [HZ.out]
            go_wp2
            go_roundw
            case rel => exact ⟨i + 1, by omega, by omega, (HSi.out.drewN _).setTo (by omega), (HKi.out.drewN _).setB 1 _⟩
            case measure => rw [posR_eq ((HSi.out.drewN _).setTo (q := i + 1) (by omega)), HPi.out]; omega
          · obtain rfl : i = j := by omega
            by_cases hend : i = s.size
            · subst hend
              have hi2 : decide ((s.size : Int) < s.size) = false := by simp
              go_wp2
              go_quiet (fail)
              go_wp2
              go_roundw
              case rel => exact ⟨s.size, lq, Nat.le_refl _, HG2.out, HSi.out.drewN _, HKi.out.drewN _⟩
              case measure => rw [posR_eq (HSi.out.drewN _), HP1.out]; omega
            · have hi2 : (i : Int) < s.size := by omega
              obtain ⟨m, hm⟩ : ∃ m, Lx.rline s.data.toList i = m := ⟨_, rfl⟩
              have hm0 : 0 < m := by
                rcases HJ.out with h | h
                · exact absurd (by omega) hend
                · omega
              have HM := Lib.hid hm
              have hmz : ((m : Int) == 0) = false := by simp; omega
              clear hm
              go_wp2
              go_quiet ((go_at_call 40; exact (rline_any _ hs his).mono (fun e w h => ⟨h.1, _, h.2⟩)))
              rw [HM.out]
              go_wp2
              go_roundw
              case rel => exact ⟨i, lq, his, HG2.out, HSi.out.drewN _, HKi.out.drewN _⟩
              case measure => rw [posR_eq (HSi.out.drewN _), HP1.out]; omega
      | block j hb hl hpre0 hpre hqj hjl hno hj hg2 =>
        have HB := Lib.hid hb
        have HL := Lib.hid hl
        have HP0 := Lib.hid hpre0
        have HP := Lib.hid hpre
        have HG2 := Lib.hid hg2
        have HNO := Lib.hid hno
        have HJ := Lib.hid hj
        have hjs : j + 2 ≤ s.size := by omega
        clear hb hg2 hl hpre hpre0 hno hj hjl
        have wq2 : IntKind.i64.wrap ((q : Int) + 2) = (q : Int) + 2 := IntWalk.i64_in _ (by omega)
        go_wp2
        go_quiet (fail)
        go_wp2
        go_quiet ((go_at_call 39; exact (rblank_any _ hs hqs).mono (fun e w h => ⟨h.1, _, h.2⟩)))
        rw [HB.out]
        go_wp2
        go_quiet ((go_at_call 40; exact (rline_any _ hs hqs).mono (fun e w h => ⟨h.1, _, h.2⟩)))
        rw [HL.out]
        go_wp2
        go_quiet ((go_at_call 41; exact (rhas_any _ _ hs (by decide) hqs).mono (fun e w h => ⟨h.1, _, h.2⟩)))
        rw [show Lx.pre (⟨#[47, 47]⟩ : ByteArray).data.toList s.data.toList q = false from HP0.out]
        go_wp2
        go_quiet ((go_at_call 41; exact (rhas_any _ _ hs (by decide) hqs).mono (fun e w h => ⟨h.1, _, h.2⟩)))
        rw [show Lx.pre (⟨#[47, 42]⟩ : ByteArray).data.toList s.data.toList q = true from HP.out]
        go_wp2
        generalize hW : World.setCell _ _ _ = W
        have HSW := Lib.hid (show RS b s (q + 2) lq W by rw [← hW]; exact (HS1.out.drewN _).setTo (by omega))
        have HKW := Lib.hid (show Kf (So b) w W by rw [← hW]; exact (HK1.out.drewN _).setB 1 _)
        clear hW c0 c1 c2 c5 fz1 fz2
        go_loopw [] (fun wi => ∃ (i : Nat) (li : Bool), q + 2 ≤ i ∧ i ≤ j ∧ RS b s i li wi ∧ Kf (So b) w wi) (fun wi => j - posR b wi)
        case atStart => exact ⟨q + 2, lq, Nat.le_refl _, by omega, HSW.out, HKW.out⟩
        case round =>
          obtain ⟨i, li, hqi, hij, hS, hK⟩ := hrel
          have HPi := Lib.hid (posR_eq hS)
          have HSi := Lib.hid hS
          have HKi := Lib.hid hK
          have c0 := hS.c0
          have c1 := hS.c1
          have c2 := hS.c2
          have fz1 := hS.fz 1
          have fz2 := hS.fz 2
          clear hS hK
          have his : i ≤ s.size := by omega
          by_cases hlj : i < j
          · have hi2 : decide ((s.size : Int) ≤ i) = false := by simp; omega
            have HZ := Lib.hid (HNO.out i hqi hlj)
            go_wp2
            go_quiet ((go_at_call 41; exact (rhas_any _ _ hs (by decide) his).mono (fun e w h => ⟨h.1, _, h.2⟩)))
            rw [show Lx.pre (⟨#[42, 47]⟩ : ByteArray).data.toList s.data.toList i = false from HZ.out]
            go_wp2
            go_quiet (fail)
            obtain ⟨m, hm⟩ : ∃ m, Lx.rline s.data.toList i = m := ⟨_, rfl⟩
            have HM := Lib.hid hm
            clear hm
            go_upto_region 18 with fail
            go_cut [] (fun wc => ∃ B, RS b s i B wc ∧ Kf (So b) w wc)
            case first =>
              cases li
              · go_wp2
                go_region_with (first | (go_at_call 40; go_must (refine (rline_any _ hs his).mono ?_); go_must (rintro e w2 ⟨rfl, rfl⟩); go_must (rw [HM.out])))
                all_goals
                  go_wp2
                  go_meet
                  case rel => exact ⟨_, (HSi.out.drewN _).setLn _, (HKi.out.drewN _).setB 2 _⟩
              · go_wp2
                go_region
                go_wp2
                go_meet
                case rel => exact ⟨true, (HSi.out.drewN _).setLn true, (HKi.out.drewN _).setB 2 _⟩
            case rest =>
              obtain ⟨B, hS2, hK2⟩ := hcut
              have c1' := hS2.c1
              have f1' := hS2.fz 1
              go_wp2
              go_roundw
              case rel => exact ⟨i + 1, B, by omega, by omega, hS2.setTo (by omega), hK2.setB 1 _⟩
              case measure => rw [posR_eq (hS2.setTo (q := i + 1) (by omega)), HPi.out]; omega
          · obtain rfl : i = j := by omega
            go_wp2
            go_quiet ((go_at_call 41; exact (rhas_any _ _ hs (by decide) his).mono (fun e w h => ⟨h.1, _, h.2⟩)))
            rw [show Lx.pre (⟨#[42, 47]⟩ : ByteArray).data.toList s.data.toList i = true from HJ.out]
            go_wp2
            go_roundw
            case rel => exact ⟨i + 2, li, hjs, HG2.out, (HSi.out.drewN _).setTo (by omega), (HKi.out.drewN _).setB 1 _⟩
            case measure => rw [posR_eq ((HSi.out.drewN _).setTo (q := i + 2) (by omega)), HP1.out]; omega
    · obtain rfl : q = s.size := by omega
      have hi : decide ((s.size : Int) < s.size) = false := by simp
      go_wp2
      go_quiet (fail)
      go_wp2
      go_end0
      exact ⟨rfl, HK1.out.drewN _, lq, HS1.out.drewN _⟩
end
end Go.Proofs.YtcgibcjpkhefpaaGreatDoor

/-
  The scanner's comment (77) in brackets; and whatever stands there.
-/
import Derived.Test.YtcgibcjpkhefpaaGreatDoorZA
import Derived.Test.YtcgibcjpkhefpaaGreatDoorZK
import Derived.Test.YtcgibcjpkhefpaaGreatDoorZP
import Derived.Lib.IndexMore
import Derived.Deep.RegionHeld3
namespace Go.Lx
theorem pre_drop {t l : List UInt8} {p i : Nat} : pre t (l.drop p) i = pre t l (p + i) := by
  unfold pre; rw [List.drop_drop]
end Go.Lx
namespace Go.Proofs.YtcgibcjpkhefpaaGreatDoor
open Go.RowKit
section
variable {b g : Nat} {s : ByteArray} {lv ov : Value} {p : Nat} {ln : Bool} {opn : List Int} {l : List UInt8}
/-- The load of the line's flag under a name of its own: no load that a region's walk would take ahead. -/
abbrev ldLine : Op := .load 4 (.tmp 70)
set_option maxHeartbeats 8000000 in
set_option maxRecDepth 100000 in
theorem comment_block (m : Int) (w : World) (hm : ∀ w', Kf (So b) w w' → w'.cell? ⟨1, 0, none⟩ = some (.int .i64 m)) (hs : s.size ≤ 262144) (hp : p ≤ s.size) (h : Scn b s lv p ln ov opn w) (hpre0 : Lx.pre [47, 47] s.data.toList p = false) (hpre : Lx.pre [47, 42] s.data.toList p = true) :
    Calls Tryz.prog 77 #[.pointer (some ⟨b, 0, none⟩)] w (CmCov b s lv p ln ov opn w) := by
  have hlen : s.data.toList.length = s.size := by simp
  have c1 := h.c1
  have hp2 : p + 2 ≤ s.size := by have := Lx.pre_le hpre (by omega); simp at this; omega
  have HS := Lib.hid h
  have HP := Lib.hid hpre
  have HP0 := Lib.hid hpre0
  have HM := Lib.hid hm
  clear h hpre hpre0 hm
  go_enter Tryz.func77, Tryz.ntmps77
  go_wp2_with fail
  refine (has_any _ _ (by omega) hp HS.out).mono ?_
  rintro e w1 ⟨rfl, k, rfl⟩
  rw [show Lx.pre (⟨#[47, 47]⟩ : ByteArray).data.toList s.data.toList p = false from HP0.out]
  go_wp2_with fail
  refine (has_any _ _ (by omega) hp (HS.out.drewN _)).mono ?_
  rintro e w1 ⟨rfl, k2, rfl⟩
  rw [show Lx.pre (⟨#[47, 42]⟩ : ByteArray).data.toList s.data.toList p = true from HP.out]
  have HK := Lib.hid (((Kf.refl (So b) w).drewN k).drewN k2)
  have hS1 := (HS.out.drewN k).drewN k2
  have HS1 := Lib.hid hS1
  have HM1 := Lib.hid (fun w' (h : Kf (So b) ((w.drewN k).drewN k2) w') => HM.out w' (HK.out.trans h))
  have c0 := hS1.c0
  have c1' := hS1.c1
  clear hS1 c1
  generalize (w.drewN k).drewN k2 = W at *
  have hw : IntKind.i64.wrap ((p : Int) + 2) = (p : Int) + 2 := IntWalk.i64_in _ (by omega)
  have ht : ((p : Int) + 2).toNat = p + 2 := by omega
  have hb0 : 0 ≤ (p : Int) + 2 := by omega
  have hb9 : (p : Int) + 2 ≤ (s.size : Int) := by omega
  go_wp2
  go_quiet ((go_at_call 30; go_loud (exact (Tryz.strings_Index _ _ m _ (by rw [ByteArray.size_extract]; omega) (HM1.out _ (by first | exact Kf.refl _ _ | exact (Kf.refl _ _).drewN _))).mono (fun e w'' h => ⟨h.1, _, h.2⟩))))
  obtain ⟨I, hI⟩ : ∃ I, Lib.index (s.extract (p + 2) s.size).data.toList [42, 47] = I := ⟨_, rfl⟩
  have HIX := Lib.hid (show I = -1 ∨ ∃ n : Nat, I = n ∧ p + 2 + n + 2 ≤ s.size ∧ Lx.pre [42, 47] s.data.toList (p + 2 + n) = true ∧ ∀ i, p + 2 ≤ i → i < p + 2 + n → Lx.pre [42, 47] s.data.toList i = false by
    have h := Lx.idx_block s.data.toList (p + 2) (by omega)
    rw [← Lx.ext_drop, hI, hlen] at h
    exact h)
  rw [show Lib.index (s.extract (p + 2) s.size).data.toList (⟨#[42, 47]⟩ : ByteArray).data.toList = I from hI]
  clear hI
  rcases HIX.out with h | ⟨n, h, hn1, hn2, hn3⟩
  · subst h
    go_wp2
    exact ⟨rfl, HK.out.drewN _, Or.inr (Or.inr ⟨p, rfl⟩)⟩
  · subst h
    have HGAP := Lib.hid (show Lx.Gap s.data.toList p (p + n + 4) by
      have := Lx.Gap.block p (p + 2 + n) (p + 2 + n + 2) HP.out (by omega) hn3 hn2 (.done _)
      rwa [show p + 2 + n + 2 = p + n + 4 by omega] at this)
    clear HIX hn2 hn3 hw ht
    have hn0 : decide ((n : Int) < 0) = false := by simp
    have e1 : IntKind.i64.wrap ((p : Int) + n) = (p : Int) + n := IntWalk.i64_in _ (by omega)
    have e2 : IntKind.i64.wrap ((p : Int) + n + 2) = (p : Int) + n + 2 := IntWalk.i64_in _ (by omega)
    have e3 : ((p : Int) + n + 2).toNat = p + n + 2 := by omega
    have e4 : 0 ≤ (p : Int) + n + 2 := by omega
    have e5 : (p : Int) + n + 2 ≤ (s.size : Int) := by omega
    have e6 : (p : Int) ≤ (p : Int) + n + 2 := by omega
    have HCA := Lib.hid (fun w => containsAny_nl (s.extract p (p + n + 2)) ⟨#[10, 13, 226, 128, 168, 226, 128, 169]⟩ rfl w (by simp [ByteArray.size_extract]; omega))
    have c2 := HS1.out.c2
    have fz2 := HS1.out.fz 2
    go_upto_region 13 with fail
    go_cut [] (fun wc => ∃ (B : Bool), Scn b s lv p B ov opn wc ∧ Kf (So b) w wc)
    case first =>
      clear HP HP0 HM1 HGAP HM HS
      cases ln
      · go_wp2
        have hSd := (HS1.out.drewN nq).drew
        have HKd := Lib.hid ((HK.out.drewN nq).drew)
        have c0d := hSd.c0
        have c1d := hSd.c1
        have c2d := hSd.c2
        rw [show Op.load 4 (Operand.tmp 70) = ldLine from rfl]
        go_region_held3 (fun w' => w'.cell? ⟨b, 0, none⟩ = some (.string s) ∧ w'.cell? ⟨b, 1, none⟩ = some (.int .i64 p)) (first | exact ⟨c0d, c1d⟩ | exact ⟨c0f, c1f⟩ | exact ⟨(hS2.setLn _).c0, (hS2.setLn _).c1⟩) (first | (go_at_call 97; refine (HCA.out _).mono ?_; rintro e w2 ⟨⟨B, rfl⟩, hb⟩; have hS2 := hSd.keep hb; have c0f := hS2.c0; have c1f := hS2.c1; have c2f := hS2.c2; have f2f := hS2.fz 2))
        all_goals
          go_wp2
          go_meet
          case rel => exact ⟨_, hS2.setLn _, (HKd.out.trans (Kf.of_below _ hb)).setB 2 _⟩
      · go_wp2
        go_region
        go_wp2
        go_meet
        case rel => exact ⟨_, (HS1.out.drewN _).drew.setLn _, (HK.out.drewN _).drew.setB 2 _⟩
    case rest =>
      obtain ⟨B, hS2, hK2⟩ := hcut
      have HS2 := Lib.hid hS2
      have HK2 := Lib.hid hK2
      have c1'' := hS2.c1
      have f1'' := hS2.fz 1
      clear hS2 hK2 c0 c1' c2 fz2 e1 e2 e3 e4 e5 e6
      have g1 : IntKind.i64.wrap ((n : Int) + 4) = (n : Int) + 4 := IntWalk.i64_in _ (by omega)
      have g2 : IntKind.i64.wrap ((p : Int) + ((n : Int) + 4)) = (p : Int) + ((n : Int) + 4) := IntWalk.i64_in _ (by omega)
      go_wp2
      go_ret
      exact ⟨HK2.out.setB 1 _, Or.inr (Or.inl ⟨p + n + 4, B, rfl, HS2.out.setTo (by omega), by omega, by omega, HGAP.out⟩)⟩
theorem cmC_of (hs : s.size ≤ 262144) (w0 : World) (hM : MaxOk w0) : CmC s w0 := by
  intro b lv ov p ln opn w hG hb0 hp hS
  obtain ⟨hm1, m, hm⟩ := hM
  have hlen : s.data.toList.length = s.size := by simp
  cases h1 : Lx.pre [47, 47] s.data.toList p with
  | true => exact comment_line w hs hp hS h1
  | false =>
    cases h2 : Lx.pre [47, 42] s.data.toList p with
    | true =>
      refine comment_block m w (fun w' hk => ?_) hs hp hS h1 h2
      have hb := hG.trans (hk.below hG.size (fun k o e => by have e : k = b := e; omega))
      rw [hb.cell (p := ⟨1, 0, none⟩) hm1]; exact hm
    | false =>
      refine (comment_no w hs hp hS h1 h2).mono ?_
      rintro e w1 ⟨rfl, k, rfl⟩
      exact ⟨(Kf.refl _ _).drewN k, Or.inl ⟨rfl, hS.drewN k⟩⟩
end
end Go.Proofs.YtcgibcjpkhefpaaGreatDoor

/-
  The scanner's skip at any text: a gap, or a place at which no token begins.
-/
import Derived.Test.YtcgibcjpkhefpaaGreatDoorZA
import Derived.Test.YtcgibcjpkhefpaaGreatDoorZJ
namespace Go.Lx
theorem firstOf_mem {ts : List (List UInt8)} {l : List UInt8} {p q : Nat} (h : firstOf ts l p = some q) : ∃ t ∈ ts, pre t l p = true ∧ q = p + t.length := by
  simp only [firstOf, Option.map_eq_some_iff] at h
  obtain ⟨t, h1, rfl⟩ := h
  exact ⟨t, List.mem_of_find?_eq_some h1, by simpa using List.find?_some h1, rfl⟩
theorem gap_nl {l : List UInt8} {p q : Nat} (h : nl l p = some q) : Gap l p q := by
  obtain ⟨t, ht, hp, rfl⟩ := firstOf_mem h
  exact .txt t p _ (Or.inl ht) hp (.done _)
theorem gap_bl {l : List UInt8} {p q : Nat} (h : bl l p = some q) : Gap l p q := by
  obtain ⟨t, ht, hp, rfl⟩ := firstOf_mem h
  exact .txt t p _ (Or.inr ht) hp (.done _)
end Go.Lx
namespace Go.Proofs.YtcgibcjpkhefpaaGreatDoor
open Go.RowKit
section
variable {b g : Nat} {s : ByteArray} {lv ov : Value} {p : Nat} {ln : Bool} {opn : List Int} {l : List UInt8}
/-- Behind the scanner's comment. -/
def CmCov (b : Nat) (s : ByteArray) (lv : Value) (p : Nat) (ln : Bool) (ov : Value) (opn : List Int) (w : World) (e : Ending) (w' : World) : Prop :=
  Kf (So b) w w' ∧ ((e = .returned (.bool false) ∧ Scn b s lv p ln ov opn w') ∨ (∃ (q : Nat) (ln' : Bool), e = .returned (.bool true) ∧ Scn b s lv q ln' ov opn w' ∧ p < q ∧ q ≤ s.size ∧ Lx.Gap s.data.toList p q) ∨ (∃ a : Nat, e = wrongAt a))
def CmC (s : ByteArray) (w0 : World) : Prop :=
  ∀ (b : Nat) (lv ov : Value) (p : Nat) (ln : Bool) (opn : List Int) (w : World), Below w0.heap.size w0 w → w0.heap.size ≤ b → p ≤ s.size → Scn b s lv p ln ov opn w →
    Calls Tryz.prog 77 #[.pointer (some ⟨b, 0, none⟩)] w (CmCov b s lv p ln ov opn w)
def SkipCov (b : Nat) (s : ByteArray) (lv ov : Value) (opn : List Int) (p : Nat) (w : World) (e : Ending) (w' : World) : Prop :=
  Kf (So b) w w' ∧ ((∃ (q : Nat) (ln' : Bool), e = .returned (.tuple #[]) ∧ Scn b s lv q ln' ov opn w' ∧ q ≤ s.size ∧ Lx.Gap s.data.toList p q) ∨ (∃ a : Nat, e = wrongAt a))
set_option maxHeartbeats 1000000 in
set_option maxRecDepth 100000 in
theorem skip_cov (w0 w : World) (hC : CmC s w0) (hG : Below w0.heap.size w0 w) (hb0 : w0.heap.size ≤ b) (hs : s.size ≤ 262144) (hp : p ≤ s.size) (h : Scn b s lv p ln ov opn w) :
    Calls Tryz.prog 56 #[.pointer (some ⟨b, 0, none⟩)] w (SkipCov b s lv ov opn p w) := by
  have hlen : s.data.toList.length = s.size := by simp
  have HC := Lib.hid hC
  have HS := Lib.hid h
  have HG := Lib.hid hG
  clear hC h hG
  go_enter Tryz.func56, Tryz.ntmps56
  go_wp2
  go_loopw [] (fun wr => ∃ (q : Nat) (lq : Bool), q ≤ s.size ∧ Lx.Gap s.data.toList p q ∧ Scn b s lv q lq ov opn wr ∧ Kf (So b) w wr) (fun wr => s.size - posQ b wr)
  case atStart => exact ⟨p, ln, hp, .done _, HS.out, Kf.refl _ _⟩
  case round =>
    obtain ⟨q, lq, hqs, hgap, hS, hK⟩ := hrel
    have hpos := posQ_scn hS
    have HP1 := Lib.hid hpos
    have HS1 := Lib.hid hS
    have HK1 := Lib.hid hK
    have HGA := Lib.hid hgap
    clear hpos hS hK hgap
    go_wp2_with fail
    refine (newline_any _ (by omega) hqs HS1.out).mono ?_
    rintro e w1 ⟨rfl, hK1, hS2⟩
    cases hn : Lx.nl s.data.toList q with
    | some q1 =>
      rw [hn] at hS2
      have hS2 : Scn b s lv q1 lq ov opn w1 := hS2
      have f2 := hS2.fz 2
      have c2 := hS2.c2
      have HS2 := Lib.hid hS2
      have HK2 := Lib.hid (HK1.out.trans hK1)
      have hq1 := Lx.nl_le hn (by omega)
      rw [hlen] at hq1
      have HN := Lib.hid (HGA.out.trans (Lx.gap_nl hn))
      clear hS2 hK1 hn
      go_wp2
      go_roundw
      case rel => exact ⟨q1, true, hq1.2, HN.out, HS2.out.setLn true, HK2.out.setB 2 _⟩
      case measure => rw [posQ_scn (HS2.out.setLn true), HP1.out]; omega
    | none =>
      rw [hn] at hS2
      have hS2 : Scn b s lv q lq ov opn w1 := hS2
      have HS2 := Lib.hid hS2
      have HK2 := Lib.hid (HK1.out.trans hK1)
      clear hS2 hK1 hn
      go_wp2_with fail
      refine (blank_any _ (by omega) hqs HS2.out).mono ?_
      rintro e w2 ⟨rfl, hK3, hS3⟩
      cases hb : Lx.bl s.data.toList q with
      | some q1 =>
        rw [hb] at hS3
        have hS3 : Scn b s lv q1 lq ov opn w2 := hS3
        have HS3 := Lib.hid hS3
        have HK3 := Lib.hid (HK2.out.trans hK3)
        have hq1 := Lx.bl_le hb (by omega)
        rw [hlen] at hq1
        have HB := Lib.hid (HGA.out.trans (Lx.gap_bl hb))
        clear hS3 hK3 hb
        go_wp2
        go_roundw
        case rel => exact ⟨q1, lq, hq1.2, HB.out, HS3.out, HK3.out⟩
        case measure => rw [posQ_scn HS3.out, HP1.out]; omega
      | none =>
        rw [hb] at hS3
        have hS3 : Scn b s lv q lq ov opn w2 := hS3
        have HS3 := Lib.hid hS3
        have HK3 := Lib.hid (HK2.out.trans hK3)
        clear hS3 hK3 hb
        go_wp2_with fail
        refine (HC.out b lv ov q lq opn _ ?_ hb0 hqs HS3.out).mono ?_
        · exact HG.out.trans (HK3.out.below HG.out.size (fun k o e => by have e : k = b := e; omega))
        rintro e w3 ⟨hK4, hP⟩
        have HK4 := Lib.hid (HK3.out.trans hK4)
        clear hK4
        rcases hP with ⟨he, hS4⟩ | ⟨q1, ln1, he, hS4, hq1, hq2, hg2⟩ | ⟨a, he⟩
        · have HS4 := Lib.hid hS4
          clear hS4
          subst he
          go_wp2
          exact bodyPost_ret (v := .tuple #[]) (results_none rfl _ _ _) rfl ⟨HK4.out, Or.inl ⟨q, lq, rfl, HS4.out, hqs, HGA.out⟩⟩
        · have HS4 := Lib.hid hS4
          have HG2 := Lib.hid (HGA.out.trans hg2)
          clear hS4 hg2
          subst he
          go_wp2
          go_roundw
          case rel => exact ⟨q1, ln1, hq2, HG2.out, HS4.out, HK4.out⟩
          case measure => rw [posQ_scn HS4.out, HP1.out]; omega
        · subst he
          unfold wrongAt
          go_wp2
          exact ⟨rfl, HK4.out, Or.inr ⟨a, rfl⟩⟩
end
end Go.Proofs.YtcgibcjpkhefpaaGreatDoor

/-
  The law LexQuotes, walked: true at every text of units.
-/
import Derived.Test.YtcgibcjpkhefpaaGreatDoorA0
import Derived.Test.YtcgibcjpkhefpaaGreatDoorU4
import Derived.Test.YtcgibcjpkhefpaaGreatDoorU5
import Derived.Test.YtcgibcjpkhefpaaGreatDoorQ1
import Derived.BigQuiet
namespace Go.Lx
theorem quote_at0 (us : List Nat) : nl (quoteB us) 0 = none ∧ bl (quoteB us) 0 = none ∧ pre [47, 47] (quoteB us) 0 = false ∧ pre [47, 42] (quoteB us) 0 = false := by
  have hpre : ∀ t, pre t (quoteB us) 0 = t.isPrefixOf (34 :: (us.flatMap q1 ++ [34])) := fun t => rfl
  refine ⟨?_, ?_, ?_, ?_⟩
  · unfold nl firstOf nls; simp [hpre, List.isPrefixOf]
  · unfold bl firstOf bls; simp [hpre, List.isPrefixOf]
  · simp [hpre, List.isPrefixOf]
  · simp [hpre, List.isPrefixOf]
theorem at_end (l : List UInt8) (p : Nat) (hp : l.length ≤ p) : nl l p = none ∧ bl l p = none ∧ pre [47, 47] l p = false ∧ pre [47, 42] l p = false := by
  have hpre : ∀ c t, pre (c :: t) l p = false := fun c t => by unfold pre; rw [List.drop_eq_nil_of_le hp]; rfl
  refine ⟨?_, ?_, hpre _ _, hpre _ _⟩
  · unfold nl firstOf nls; simp [hpre]
  · unfold bl firstOf bls; simp [hpre]
end Go.Lx
namespace Go.Proofs.YtcgibcjpkhefpaaGreatDoor
open Go.RowKit
/-- The places of a text literal. -/
def Vq (us : List Nat) (p : Nat) : Prop := p = 0 ∨ p = (Lx.quoteB us).length
theorem vq_at {us : List Nat} {p : Nat} (h : Vq us p) : Lx.nl (Lx.quoteB us) p = none ∧ Lx.bl (Lx.quoteB us) p = none ∧ Lx.pre [47, 47] (Lx.quoteB us) p = false ∧ Lx.pre [47, 42] (Lx.quoteB us) p = false := by
  rcases h with rfl | rfl
  · exact Lx.quote_at0 us
  · exact Lx.at_end _ _ (Nat.le_refl _)
theorem drew_below' {B : Nat} (w : World) (k : Nat) (h : B ≤ w.heap.size) : Below B w (w.drewN k) := (drew_below w k).mono h
theorem scan_quote (us : List Nat) (hu : ∀ u ∈ us, u < 65536) (hl : us.length ≤ 1000) (w0 w : World) (hR : Ready w0) (hG : Below w0.heap.size w0 w) :
    Calls Tryz.prog 11 #[.string ⟨(Lx.quoteB us).toArray⟩] w fun e w' => Below w.heap.size w w' ∧ ∃ v, e = .returned (.tuple #[v, .int .i64 0, .int .i64 0]) ∧ w'.ownsRow w.heap.size 31 7 v 2 (toksC [Lx.quoteTk us, Lx.endTk (Lx.quoteB us).length]) := by
  have hlen := Lx.quote_len us
  have hf := (Lx.flat_len us).2
  have hsz : (⟨(Lx.quoteB us).toArray⟩ : ByteArray).size = (Lx.quoteB us).length := by simp [ByteArray.size]
  have hsk : ∀ p, Vq us p → ∀ f ln, Lx.skip Lx.envW (Lx.quoteB us) f p ln = .ok (p, ln) := by
    intro p hp f ln
    rcases hp with rfl | rfl
    · exact Lx.quote_skip0 _ _ _ _
    · exact Lx.skip_end _ _ _ _ _ (Nat.le_refl _)
  refine (scan_ascii Lx.envW ⟨(Lx.quoteB us).toArray⟩ (Vq us) (fun p o => Vq us p ∧ o = []) w0 w (fun b hb => Lx.quote_ascii us b (by simpa using hb)) ⟨?_, ?_, ?_, ⟨Or.inl rfl, rfl⟩⟩ ?_ ⟨?_, ?_, ?_⟩ ?_ hR.max hG (by rw [hsz]; omega) hR.tab).mono ?_
  · rintro p o ⟨hp, rfl⟩
    refine ⟨hp, ?_, ⟨by simp, fun m hm => by cases hm⟩⟩
    rw [hsz]
    rcases hp with rfl | rfl <;> omega
  · rintro p o ⟨hp, rfl⟩ q l2 hq
    rw [show ((⟨(Lx.quoteB us).toArray⟩ : ByteArray).data.toList) = Lx.quoteB us by simp, hsk p hp] at hq
    injection hq with hq
    injection hq with hq _
    subst hq
    refine ⟨hp, Nat.le_refl _, ?_⟩
    rw [hsz]
    rcases hp with rfl | rfl <;> omega
  · rintro p o t r o' ⟨hp, rfl⟩ hn hk
    rw [show ((⟨(Lx.quoteB us).toArray⟩ : ByteArray).data.toList) = Lx.quoteB us by simp] at hn
    rcases hp with rfl | rfl
    · rw [Lx.quote_next0 _ us hu] at hn
      injection hn with hn
      injection hn with h1 hn
      injection hn with h2 h3
      subst h2 h3
      exact ⟨⟨Or.inr rfl, rfl⟩, by omega⟩
    · rw [Lx.next_end _ _ _ _ (Nat.le_refl _)] at hn
      injection hn with hn
      injection hn with h1 hn
      subst h1
      exact absurd rfl hk
  · intro b lv ov p ln opn w hv hp hS
    have hn := vq_at hv
    have hn2 : Lx.pre [47, 47] (⟨(Lx.quoteB us).toArray⟩ : ByteArray).data.toList p = false ∧ Lx.pre [47, 42] (⟨(Lx.quoteB us).toArray⟩ : ByteArray).data.toList p = false := by
      rw [show ((⟨(Lx.quoteB us).toArray⟩ : ByteArray).data.toList) = Lx.quoteB us by simp]; exact hn.2.2
    refine (comment_no w (by rw [hsz]; omega) hp hS hn2.1 hn2.2).mono ?_
    rintro e w1 ⟨rfl, k, rfl⟩
    refine ⟨(Kf.refl _ _).drewN k, ?_⟩
    rw [cm_eq hn2]
    exact ⟨rfl, hS.drewN k⟩
  · intro p q hp hq
    rw [show ((⟨(Lx.quoteB us).toArray⟩ : ByteArray).data.toList) = Lx.quoteB us by simp, (vq_at hp).1] at hq
    cases hq
  · intro p q hp _ hq
    rw [show ((⟨(Lx.quoteB us).toArray⟩ : ByteArray).data.toList) = Lx.quoteB us by simp, (vq_at hp).2.1] at hq
    cases hq
  · intro p q ln ln' hp _ _ hc
    rw [show ((⟨(Lx.quoteB us).toArray⟩ : ByteArray).data.toList) = Lx.quoteB us by simp, cm_eq (vq_at hp).2.2] at hc
    cases hc
  · intro p hp hlt hns
    rw [hsz] at hlt
    rcases hp with rfl | rfl
    · have : numStart (Lx.quoteB us) 0 = false := rfl
      rw [show ((⟨(Lx.quoteB us).toArray⟩ : ByteArray).data.toList) = Lx.quoteB us by simp, this] at hns
      cases hns
    · omega
  · rintro e w' ⟨hb, hP⟩
    rw [show ((⟨(Lx.quoteB us).toArray⟩ : ByteArray).data.toList) = Lx.quoteB us by simp, Lx.quote_scan _ us hu] at hP
    obtain ⟨v, he, ho⟩ := hP
    exact ⟨hb, v, he, ho⟩
set_option maxHeartbeats 4000000 in
set_option maxRecDepth 100000 in
theorem quotes_law (s : ByteArray) (w : World) (hR : Ready w) :
    Calls Tryz.prog 5 #[.string s] w fun e w' => e = .returned (.bool true) ∧ Below w.heap.size w w' := by
  have HR := Lib.hid hR
  clear hR
  by_cases hs : 2000 < s.size
  · have hd : decide ((s.size : Int) > 2000) = true := by simp; omega
    go_enter Tryz.func5, Tryz.ntmps5
    go_wp2_with fail
    refine (awake_any w _ HR.out.max HR.out.fv (Below.refl _ _) HR.out.tab).mono ?_
    rintro e w1 ⟨rfl, hb⟩
    go_wp2_with fail
    exact bodyPost_ret (v := .bool true) (by simp [results, Tryz.results5]) rfl ⟨rfl, hb⟩
  · have hd : decide ((s.size : Int) > 2000) = false := by simp; omega
    have HQ1 := Lib.hid (fun w => quote_any s w (by omega))
    have HQ2 := Lib.hid (fun w => rquote_any s w (by omega))
    have HSC := Lib.hid (fun w1 hG => scan_quote (Lx.unitsOf s.data.toList) (Lx.unitsOf_lt _ _ (Nat.le_refl _)) (by rw [units_len _ _ (Nat.le_refl _)]; simp; omega) w w1 HR.out hG)
    have HBK := Lib.hid (Lx.units_back _ s.data.toList (Nat.le_refl _))
    generalize Lx.unitsOf s.data.toList = us at *
    obtain ⟨Q, hQ⟩ : ∃ Q : ByteArray, (⟨(Lx.quoteB us).toArray⟩ : ByteArray) = Q := ⟨_, rfl⟩
    have HQQ := Lib.hid hQ
    have HQS := Lib.hid (show Q.size = (Lx.quoteB us).length by rw [← hQ]; simp [ByteArray.size])
    obtain ⟨n, hn⟩ : ∃ n, s.size / 2 * 2 = n := ⟨_, rfl⟩
    have hi : (s.size : Int) / 2 * 2 = (n : Int) := by omega
    have hni : (n : Int) ≤ s.size := by omega
    have hnn : n ≤ s.size := by omega
    have HST := Lib.hid (show (⟨((us.flatMap Lx.u16)).toArray⟩ : ByteArray) = s.extract 0 n by
      rw [HBK.out, ← hn]
      apply ByteArray.ext
      rw [ByteArray.data_extract]
      apply Array.toList_inj.1
      simp)
    clear hQ hn
    go_enter Tryz.func5, Tryz.ntmps5
    go_wp2_with fail
    refine (awake_any w _ HR.out.max HR.out.fv (Below.refl _ _) HR.out.tab).mono ?_
    rintro e w1 ⟨rfl, hb1⟩
    have HB1 := Lib.hid hb1
    clear hb1
    go_wp2_with fail
    refine (HQ1.out _).mono ?_
    rintro e w2 ⟨rfl, hb2⟩
    rw [HQQ.out]
    have HB2 := Lib.hid (HB1.out.trans (hb2.mono HB1.out.size))
    clear hb2
    go_wp2_with fail
    refine (HQ2.out _).mono ?_
    rintro e w3 ⟨rfl, hb3⟩
    rw [HQQ.out]
    have HB3 := Lib.hid (HB2.out.trans (hb3.mono HB2.out.size))
    clear hb3
    have hqq : (Q.toList == Q.toList) = true := by simp
    go_wp2_with fail
    rw [← HQQ.out]
    refine (HSC.out _ HB3.out).mono ?_
    rw [HQQ.out]
    rintro e w4 ⟨hb4, v, rfl, ho⟩
    obtain ⟨g, cap, rfl, hc1, hg1, hg2, hcell⟩ := row_cells ho (by decide)
    have HB4 := Lib.hid (HB3.out.trans (hb4.mono HB3.out.size))
    clear hb4 ho
    have k0 : w4.cell? ⟨g, 0, none⟩ = some (.int .i64 5) := hcell 0 _ rfl (by decide)
    have k2 : w4.cell? ⟨g, 2, none⟩ = some (.string (s.extract 0 n)) := by rw [← HST.out]; exact hcell 2 _ rfl (by decide)
    have k5 : w4.cell? ⟨g, 5, none⟩ = some (.int .i64 (Q.size : Int)) := by rw [HQS.out]; exact hcell 5 _ rfl (by decide)
    have hss : ((s.extract 0 n).toList == (s.extract 0 n).toList) = true := by simp
    clear hcell
    go_wp2_with fail
    go_quiet (fail)
    go_wp2
    exact bodyPost_ret (v := .bool true) (by simp [results, Tryz.results5]) rfl ⟨rfl, HB4.out.trans (drew_below' _ _ HB4.out.size)⟩
end Go.Proofs.YtcgibcjpkhefpaaGreatDoor

/-
  The walks of skip and of the small parts of token: lex.Word, the end of a name.
  The reference's has, line and blank.
-/
import Derived.Test.YtcgibcjpkhefpaaGreatDoorZA
import Derived.Test.YtcgibcjpkhefpaaGreatDoorZE
namespace Go.Proofs.YtcgibcjpkhefpaaGreatDoor
open Go.RowKit
theorem index_one (c : UInt8) : ∀ l : List UInt8, Lib.index l [c] = Lib.indexByte l c
  | [] => rfl
  | b :: l => by
    have hp : ([c] : List UInt8).isPrefixOf (b :: l) = (b == c) := by
      by_cases h : b = c
      · subst h; simp [List.isPrefixOf]
      · have h' : c ≠ b := fun e => h e.symm
        simp [List.isPrefixOf, beq_eq_false_iff_ne.2 h, beq_eq_false_iff_ne.2 h']
    unfold Lib.index Lib.indexByte
    rw [index_one c l, hp]
theorem contains_one (l : List UInt8) (c : UInt8) : Lib.contains l [c] = decide (0 ≤ Lib.indexByte l c) := by
  unfold Lib.contains
  rw [index_one]
theorem toList_ne {s : ByteArray} (h : s.data.toList ≠ []) : s.toList ≠ [] := by
  rw [Lib.toList_data]; exact h
set_option maxHeartbeats 1000000 in
set_option maxRecDepth 100000 in
theorem word_any (s : ByteArray) (m : Int) (w : World) (hs : s.size ≤ 262144) (hm : w.cell? ⟨1, 0, none⟩ = some (.int .i64 m)) :
    Calls Tryz.prog 7 #[.string s] w fun e w' => e = .returned (.bool (Lx.isWord s.data.toList)) ∧ w' = w := by
  by_cases h0 : s.data.toList = []
  · obtain rfl : s = ⟨#[]⟩ := by
      apply ByteArray.ext
      simpa using h0
    go_enter Tryz.func7, Tryz.ntmps7
    go_wp2_with fail
    go_ret
    exact ⟨by rfl, rfl⟩
  · have g1 := toList_ne h0
    have g2 : (!s.toList.isEmpty) = true := by simpa using g1
    cases h1 : Lib.contains s.data.toList [32] with
    | true =>
      have H1 := Lib.hid h1
      have H0 := Lib.hid h0
      clear h1 h0
      go_enter Tryz.func7, Tryz.ntmps7
      go_wp2_with fail
      refine (Tryz.strings_Contains_one s 32 _).mono ?_
      rintro e w' ⟨rfl, rfl⟩
      rw [← contains_one, H1.out]
      go_wp2
      go_ret
      refine ⟨ret_bool ?_, rfl⟩
      simp [Lx.isWord, H1.out]
    | false =>
      have H1 := Lib.hid h1
      have H0 := Lib.hid h0
      clear h1 h0
      go_enter Tryz.func7, Tryz.ntmps7
      go_wp2_with fail
      refine (Tryz.strings_Contains_one s 32 _).mono ?_
      rintro e w' ⟨rfl, rfl⟩
      rw [← contains_one, H1.out]
      go_wp2_with fail
      refine (Tryz.strings_Contains _ _ m _ (by decide) hm).mono ?_
      rintro e w' ⟨rfl, rfl⟩
      go_wp2
      go_ret
      refine ⟨ret_bool ?_, rfl⟩
      show Lib.contains Lx.words _ = _
      have h3 : ¬ s.data = #[] := fun e => H0.out (by rw [e])
      simp [Lx.isWord, H1.out, h3]
section
variable {b g : Nat} {s : ByteArray} {lv ov : Value} {p : Nat} {ln : Bool} {opn : List Int} {l : List UInt8}
/-- What is asked of the scanner's comment at place p. -/
def CmPost (E : Lx.Env) (b : Nat) (s : ByteArray) (lv : Value) (p : Nat) (ln : Bool) (ov : Value) (opn : List Int) (w : World) (e : Ending) (w' : World) : Prop :=
  Kf (So b) w w' ∧ match Lx.comment E s.data.toList p ln with
    | .no => e = .returned (.bool false) ∧ Scn b s lv p ln ov opn w'
    | .till q ln' => e = .returned (.bool true) ∧ Scn b s lv q ln' ov opn w' ∧ p < q ∧ q ≤ s.size
    | .bad => e = wrongAt p
def CmOk (E : Lx.Env) (s : ByteArray) (V : Nat → Prop) : Prop :=
  ∀ (b : Nat) (lv ov : Value) (p : Nat) (ln : Bool) (opn : List Int) (w : World), V p → p ≤ s.size → Scn b s lv p ln ov opn w →
    Calls Tryz.prog 77 #[.pointer (some ⟨b, 0, none⟩)] w (CmPost E b s lv p ln ov opn w)
/-- A set of places that skip does not leave. -/
structure VSkip (E : Lx.Env) (l : List UInt8) (V : Nat → Prop) : Prop where
  nl : ∀ p q, V p → Lx.nl l p = some q → V q
  bl : ∀ p q, V p → Lx.nl l p = none → Lx.bl l p = some q → V q
  cm : ∀ p q ln ln', V p → Lx.nl l p = none → Lx.bl l p = none → Lx.comment E l p ln = .till q ln' → V q
def SkipPost (b : Nat) (s : ByteArray) (lv ov : Value) (opn : List Int) (w : World) (r : Except Nat (Nat × Bool)) (e : Ending) (w' : World) : Prop :=
  Kf (So b) w w' ∧ match r with
    | .ok (q, ln') => e = .returned (.tuple #[]) ∧ Scn b s lv q ln' ov opn w'
    | .error a => e = wrongAt a
theorem comment_bad_lt {E : Lx.Env} {l : List UInt8} {p : Nat} {ln : Bool} (h : Lx.comment E l p ln = .bad) (hp : p ≤ l.length) : p < l.length := by
  unfold Lx.comment at h
  split at h
  · cases h
  · split at h
    · rename_i h2
      have := Lx.pre_le h2 hp
      simp at this
      omega
    · cases h
/-- Where the scanner at block b stands. -/
def posQ (b : Nat) (w : World) : Nat := match w.cell? ⟨b, 1, none⟩ with | some (.int _ n) => n.toNat | _ => 0
theorem posQ_scn {w : World} (h : Scn b s lv p ln ov opn w) : posQ b w = p := by simp [posQ, h.c1]
set_option maxHeartbeats 1000000 in
set_option maxRecDepth 100000 in
theorem skip_any (E : Lx.Env) (V : Nat → Prop) (hC : CmOk E s V) (hV : VSkip E s.data.toList V) (w : World) (hs : s.size ≤ 262144) (hp : p ≤ s.size) (hvp : V p) (h : Scn b s lv p ln ov opn w) :
    Calls Tryz.prog 56 #[.pointer (some ⟨b, 0, none⟩)] w (SkipPost b s lv ov opn w (Lx.skip E s.data.toList (s.data.toList.length - p) p ln)) := by
  have hlen : s.data.toList.length = s.size := by simp
  have HG := Lib.hid (rfl : Lx.skip E s.data.toList (s.data.toList.length - p) p ln = Lx.skip E s.data.toList (s.data.toList.length - p) p ln)
  have HC := Lib.hid hC
  have HV := Lib.hid hV
  have HVP := Lib.hid hvp
  have HS := Lib.hid h
  clear hC hV hvp h
  go_enter Tryz.func56, Tryz.ntmps56
  go_wp2
  go_loopw [] (fun wr => ∃ (f q : Nat) (lq : Bool), s.size ≤ f + q ∧ q ≤ s.size ∧ V q ∧ Scn b s lv q lq ov opn wr ∧ Kf (So b) w wr ∧ Lx.skip E s.data.toList f q lq = Lx.skip E s.data.toList (s.data.toList.length - p) p ln) (fun wr => s.size - posQ b wr)
  case atStart => exact ⟨_, p, ln, by omega, hp, HVP.out, HS.out, Kf.refl _ _, rfl⟩
  case round =>
    obtain ⟨f, q, lq, hf, hqs, hvq, hS, hK, hG⟩ := hrel
    have hpos := posQ_scn hS
    have HP1 := Lib.hid hpos
    have HS1 := Lib.hid hS
    have HK1 := Lib.hid hK
    have HG1 := Lib.hid hG
    have HVQ := Lib.hid hvq
    clear hpos hS hK hG hvq
    go_wp2_with fail
    refine (newline_any _ (by omega) hqs HS1.out).mono ?_
    rintro e w1 ⟨rfl, hK1, hS2⟩
    cases hn : Lx.nl s.data.toList q with
    | some q1 =>
      rw [hn] at hS2
      have hS2 : Scn b s lv q1 lq ov opn w1 := hS2
      have f2 := hS2.fz 2
      have c2 := hS2.c2
      have HS2 := Lib.hid hS2
      have HK2 := Lib.hid (HK1.out.trans hK1)
      have hq1 := Lx.nl_le hn (by omega)
      rw [hlen] at hq1
      have HN := Lib.hid hn
      clear hS2 hK1 hn
      obtain ⟨f, rfl⟩ : ∃ f', f = f' + 1 := ⟨f - 1, by omega⟩
      go_wp2
      go_roundw
      case rel => exact ⟨f, q1, true, by omega, hq1.2, HV.out.nl _ _ HVQ.out HN.out, HS2.out.setLn true, HK2.out.setB 2 _, by rw [← HG1.out]; simp only [Lx.skip, HN.out]⟩
      case measure => rw [posQ_scn (HS2.out.setLn true), HP1.out]; omega
    | none =>
      rw [hn] at hS2
      have hS2 : Scn b s lv q lq ov opn w1 := hS2
      have HS2 := Lib.hid hS2
      have HK2 := Lib.hid (HK1.out.trans hK1)
      have HN := Lib.hid hn
      clear hS2 hK1 hn
      go_wp2_with fail
      refine (blank_any _ (by omega) hqs HS2.out).mono ?_
      rintro e w2 ⟨rfl, hK3, hS3⟩
      cases hb : Lx.bl s.data.toList q with
      | some q1 =>
        rw [hb] at hS3
        have hS3 : Scn b s lv q1 lq ov opn w2 := hS3
        have HS3 := Lib.hid hS3
        have HK3 := Lib.hid (HK2.out.trans hK3)
        have hq1 := Lx.bl_le hb (by omega)
        rw [hlen] at hq1
        have HB := Lib.hid hb
        clear hS3 hK3 hb
        obtain ⟨f, rfl⟩ : ∃ f', f = f' + 1 := ⟨f - 1, by omega⟩
        go_wp2
        go_roundw
        case rel => exact ⟨f, q1, lq, by omega, hq1.2, HV.out.bl _ _ HVQ.out HN.out HB.out, HS3.out, HK3.out, by rw [← HG1.out]; simp only [Lx.skip, HN.out, HB.out]⟩
        case measure => rw [posQ_scn HS3.out, HP1.out]; omega
      | none =>
        rw [hb] at hS3
        have hS3 : Scn b s lv q lq ov opn w2 := hS3
        have HS3 := Lib.hid hS3
        have HK3 := Lib.hid (HK2.out.trans hK3)
        have HB := Lib.hid hb
        clear hS3 hK3 hb
        go_wp2_with fail
        refine (HC.out b lv ov q lq opn _ HVQ.out hqs HS3.out).mono ?_
        rintro e w3 ⟨hK4, hP⟩
        have HK4 := Lib.hid (HK3.out.trans hK4)
        clear hK4
        cases hc : Lx.comment E s.data.toList q lq with
        | no =>
          rw [hc] at hP
          obtain ⟨he, hS4⟩ := hP
          have HS4 := Lib.hid hS4
          have FIN := Lib.hid (show Lx.skip E s.data.toList f q lq = .ok (q, lq) by
            cases f with
            | zero => rfl
            | succ f => simp only [Lx.skip, HN.out, HB.out, hc])
          clear hS4 hc
          subst he
          go_wp2
          exact bodyPost_ret (v := .tuple #[]) (results_none rfl _ _ _) rfl ⟨HK4.out, by rw [← hlen, ← HG1.out, FIN.out]; exact ⟨rfl, HS4.out⟩⟩
        | till q1 ln1 =>
          rw [hc] at hP
          obtain ⟨he, hS4, hq1, hq2⟩ := hP
          have HS4 := Lib.hid hS4
          have HCM := Lib.hid hc
          clear hS4 hc
          subst he
          obtain ⟨f, rfl⟩ : ∃ f', f = f' + 1 := ⟨f - 1, by omega⟩
          go_wp2
          go_roundw
          case rel => exact ⟨f, q1, ln1, by omega, hq2, HV.out.cm _ _ _ _ HVQ.out HN.out HB.out HCM.out, HS4.out, HK4.out, by rw [← HG1.out]; simp only [Lx.skip, HN.out, HB.out, HCM.out]⟩
          case measure => rw [posQ_scn HS4.out, HP1.out]; omega
        | bad =>
          rw [hc] at hP
          have he : e = wrongAt q := hP
          have hlt := comment_bad_lt hc (by omega)
          obtain ⟨f, rfl⟩ : ∃ f', f = f' + 1 := ⟨f - 1, by omega⟩
          have FIN := Lib.hid (show Lx.skip E s.data.toList (f + 1) q lq = .error q by simp only [Lx.skip, HN.out, HB.out, hc])
          clear hP hc
          subst he
          unfold wrongAt
          go_wp2
          exact ⟨rfl, HK4.out, by rw [← hlen, ← HG1.out, FIN.out]; rfl⟩
end
end Go.Proofs.YtcgibcjpkhefpaaGreatDoor
namespace Go.Proofs.YtcgibcjpkhefpaaGreatDoor
open Go.RowKit
theorem ext_pre {s t : ByteArray} {p : Nat} (_h : p + t.size ≤ s.size) : ((s.extract p (p + t.size)).toList == t.toList) = Lx.pre t.data.toList s.data.toList p := by
  have ht : t.data.toList.length = t.size := by simp
  have e : (s.extract p (p + t.size)).data.toList = (s.data.toList.drop p).take t.data.toList.length := by
    rw [ByteArray.data_extract, ht]
    simp only [Array.toList_extract, List.extract_eq_take_drop]
    congr 1; omega
  rw [Lib.toList_data, Lib.toList_data, e, Bool.eq_iff_iff]
  unfold Lx.pre
  rw [List.isPrefixOf_iff_prefix, List.prefix_iff_eq_take, beq_iff_eq]
  exact eq_comm
theorem pre_long {t l : List UInt8} {p : Nat} (hp : p ≤ l.length) (h : l.length < p + t.length) : Lx.pre t l p = false := by
  cases hx : Lx.pre t l p with
  | false => rfl
  | true => have := pre_le hx hp; omega
theorem pre_one {s : ByteArray} {p : Nat} (h : p < s.size) (c : UInt8) : Lx.pre [c] s.data.toList p = (((s[p]'h).toNat : Int) == (c.toNat : Int)) := by
  unfold Lx.pre
  rw [List.drop_eq_getElem_cons (by simpa using h)]
  have e : s.data.toList[p]'(by simpa using h) = s[p]'h := by simp; rfl
  rw [e]
  simp only [List.isPrefixOf, Bool.and_true]
  rw [Bool.eq_iff_iff, beq_iff_eq, beq_iff_eq]
  constructor
  · rintro rfl; rfl
  · intro hx; exact (UInt8.toNat_inj.1 (by omega)).symm
section
variable {s : ByteArray} {p : Nat}
set_option maxHeartbeats 1000000 in
theorem rhas_any (t : ByteArray) (w : World) (hs : s.size ≤ 262144) (ht : t.size ≤ 8) (hp : p ≤ s.size) :
    Calls Tryz.prog 41 #[.string s, .int .i64 p, .string t] w fun e w' => e = .returned (.bool (Lx.pre t.data.toList s.data.toList p)) ∧ w' = w := by
  have hlen : s.data.toList.length = s.size := by simp
  have htl : t.data.toList.length = t.size := by simp
  have h1 : (p : Int) ≤ (s.size : Int) := by omega
  have h2 : IntKind.i64.wrap ((s.size : Int) - p) = (s.size : Int) - p := IntWalk.i64_in _ (by omega)
  by_cases hlt : p + t.size ≤ s.size
  · have h3 : IntKind.i64.wrap ((p : Int) + t.size) = (p : Int) + t.size := IntWalk.i64_in _ (by omega)
    have h4 : ((p : Int) + t.size).toNat = p + t.size := by omega
    have h5 : (t.size : Int) ≤ (s.size : Int) - p := by omega
    have h6 : (p : Int) ≤ (p : Int) + t.size := by omega
    have h7 : (p : Int) + t.size ≤ (s.size : Int) := by omega
    have h8 : 0 ≤ (p : Int) + t.size := by omega
    go_enter Tryz.func41, Tryz.ntmps41
    go_wp2
    go_ret
    exact ⟨ret_bool (ext_pre hlt), rfl⟩
  · have h5 : decide ((t.size : Int) ≤ (s.size : Int) - p) = false := by simp; omega
    go_enter Tryz.func41, Tryz.ntmps41
    go_wp2
    go_ret
    exact ⟨ret_bool (pre_long (by omega) (by omega)).symm, rfl⟩
set_option maxHeartbeats 2000000 in
theorem rline_any (w : World) (hs : s.size ≤ 262144) (hp : p ≤ s.size) :
    Calls Tryz.prog 40 #[.string s, .int .i64 p] w fun e w' => e = .returned (.int .i64 (Lx.rline s.data.toList p)) ∧ w' = w := by
  have hlen : s.data.toList.length = s.size := by simp
  obtain ⟨R, hR⟩ : ∃ R, Lx.rline s.data.toList p = R := ⟨_, rfl⟩
  rw [hR]
  unfold Lx.rline at hR
  by_cases hlt : p < s.size
  · have hi : (p : Int) < s.size := by omega
    rw [pre_one hlt 10, pre_one hlt 13] at hR
    have HR := Lib.hid hR
    clear hR
    cases hA : (((s[p]'hlt).toNat : Int) == 10) with
    | true =>
      go_enter Tryz.func40, Tryz.ntmps40
      go_wp2
      go_ret
      exact ⟨by rw [← HR.out]; simp [hA], rfl⟩
    | false =>
      cases hB : (((s[p]'hlt).toNat : Int) == 13) with
      | true =>
        go_enter Tryz.func40, Tryz.ntmps40
        go_wp2
        go_ret
        exact ⟨by rw [← HR.out]; simp [hB], rfl⟩
      | false =>
        cases hC : Lx.pre [226, 128, 168] s.data.toList p with
        | true =>
          have HC := Lib.hid hC
          clear hC
          go_enter Tryz.func40, Tryz.ntmps40
          go_wp2_with fail
          refine (rhas_any _ _ hs (by decide) hp).mono ?_
          rintro e w1 ⟨rfl, rfl⟩
          rw [show Lx.pre (⟨#[226, 128, 168]⟩ : ByteArray).data.toList s.data.toList p = true from HC.out]
          go_wp2
          go_ret
          exact ⟨by rw [← HR.out, HC.out]; simp [hA, hB], rfl⟩
        | false =>
          cases hD : Lx.pre [226, 128, 169] s.data.toList p with
          | true =>
            have HC := Lib.hid hC
            have HD := Lib.hid hD
            clear hC hD
            go_enter Tryz.func40, Tryz.ntmps40
            go_wp2_with fail
            refine (rhas_any _ _ hs (by decide) hp).mono ?_
            rintro e w1 ⟨rfl, rfl⟩
            rw [show Lx.pre (⟨#[226, 128, 168]⟩ : ByteArray).data.toList s.data.toList p = false from HC.out]
            go_wp2_with fail
            refine (rhas_any _ _ hs (by decide) hp).mono ?_
            rintro e w1 ⟨rfl, rfl⟩
            rw [show Lx.pre (⟨#[226, 128, 169]⟩ : ByteArray).data.toList s.data.toList p = true from HD.out]
            go_wp2
            go_ret
            exact ⟨by rw [← HR.out, HD.out]; simp [hA, hB], rfl⟩
          | false =>
            have HC := Lib.hid hC
            have HD := Lib.hid hD
            clear hC hD
            go_enter Tryz.func40, Tryz.ntmps40
            go_wp2_with fail
            refine (rhas_any _ _ hs (by decide) hp).mono ?_
            rintro e w1 ⟨rfl, rfl⟩
            rw [show Lx.pre (⟨#[226, 128, 168]⟩ : ByteArray).data.toList s.data.toList p = false from HC.out]
            go_wp2_with fail
            refine (rhas_any _ _ hs (by decide) hp).mono ?_
            rintro e w1 ⟨rfl, rfl⟩
            rw [show Lx.pre (⟨#[226, 128, 169]⟩ : ByteArray).data.toList s.data.toList p = false from HD.out]
            go_wp2
            go_ret
            exact ⟨by rw [← HR.out, HC.out, HD.out]; simp [hA, hB], rfl⟩
  · have hi : decide ((p : Int) < s.size) = false := by simp; omega
    rw [pre_long (by omega) (by simp; omega), pre_long (by omega) (by simp; omega), pre_long (by omega) (by simp; omega), pre_long (by omega) (by simp; omega)] at hR
    have HR := Lib.hid hR
    have HC := Lib.hid (show Lx.pre [226, 128, 168] s.data.toList p = false from pre_long (by omega) (by simp; omega))
    have HD := Lib.hid (show Lx.pre [226, 128, 169] s.data.toList p = false from pre_long (by omega) (by simp; omega))
    clear hR
    go_enter Tryz.func40, Tryz.ntmps40
    go_wp2_with fail
    refine (rhas_any _ _ hs (by decide) hp).mono ?_
    rintro e w1 ⟨rfl, rfl⟩
    rw [show Lx.pre (⟨#[226, 128, 168]⟩ : ByteArray).data.toList s.data.toList p = false from HC.out]
    go_wp2_with fail
    refine (rhas_any _ _ hs (by decide) hp).mono ?_
    rintro e w1 ⟨rfl, rfl⟩
    rw [show Lx.pre (⟨#[226, 128, 169]⟩ : ByteArray).data.toList s.data.toList p = false from HD.out]
    go_wp2
    go_ret
    exact ⟨by rw [← HR.out]; simp, rfl⟩
set_option maxHeartbeats 4000000 in
theorem rblank_any (w : World) (hs : s.size ≤ 262144) (hp : p ≤ s.size) :
    Calls Tryz.prog 39 #[.string s, .int .i64 p] w fun e w' => e = .returned (.int .i64 (Lx.rblank s.data.toList p)) ∧ w' = w := by
  have hlen : s.data.toList.length = s.size := by simp
  obtain ⟨R, hR⟩ : ∃ R, Lx.rblank s.data.toList p = R := ⟨_, rfl⟩
  rw [hR]
  unfold Lx.rblank at hR
  by_cases hlt : p < s.size
  · have hi : (p : Int) < s.size := by omega
    rw [pre_one hlt 9, pre_one hlt 11, pre_one hlt 12, pre_one hlt 32] at hR
    have HR := Lib.hid hR
    clear hR
    cases hA : (((s[p]'hlt).toNat : Int) == 9) with
    | true =>
      go_enter Tryz.func39, Tryz.ntmps39
      go_wp2
      go_ret
      exact ⟨by rw [← HR.out]; simp [hA], rfl⟩
    | false =>
      cases hB : (((s[p]'hlt).toNat : Int) == 11) with
      | true =>
        go_enter Tryz.func39, Tryz.ntmps39
        go_wp2
        go_ret
        exact ⟨by rw [← HR.out]; simp [hB], rfl⟩
      | false =>
        cases hE : (((s[p]'hlt).toNat : Int) == 12) with
        | true =>
          go_enter Tryz.func39, Tryz.ntmps39
          go_wp2
          go_ret
          exact ⟨by rw [← HR.out]; simp [hE], rfl⟩
        | false =>
          cases hF : (((s[p]'hlt).toNat : Int) == 32) with
          | true =>
            go_enter Tryz.func39, Tryz.ntmps39
            go_wp2
            go_ret
            exact ⟨by rw [← HR.out]; simp [hF], rfl⟩
          | false =>
            cases hC : Lx.pre [194, 160] s.data.toList p with
            | true =>
              have HC := Lib.hid hC
              clear hC
              go_enter Tryz.func39, Tryz.ntmps39
              go_wp2_with fail
              refine (rhas_any _ _ hs (by decide) hp).mono ?_
              rintro e w1 ⟨rfl, rfl⟩
              rw [show Lx.pre (⟨#[194, 160]⟩ : ByteArray).data.toList s.data.toList p = true from HC.out]
              go_wp2
              go_ret
              exact ⟨by rw [← HR.out, HC.out]; simp [hA, hB, hE, hF], rfl⟩
            | false =>
              cases hD : Lx.pre [239, 187, 191] s.data.toList p with
              | true =>
                have HC := Lib.hid hC
                have HD := Lib.hid hD
                clear hC hD
                go_enter Tryz.func39, Tryz.ntmps39
                go_wp2_with fail
                refine (rhas_any _ _ hs (by decide) hp).mono ?_
                rintro e w1 ⟨rfl, rfl⟩
                rw [show Lx.pre (⟨#[194, 160]⟩ : ByteArray).data.toList s.data.toList p = false from HC.out]
                go_wp2_with fail
                refine (rhas_any _ _ hs (by decide) hp).mono ?_
                rintro e w1 ⟨rfl, rfl⟩
                rw [show Lx.pre (⟨#[239, 187, 191]⟩ : ByteArray).data.toList s.data.toList p = true from HD.out]
                go_wp2
                go_ret
                exact ⟨by rw [← HR.out, HC.out, HD.out]; simp [hA, hB, hE, hF], rfl⟩
              | false =>
                have HC := Lib.hid hC
                have HD := Lib.hid hD
                clear hC hD
                go_enter Tryz.func39, Tryz.ntmps39
                go_wp2_with fail
                refine (rhas_any _ _ hs (by decide) hp).mono ?_
                rintro e w1 ⟨rfl, rfl⟩
                rw [show Lx.pre (⟨#[194, 160]⟩ : ByteArray).data.toList s.data.toList p = false from HC.out]
                go_wp2_with fail
                refine (rhas_any _ _ hs (by decide) hp).mono ?_
                rintro e w1 ⟨rfl, rfl⟩
                rw [show Lx.pre (⟨#[239, 187, 191]⟩ : ByteArray).data.toList s.data.toList p = false from HD.out]
                go_wp2
                go_ret
                exact ⟨by rw [← HR.out, HC.out, HD.out]; simp [hA, hB, hE, hF], rfl⟩
  · have hi : decide ((p : Int) < s.size) = false := by simp; omega
    rw [pre_long (by omega) (by simp; omega), pre_long (by omega) (by simp; omega), pre_long (by omega) (by simp; omega), pre_long (by omega) (by simp; omega), pre_long (by omega) (by simp; omega), pre_long (by omega) (by simp; omega)] at hR
    have HR := Lib.hid hR
    have HC := Lib.hid (show Lx.pre [194, 160] s.data.toList p = false from pre_long (by omega) (by simp; omega))
    have HD := Lib.hid (show Lx.pre [239, 187, 191] s.data.toList p = false from pre_long (by omega) (by simp; omega))
    clear hR
    go_enter Tryz.func39, Tryz.ntmps39
    go_wp2_with fail
    refine (rhas_any _ _ hs (by decide) hp).mono ?_
    rintro e w1 ⟨rfl, rfl⟩
    rw [show Lx.pre (⟨#[194, 160]⟩ : ByteArray).data.toList s.data.toList p = false from HC.out]
    go_wp2_with fail
    refine (rhas_any _ _ hs (by decide) hp).mono ?_
    rintro e w1 ⟨rfl, rfl⟩
    rw [show Lx.pre (⟨#[239, 187, 191]⟩ : ByteArray).data.toList s.data.toList p = false from HD.out]
    go_wp2
    go_ret
    exact ⟨by rw [← HR.out]; simp, rfl⟩
end
end Go.Proofs.YtcgibcjpkhefpaaGreatDoor

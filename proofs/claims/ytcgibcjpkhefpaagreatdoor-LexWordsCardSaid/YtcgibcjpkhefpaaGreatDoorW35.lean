/-
  The reference's Name, and that the two texts agree on words and names.
-/
import Derived.Test.YtcgibcjpkhefpaaGreatDoorW32
import Derived.Test.YtcgibcjpkhefpaaGreatDoorP0
namespace Go.Proofs.YtcgibcjpkhefpaaGreatDoor
open Go.RowKit
theorem words_line : Lx.words = Lx.lineOf wordList := by decide +kernel
theorem words_plain : ∀ w ∈ wordList, (32 : UInt8) ∉ w ∧ w ≠ [] := by decide +kernel
theorem contains_32 (t : List UInt8) : Lib.contains t [32] = decide ((32 : UInt8) ∈ t) := by
  induction t with
  | nil => decide
  | cons c t ih =>
    rw [Lx.contains_cons, ih]
    by_cases h : (32 : UInt8) = c
    · subst h; simp [List.isPrefixOf]
    · simp [List.isPrefixOf, h]
/-- lex.Word's answer is the reference's. -/
theorem isWord_list (t : List UInt8) : Lx.isWord t = wordList.contains t := by
  unfold Lx.isWord
  by_cases h0 : t = []
  · subst h0; decide +kernel
  · have he : (!t.isEmpty) = true := by cases t with | nil => exact absurd rfl h0 | cons => rfl
    rw [he, contains_32, Bool.true_and]
    by_cases h32 : (32 : UInt8) ∈ t
    · have : wordList.contains t = false := by
        rw [Bool.eq_false_iff]
        intro h
        exact (words_plain t (by simpa using h)).1 h32
      rw [this]; simp [h32]
    · rw [words_line, Lx.line_contains t h32 h0 wordList (fun w hw => (words_plain w hw).1)]
      simp [h32]
def moreB (c : UInt8) : Bool := Lx.isLet c || Lx.isDig c
theorem name_no_let {l : List UInt8} (h : Lx.isLet (Lx.pk l 0) = false) : Lx.isName l = false := by
  cases l with
  | nil => rfl
  | cons c r =>
    have h : Lx.isLet c = false := h
    simp [Lx.isName, h]
theorem name_word {l : List UInt8} (h : wordList.contains l = true) : Lx.isName l = false := by
  rw [isName_eq, isWord_list, h]; simp
theorem name_yes {l : List UInt8} (h0 : l ≠ []) (h1 : Lx.isLet (Lx.pk l 0) = true) (h2 : wordList.contains l = false) : Lx.isName l = l.all moreB := by
  cases l with
  | nil => exact absurd rfl h0
  | cons c r =>
    have h1 : Lx.isLet c = true := h1
    rw [isName_eq, isWord_list, h2]
    have hm : moreB c = true := by simp [moreB, h1]
    simp [nmB, h1, hm]
    rfl
set_option maxHeartbeats 2000000 in
set_option maxRecDepth 100000 in
theorem rname_any (s : ByteArray) (w : World) (hs : s.size ≤ 262144) :
    Calls Tryz.prog 10 #[.string s] w fun e w' => e = .returned (.bool (Lx.isName s.data.toList)) ∧ Below w.heap.size w w' := by
  have hlen : s.data.toList.length = s.size := by simp
  by_cases h0 : s.data.toList = []
  · obtain rfl : s = ⟨#[]⟩ := by
      apply ByteArray.ext
      simpa using h0
    clear hlen h0 hs
    go_enter Tryz.func10, Tryz.ntmps10
    go_wp2_with fail
    exact bodyPost_ret (v := .bool false) (by simp [results, Tryz.results10]) rfl ⟨rfl, Below.refl _ _⟩
  · have g1 := toList_ne h0
    have hpos : 0 < s.size := by
      rcases Nat.eq_zero_or_pos s.size with h | h
      · exact absurd (List.length_eq_zero_iff.1 (by omega)) h0
      · exact h
    have HPK := Lib.hid (show Lx.pk s.data.toList 0 = s[0]'hpos by simp [Lx.pk, hpos]; rfl)
    have H0 := Lib.hid h0
    clear h0
    cases h1 : Lx.isLet (s[0]'hpos) with
    | false =>
      go_enter Tryz.func10, Tryz.ntmps10
      go_wp2_with fail
      refine (rletter_any _ _).mono ?_
      rintro e w1 ⟨rfl, rfl⟩
      rw [h1]
      go_wp2_with fail
      exact bodyPost_ret (v := .bool false) (by simp [results, Tryz.results10]) rfl ⟨ret_bool (name_no_let (by rw [HPK.out, h1])).symm, Below.refl _ _⟩
    | true =>
      cases h2 : wordList.contains s.data.toList with
      | true =>
        have H2 := Lib.hid h2
        clear h2
        go_enter Tryz.func10, Tryz.ntmps10
        go_wp2_with fail
        refine (rletter_any _ _).mono ?_
        rintro e w1 ⟨rfl, rfl⟩
        rw [h1]
        go_wp2_with fail
        refine (rword_any s _).mono ?_
        rintro e w2 ⟨rfl, hb⟩
        rw [H2.out]
        go_wp2_with fail
        exact bodyPost_ret (v := .bool false) (by simp [results, Tryz.results10]) rfl ⟨ret_bool (name_word H2.out).symm, hb⟩
      | false =>
        have HY := Lib.hid (name_yes H0.out (by rw [HPK.out, h1]) h2)
        have H2 := Lib.hid h2
        clear h2
        go_enter Tryz.func10, Tryz.ntmps10
        go_wp2_with fail
        refine (rletter_any _ _).mono ?_
        rintro e w1 ⟨rfl, rfl⟩
        rw [h1]
        go_wp2_with fail
        refine (rword_any s _).mono ?_
        rintro e w2 ⟨rfl, hb⟩
        rw [H2.out]
        have HB := Lib.hid hb
        clear hb h1
        go_wp2_with fail
        · exfalso
          simp_all
        rename s.toList.isEmpty = false => hemp
        clear hemp g1
        go_loopw [3] (fun i wr => ∃ j : Nat, i = .int .i64 j ∧ wr = w2 ∧ j ≤ s.size ∧ ∀ q < j, moreB (Lx.pk s.data.toList q) = true) (fun i _ => s.size - (intOf i).toNat)
        case atStart => exact ⟨0, rfl, rfl, by omega, fun q h => by omega⟩
        case round =>
          obtain ⟨j, rfl, rfl, hj, hr⟩ := hrel
          have HR := Lib.hid hr
          clear hr
          by_cases hlt : j < s.size
          · have HPK := Lib.hid (show Lx.pk s.data.toList j = s[j]'hlt by simp [Lx.pk, hlt]; rfl)
            cases h3 : (Lx.isLet (s[j]'hlt) || Lx.isDig (s[j]'hlt)) with
            | true =>
              go_wp2_with fail
              refine (rmore_any _ _).mono ?_
              rintro e w3 ⟨rfl, rfl⟩
              rw [h3]
              go_wp2_with fail
              go_roundw
              case rel => exact ⟨j + 1, by simp, (by first | exact trivial | rfl), by omega, fun q hq => by
                rcases Nat.lt_succ_iff_lt_or_eq.1 hq with hq | rfl
                · exact HR.out q hq
                · rw [HPK.out]; exact h3⟩
              case measure => simp [intOf]; omega
            | false =>
              go_wp2_with fail
              refine (rmore_any _ _).mono ?_
              rintro e w3 ⟨rfl, rfl⟩
              rw [h3]
              go_wp2_with fail
              refine bodyPost_ret (v := .bool false) (by simp [results, Tryz.results10]) rfl ⟨ret_bool ?_, HB.out⟩
              rw [HY.out]
              symm
              rw [Bool.eq_false_iff]
              intro ha
              have hel : s.data.toList[j]'(by omega) ∈ s.data.toList := List.getElem_mem _
              have hx := List.all_eq_true.1 ha _ hel
              have hpe : s.data.toList[j]'(by omega) = s[j]'hlt := by simp; rfl
              rw [hpe] at hx
              have hx : (Lx.isLet (s[j]'hlt) || Lx.isDig (s[j]'hlt)) = true := hx
              rw [h3] at hx
              cases hx
          · go_wp2_with fail
            refine bodyPost_ret (v := .bool true) (by simp [results, Tryz.results10]) rfl ⟨ret_bool ?_, HB.out⟩
            rw [HY.out]
            symm
            rw [List.all_eq_true]
            intro c hc
            obtain ⟨q, hq, rfl⟩ := List.getElem_of_mem hc
            have := HR.out q (by omega)
            have e : Lx.pk s.data.toList q = s.data.toList[q] := by simp only [Lx.pk, List.getElem?_eq_getElem hq, Option.getD_some]
            rw [e] at this
            exact this
end Go.Proofs.YtcgibcjpkhefpaaGreatDoor

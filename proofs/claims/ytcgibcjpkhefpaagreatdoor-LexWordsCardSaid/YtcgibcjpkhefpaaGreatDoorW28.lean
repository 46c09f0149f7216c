/-
  A part of the proof: lex.Name.
-/
import Derived.Test.YtcgibcjpkhefpaaGreatDoorW27
namespace Go.Proofs.YtcgibcjpkhefpaaGreatDoor
open Go.RowKit
def nmOk (l : List UInt8) (q : Nat) : Bool := Lx.isLet (Lx.pk l q) || (!(q == 0) && Lx.isDig (Lx.pk l q))
def nmB : List UInt8 → Bool
  | [] => false
  | c :: r => Lx.isLet c && r.all (fun c => Lx.isLet c || Lx.isDig c)
theorem isName_eq (l : List UInt8) : Lx.isName l = (nmB l && !Lx.isWord l) := by cases l <;> rfl
theorem nm_all {l : List UInt8} (h0 : l ≠ []) : (∀ q < l.length, nmOk l q = true) ↔ nmB l = true := by
  cases l with
  | nil => exact absurd rfl h0
  | cons c r =>
    simp only [nmB, Bool.and_eq_true, List.all_eq_true]
    constructor
    · intro h
      refine ⟨by simpa [nmOk, Lx.pk] using h 0 (by simp), fun x hx => ?_⟩
      obtain ⟨n, hn, rfl⟩ := List.getElem_of_mem hx
      have := h (n + 1) (by simp; omega)
      simpa [nmOk, Lx.pk, hn] using this
    · rintro ⟨h1, h2⟩ q hq
      cases q with
      | zero => simp [nmOk, Lx.pk, h1]
      | succ n =>
        have hn : n < r.length := by simp at hq; omega
        have := h2 _ (List.getElem_mem hn)
        simpa [nmOk, Lx.pk, hn] using this
theorem isName_no {l : List UInt8} {q : Nat} (hq : q < l.length) (h : nmOk l q = false) : Lx.isName l = false := by
  have h0 : l ≠ [] := by rintro rfl; simp at hq
  have := mt (nm_all h0).2 (fun h1 => by have := h1 q hq; rw [h] at this; cases this)
  rw [isName_eq, Bool.eq_false_iff.2 this]; rfl
theorem isName_ok {l : List UInt8} (h0 : l ≠ []) (h : ∀ q < l.length, nmOk l q = true) : Lx.isName l = !Lx.isWord l := by
  rw [isName_eq, (nm_all h0).1 h]; rfl
set_option maxHeartbeats 2000000 in
set_option maxRecDepth 100000 in
theorem lname_any (s : ByteArray) (w : World) (m : Int) (hs : s.size ≤ 262144) (hm : w.cell? ⟨1, 0, none⟩ = some (.int .i64 m)) :
    Calls Tryz.prog 9 #[.string s] w fun e w' => e = .returned (.bool (Lx.isName s.data.toList)) ∧ ∃ k, w' = w.drewN k := by
  have hlen : s.data.toList.length = s.size := by simp
  go_enter Tryz.func9, Tryz.ntmps9
  go_wp2
  go_loopw [6] (fun i wr => ∃ j k : Nat, i = .int .i64 j ∧ wr = w.drewN k ∧ j ≤ s.size ∧ ∀ q < j, nmOk s.data.toList q = true) (fun i _ => s.size - (intOf i).toNat)
  case atStart => exact ⟨0, 0, rfl, rfl, by omega, fun q h => by omega⟩
  case round =>
    obtain ⟨j, k, rfl, rfl, hj, hr⟩ := hrel
    have HR := Lib.hid hr
    clear hr
    by_cases hlt : j < s.size
    · have HPK := Lib.hid (show Lx.pk s.data.toList j = s[j]'hlt by simp [Lx.pk, hlt]; rfl)
      cases h1 : Lx.isLet (s[j]'hlt) with
      | true =>
        go_wp2_with fail
        refine (letter_any _ _).mono ?_
        rintro e w1 ⟨rfl, rfl⟩
        rw [h1]
        go_wp2
        go_roundw
        case rel => exact ⟨j + 1, k, by simp, rfl, by omega, fun q hq => by
          rcases Nat.lt_succ_iff_lt_or_eq.1 hq with hq | rfl
          · exact HR.out q hq
          · simp [nmOk, HPK.out, h1]⟩
        case measure => simp [intOf]; omega
      | false =>
        cases h2 : Lx.isDig (s[j]'hlt) with
        | true =>
          by_cases hz : j = 0
          · subst hz
            go_wp2_with fail
            refine (letter_any _ _).mono ?_
            rintro e w1 ⟨rfl, rfl⟩
            rw [h1]
            go_wp2
            exact bodyPost_ret (v := .bool false) (by simp [results, Tryz.results9]) rfl ⟨ret_bool (isName_no (q := 0) (by omega) (by simp [nmOk, HPK.out, h1])).symm, k, rfl⟩
          · have hzi : ((j : Int) == 0) = false := by simp [hz]
            go_wp2_with fail
            refine (letter_any _ _).mono ?_
            rintro e w1 ⟨rfl, rfl⟩
            rw [h1]
            go_wp2_with fail
            refine (digit_any _ _).mono ?_
            rintro e w1 ⟨rfl, rfl⟩
            rw [h2]
            go_wp2
            go_roundw
            case rel => exact ⟨j + 1, k, by simp, rfl, by omega, fun q hq => by
              rcases Nat.lt_succ_iff_lt_or_eq.1 hq with hq | rfl
              · exact HR.out q hq
              · simp [nmOk, HPK.out, h2, hz]⟩
            case measure => simp [intOf]; omega
        | false =>
          have FIN : Lx.isName s.data.toList = false := isName_no (q := j) (by omega) (by simp [nmOk, HPK.out, h1, h2])
          by_cases hz : j = 0
          · subst hz
            go_wp2_with fail
            refine (letter_any _ _).mono ?_
            rintro e w1 ⟨rfl, rfl⟩
            rw [h1]
            go_wp2
            exact bodyPost_ret (v := .bool false) (by simp [results, Tryz.results9]) rfl ⟨ret_bool FIN.symm, k, rfl⟩
          · have hzi : ((j : Int) == 0) = false := by simp [hz]
            go_wp2_with fail
            refine (letter_any _ _).mono ?_
            rintro e w1 ⟨rfl, rfl⟩
            rw [h1]
            go_wp2_with fail
            refine (digit_any _ _).mono ?_
            rintro e w1 ⟨rfl, rfl⟩
            rw [h2]
            go_wp2
            exact bodyPost_ret (v := .bool false) (by simp [results, Tryz.results9]) rfl ⟨ret_bool FIN.symm, k, rfl⟩
    · have HALL := Lib.hid (show ∀ q < s.size, nmOk s.data.toList q = true from fun q hq => HR.out q (by omega))
      by_cases h0 : s.data.toList = []
      · obtain rfl : s = ⟨#[]⟩ := by
          apply ByteArray.ext
          simpa using h0
        obtain rfl : j = 0 := by have : (⟨#[]⟩ : ByteArray).size = 0 := rfl; omega
        clear HALL HR hlen hlt hj h0
        go_wp2_with fail
        exact bodyPost_ret (v := .bool false) (by simp [results, Tryz.results9]) rfl ⟨rfl, k, rfl⟩
      · have g1 := toList_ne h0
        have g2 : (!s.toList.isEmpty) = true := by simpa using g1
        have H0 := Lib.hid h0
        clear h0
        go_wp2_with fail
        refine (word_any s m (w.drewN k) hs hm).mono ?_
        rintro e w1 ⟨rfl, rfl⟩
        go_wp2
        exact bodyPost_ret (v := .bool (!Lx.isWord s.data.toList)) (by simp [results, Tryz.results9]) rfl ⟨ret_bool (isName_ok H0.out HALL.out).symm, k, rfl⟩
end Go.Proofs.YtcgibcjpkhefpaaGreatDoor

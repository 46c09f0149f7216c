/-
  strconv.ParseFloat (84) at any decimal text: through parseFloatPrefix (129), ParseFloat (110), toError (111).
-/
import Derived.Test.YtcgibcjpkhefpaaGreatDoorSh2
import Derived.Test.YtcgibcjpkhefpaaGreatDoorZN
namespace Go.Proofs.YtcgibcjpkhefpaaGreatDoor
open Go.RowKit
/-- The laid errors are something of an error's kind. -/
structure Errs (w : World) : Prop where
  a : ∃ v, w.cell? ⟨7, 0, none⟩ = some v ∧ (v = .nilIface ∨ ∃ te pe, v = .iface te pe)
  b : ∃ v, w.cell? ⟨8, 0, none⟩ = some v ∧ (v = .nilIface ∨ ∃ te pe, v = .iface te pe)
theorem Errs.keep {w w' : World} (h : Errs w) (hs : 8 < w.heap.size) (hb : Below w.heap.size w w') : Errs w' := by
  obtain ⟨⟨u, h1, h2⟩, v, h3, h4⟩ := h
  exact ⟨⟨u, by rw [hb.cell (p := ⟨7, 0, none⟩) (by show 7 < _; omega)]; exact h1, h2⟩, v, by rw [hb.cell (p := ⟨8, 0, none⟩) (by show 8 < _; omega)]; exact h3, h4⟩
set_option maxHeartbeats 2000000 in
theorem pprefix_any (t : ByteArray) (w : World) (h : NumTxt t) (hT : Tabs w) : Calls Tryz.prog 129 #[.string t, .int .i64 64] w (AtPost t w) := by
  have HT := Lib.hid hT
  have H := Lib.hid h
  clear hT h
  go_enter Tryz.func129, Tryz.ntmps129
  go_wp2_with fail
  refine (atof_any t _ H.out HT.out).mono ?_
  rintro e w1 ⟨⟨v, n, x, rfl, hx, hn⟩, hb⟩
  go_wp2
  exact bodyPost_ret (v := .tuple #[.float .f64 v, .int .i64 n, x]) (by simp [results, Tryz.results129]) rfl ⟨⟨v, n, x, rfl, hx, hn⟩, hb⟩
set_option maxHeartbeats 2000000 in
theorem iparse_any (t : ByteArray) (w : World) (h : NumTxt t) (hT : Tabs w) : Calls Tryz.prog 110 #[.string t, .int .i64 64] w fun e w' => (∃ (v : Nat) (x : Value), e = .returned (.tuple #[.float .f64 v, x]) ∧ ErrOk x) ∧ Below w.heap.size w w' := by
  have HT := Lib.hid hT
  have H := Lib.hid h
  clear hT h
  go_enter Tryz.func110, Tryz.ntmps110
  go_wp2_with fail
  refine (pprefix_any t _ H.out HT.out).mono ?_
  rintro e w1 ⟨⟨v, n, x, rfl, hx, hn⟩, hb⟩
  have HX := Lib.hid hx
  have HB := Lib.hid hb
  clear hx hb
  by_cases he : n = t.size
  · subst he
    go_wp2
    exact bodyPost_ret (v := .tuple #[.float .f64 v, x]) (by simp [results, Tryz.results110]) rfl ⟨⟨v, x, rfl, HX.out⟩, HB.out⟩
  · have b1 : (n == t.size) = false := by simp; omega
    have b1I : ((n : Int) == t.size) = false := by simp; omega
    go_wp2
    exact bodyPost_ret (v := .tuple #[.float .f64 0, .iface 165 (.int .i64 2)]) (by simp [results, Tryz.results110]) rfl ⟨⟨0, _, rfl, Or.inr (Or.inr rfl)⟩, HB.out⟩
set_option maxHeartbeats 2000000 in
theorem parse_any (t : ByteArray) (w : World) (h : NumTxt t) (hT : Tabs w) (hE : Errs w) : Calls Tryz.prog 84 #[.string t, .int .i64 64] w fun e w' => (∃ (v : Nat) (x : Value), e = .returned (.tuple #[.float .f64 v, x])) ∧ Below w.heap.size w w' := by
  have HT := Lib.hid hT
  have HE := Lib.hid hE
  have H := Lib.hid h
  have hs8 := hT.sz
  have hsz := h.sz
  clear hT h hE
  go_enter Tryz.func84, Tryz.ntmps84
  go_wp2_with fail
  refine (iparse_any t _ H.out HT.out).mono ?_
  rintro e w1 ⟨⟨v, x, rfl, hx⟩, hb⟩
  have HB := Lib.hid hb
  obtain ⟨⟨e7, h7, h7'⟩, e8, h8, h8'⟩ := HE.out.keep (by omega) hb
  have H7 := Lib.hid h7
  have H7' := Lib.hid h7'
  have H8 := Lib.hid h8
  have H8' := Lib.hid h8'
  clear hb h7 h7' h8 h8'
  rcases hx with rfl | rfl | rfl
  · go_wp2
    exact bodyPost_ret (v := .tuple #[.float .f64 v, .nilIface]) (by simp [results, Tryz.results84]) rfl ⟨⟨v, _, rfl⟩, HB.out⟩
  · go_wp2_with fail
    refine (Tryz.strconv_toError_range _ t _ _ e8 _ (by omega) H8.out H8'.out).mono ?_
    rintro e w2 ⟨N, rfl, _, _, hb2⟩
    have HB2 := Lib.hid (HB.out.trans (hb2.mono HB.out.size))
    clear hb2
    go_wp2
    exact bodyPost_ret (v := .tuple #[.float .f64 v, .iface 166 (.pointer (some ⟨N, 0, none⟩))]) (by simp [results, Tryz.results84]) rfl ⟨⟨v, _, rfl⟩, HB2.out⟩
  · go_wp2_with fail
    refine (Tryz.strconv_toError_syntax _ t _ _ e7 _ (by omega) H7.out H7'.out).mono ?_
    rintro e w2 ⟨N, rfl, _, _, hb2⟩
    have HB2 := Lib.hid (HB.out.trans (hb2.mono HB.out.size))
    clear hb2
    go_wp2
    exact bodyPost_ret (v := .tuple #[.float .f64 v, .iface 166 (.pointer (some ⟨N, 0, none⟩))]) (by simp [results, Tryz.results84]) rfl ⟨⟨v, _, rfl⟩, HB2.out⟩
theorem pfOk_of {w0 : World} (hT : Tabs w0) (hE : Errs w0) : PfOk w0 := fun t w h hb => parse_any t w h (hT.keep hb) (hE.keep (by have := hT.sz; omega) hb)
end Go.Proofs.YtcgibcjpkhefpaaGreatDoor

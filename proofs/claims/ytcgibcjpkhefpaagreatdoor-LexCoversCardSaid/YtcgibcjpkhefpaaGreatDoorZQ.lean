/-
  digits.Literal (79) at any text: a number of some bytes, the last of them below 128, or the error.
  The scanner's token at any place: where it ends and what it begins with; the numbers' values are left open.
  The scanner's token and next at any text: in words of the row of tokens that covers it.
  each at any text: a row of tokens that covers it, or an error.
  lex.Scan at any text: an error, or a row of tokens that covers the text, which is UTF-8.
-/
import Derived.Test.YtcgibcjpkhefpaaGreatDoorZA
import Derived.Test.YtcgibcjpkhefpaaGreatDoorZC1
import Derived.Test.YtcgibcjpkhefpaaGreatDoorZE
import Derived.Test.YtcgibcjpkhefpaaGreatDoorZJ
import Derived.Test.YtcgibcjpkhefpaaGreatDoorZK
import Derived.Test.YtcgibcjpkhefpaaGreatDoorZN1
import Derived.Test.YtcgibcjpkhefpaaGreatDoorZS1
import Derived.Test.YtcgibcjpkhefpaaGreatDoorZU6
namespace Go.Lx
theorem worth_low : ∀ c : UInt8, worth c < 36 → c.toNat < 128 := u8_allG (by decide +kernel)
theorem numB_low {c : UInt8} (h : numB c) : c.toNat < 128 ∧ c.toNat ≠ 95 := by
  unfold numB at h; omega
theorem bn_at {l : List UInt8} {p : Nat} {c : UInt8} (h : l[p]? = some c) : bn l p = c.toNat := by unfold bn; rw [h]; rfl
theorem run_last {l : List UInt8} {n p : Nat} (hn : n ≤ 36) (h : 0 < run l n p) : bn l (p + run l n p - 1) < 128 := by
  obtain ⟨c, hc, hw⟩ := run_at (l := l) (n := n) (p := p) (i := run l n p - 1) (by omega)
  rw [show p + run l n p - 1 = p + (run l n p - 1) by omega, bn_at hc]
  exact worth_low c (by omega)
theorem numTo_last {l : List UInt8} {n : Nat} (h : NumTo l n) (h0 : 0 < n) : bn l (n - 1) < 128 := by
  have h1 := h.1
  have hc : l[n - 1]? = some (l[n - 1]'(by omega)) := List.getElem?_eq_getElem _
  rw [bn_at hc]
  exact (numB_low (h.2 _ _ (by omega) hc)).1
end Go.Lx
namespace Go.Proofs.YtcgibcjpkhefpaaGreatDoor
open Go.RowKit
theorem numTo_asc {t : ByteArray} {n : Nat} (h : Lx.NumTo t.data.toList n) : Asc (t.extract 0 n).data.toList := by
  intro b hb
  rw [ByteArray.data_extract, Array.toList_extract] at hb
  simp only [List.extract_eq_take_drop, List.drop_zero, Nat.sub_zero] at hb
  obtain ⟨i, hi⟩ := List.getElem?_of_mem hb
  have hlt : i < n := by
    have := (List.getElem?_eq_some_iff.1 hi).1
    simp at this; omega
  rw [List.getElem?_take_of_lt hlt] at hi
  exact Lx.numB_low (h.2 i b hlt hi)
/-- Behind digits.Literal. -/
def LitPost (t : ByteArray) (w : World) (e : Ending) (w' : World) : Prop :=
  Below w.heap.size w w' ∧ ((∃ v n : Nat, e = .returned (.tuple #[.float .f64 v, .int .i64 n, .int .i64 0]) ∧ 0 < n ∧ n ≤ t.size ∧ Lx.bn t.data.toList (n - 1) < 128) ∨ e = .returned (.tuple #[.float .f64 0, .int .i64 0, .int .i64 30]))
set_option maxHeartbeats 16000000 in
set_option maxRecDepth 100000 in
theorem literal_any (t : ByteArray) (w0 w : World) (hb0 : Below w0.heap.size w0 w) (hPF : PfOk w0) (hIt : ItOk w0) (hM : MaxOk w0) (ht : t.size ≤ 262144) : Calls Tryz.prog 79 #[.string t] w (LitPost t w) := by
  obtain ⟨hm1, m, hm⟩ := hM
  have hlen : t.data.toList.length = t.size := by simp
  have HFL := Lib.hid (fun (x : ByteArray) (w : World) (hb0 : Below w0.heap.size w0 w) (hx : x.size ≤ 262144) (hA : Asc x.data.toList) => float_any x w0 w hb0 hPF hIt m hm1 hm hx hA)
  have HB0 := Lib.hid hb0
  have hbad : ∀ w', Below w.heap.size w w' → LitPost t w (.returned (.tuple #[.float .f64 0, .int .i64 0, .int .i64 30])) w' := fun w' h => ⟨h, Or.inr rfl⟩
  have HBAD := Lib.hid hbad
  clear hb0 hPF hIt hm hbad
  go_enter Tryz.func79, Tryz.ntmps79
  go_wp2_with fail
  refine (prefix_any t _ ht).mono ?_
  rintro e w1 ⟨hb1, b, rfl, hb⟩
  have HB1 := Lib.hid hb1
  clear hb1
  go_upto_if 12 with fail
  go_cut [5, 6] (fun i x wc => ∃ n v : Nat, i = .int .i64 n ∧ x = .float .f64 v ∧ n ≤ t.size ∧ (0 < n → Lx.bn t.data.toList (n - 1) < 128) ∧ Below w.heap.size w wc)
  case first =>
    rcases hb with rfl | ⟨hbv, hb2, _⟩
    · go_wp2_with fail
      refine (decimal_any t _ ht).mono ?_
      rintro e w2 ⟨⟨n, rfl, hn⟩, hb2⟩
      have HN := Lib.hid hn
      have HB2 := Lib.hid (HB1.out.trans (hb2.mono HB1.out.size))
      have hnl : n ≤ t.size := by have := hn.1; omega
      clear hn hb2
      rcases Nat.eq_zero_or_pos n with rfl | hn0
      · go_wp2
        go_meet
        case rel => exact ⟨0, 0, rfl, rfl, by omega, fun h => absurd h (Nat.lt_irrefl _), HB2.out⟩
      have d0 : decide (0 < n) = true := by simp; omega
      have hs0 : 0 < t.size := by omega
      obtain ⟨v0, hv0⟩ : ∃ v, (t[0]'hs0).toNat = v := ⟨_, rfl⟩
      go_upto_region 10 with fail
      go_cut [43] (fun b wc => ∃ B : Bool, b = .bool B ∧ w2 = wc)
      case first =>
        by_cases h48 : v0 = 48
        · subst h48
          by_cases hn1 : 1 < n
          · have d1 : decide (1 < n) = true := by simp; omega
            have hs1 : 1 < t.size := by omega
            go_wp2_with fail
            refine (worth_any _ _).mono ?_
            rintro e w3 ⟨rfl, rfl⟩
            generalize Lx.worth (t[1]'hs1) = W at *
            go_wp2
            go_meet
            case rel => exact ⟨_, rfl, rfl⟩
          · have d1 : decide (1 < n) = false := by simp; omega
            go_wp2
            go_meet
            case rel => exact ⟨_, rfl, rfl⟩
        · have e48 : (v0 == 48) = false := by simp; omega
          have e48I : ((v0 : Int) == 48) = false := by simp; omega
          go_wp2
          go_meet
          case rel => exact ⟨_, rfl, rfl⟩
      case rest =>
        obtain ⟨B, rfl, rfl⟩ := hcut
        cases B
        · go_wp2_with fail
          refine (HFL.out _ _ (HB0.out.trans (HB2.out.mono HB0.out.size)) (by simp [ByteArray.size_extract]; omega) (numTo_asc HN.out)).mono ?_
          rintro e w3 ⟨⟨v, rfl⟩, hb3⟩
          go_wp2
          go_meet
          case rel => exact ⟨n, v, rfl, rfl, hnl, fun h => Lx.numTo_last HN.out h, HB2.out.trans (hb3.mono HB2.out.size)⟩
        · go_wp2
          exact bodyPost_ret (v := .tuple #[.float .f64 0, .int .i64 0, .int .i64 30]) (by simp [results, Tryz.results79]) rfl (HBAD.out _ HB2.out)
    · have hb36 : b ≤ 36 ∧ b ≠ 10 ∧ 0 < b := by omega
      have d0 : decide (0 < b) = true := by simp; omega
      clear hbv
      obtain ⟨K, hK⟩ : ∃ K, Lx.run t.data.toList b 2 = K := ⟨_, rfl⟩
      have hKl : 2 + K ≤ t.size := by have := Lx.run_le (l := t.data.toList) (n := b) (p := 2); omega
      have HLAST := Lib.hid (show 0 < K → Lx.bn t.data.toList (2 + K - 1) < 128 from fun h => by
        have := Lx.run_last (l := t.data.toList) (n := b) (p := 2) (by omega) (by omega)
        rwa [hK] at this)
      go_wp2_with fail
      refine (digitsOf_any b _).mono ?_
      rintro e w2 ⟨rfl, rfl⟩
      go_wp2_with fail
      refine (run_any t 2 b _ _ ht (by omega) (cell_new0 rfl)).mono ?_
      rintro e w2 ⟨rfl, m2, rfl⟩
      rw [hK]
      have HB2 := Lib.hid (HB1.out.trans ((((Kf.refl (fun _ _ => False) w1).alloc (.cells #[.int .i64 b] 3)).drewN m2).below HB1.out.size (fun _ _ h => h.elim)))
      generalize (w1.alloc (.cells #[.int .i64 b] 3)).drewN m2 = w2 at *
      clear hK
      rcases Nat.eq_zero_or_pos K with rfl | hK0
      · go_wp2
        exact bodyPost_ret (v := .tuple #[.float .f64 0, .int .i64 0, .int .i64 30]) (by simp [results, Tryz.results79]) rfl (HBAD.out _ HB2.out)
      have e0 : (K == 0) = false := by simp; omega
      have e0I : ((K : Int) == 0) = false := by simp; omega
      have hKI : (2 : Int) + K ≤ t.size := by omega
      go_wp2_with fail
      refine (exact_num _ b _ (by simp [ByteArray.size_extract]; omega) hb36.1 hb36.2.1).mono ?_
      rintro e w3 ⟨⟨v, rfl⟩, hb3⟩
      go_wp2
      go_meet
      case rel => exact ⟨2 + K, v, congrArg (Value.int .i64) (by omega), rfl, hKl, fun h => HLAST.out hK0, HB2.out.trans (hb3.mono HB2.out.size)⟩
  case rest =>
    obtain ⟨n, v, rfl, rfl, hn, hlast, hB⟩ := hcut
    have HB := Lib.hid hB
    have HLA := Lib.hid hlast
    clear hB hlast
    rename_i wc
    rcases Nat.eq_zero_or_pos n with rfl | hn0
    · go_wp2
      exact bodyPost_ret (v := .tuple #[.float .f64 0, .int .i64 0, .int .i64 30]) (by simp [results, Tryz.results79]) rfl (HBAD.out _ HB.out)
    have e0 : (n == 0) = false := by simp; omega
    have e0I : ((n : Int) == 0) = false := by simp; omega
    go_upto_region 13 with fail
    go_cut [80] (fun b wd => ∃ B : Bool, b = .bool B ∧ wc = wd)
    case first =>
      by_cases hlt : n < t.size
      · have d1 : decide (n < t.size) = true := by simp; omega
        go_wp2_with fail
        refine (worth_any _ _).mono ?_
        rintro e w3 ⟨rfl, rfl⟩
        obtain ⟨W, hW⟩ : ∃ W, Lx.worth (t[n]'hlt) = W := ⟨_, rfl⟩
        rw [hW]
        obtain ⟨c, hc⟩ : ∃ c, (t[n]'hlt).toNat = c := ⟨_, rfl⟩
        by_cases hW36 : W < 36
        · have d2 : decide (W < 36) = true := by simp; omega
          go_wp2
          go_meet
          case rel => exact ⟨_, rfl, rfl⟩
        have d2 : decide (W < 36) = false := by simp; omega
        by_cases h36 : c = 36
        · subst h36
          go_wp2
          go_meet
          case rel => exact ⟨_, rfl, rfl⟩
        have e36 : (c == 36) = false := by simp; omega
        have e36I : ((c : Int) == 36) = false := by simp; omega
        by_cases h95 : c = 95
        · subst h95
          go_wp2
          go_meet
          case rel => exact ⟨_, rfl, rfl⟩
        have e95 : (c == 95) = false := by simp; omega
        have e95I : ((c : Int) == 95) = false := by simp; omega
        go_wp2
        go_meet
        case rel => exact ⟨_, rfl, rfl⟩
      · have d1 : decide (n < t.size) = false := by simp; omega
        go_wp2
        go_meet
        case rel => exact ⟨_, rfl, rfl⟩
    case rest =>
      obtain ⟨B, rfl, rfl⟩ := hcut
      cases B
      · go_wp2
        exact bodyPost_ret (v := .tuple #[.float .f64 v, .int .i64 n, .int .i64 0]) (by simp [results, Tryz.results79]) rfl ⟨HB.out, Or.inl ⟨v, n, rfl, hn0, hn, HLA.out hn0⟩⟩
      · go_wp2
        exact bodyPost_ret (v := .tuple #[.float .f64 0, .int .i64 0, .int .i64 30]) (by simp [results, Tryz.results79]) rfl (HBAD.out _ HB.out)
end Go.Proofs.YtcgibcjpkhefpaaGreatDoor
namespace Go.Proofs.YtcgibcjpkhefpaaGreatDoor
open Go.RowKit
section
variable {b g : Nat} {s : ByteArray} {lv ov : Value} {p : Nat} {ln : Bool} {opn : List Int} {l : List UInt8}
/-- digits.Literal's answer in one form. -/
def LitUni (t : ByteArray) (w : World) (e : Ending) (w' : World) : Prop :=
  Below w.heap.size w w' ∧ ∃ (v n : Nat) (c : Int), e = .returned (.tuple #[.float .f64 v, .int .i64 n, .int .i64 c]) ∧ ((c = 0 ∧ 0 < n ∧ n ≤ t.size ∧ Lx.bn t.data.toList (n - 1) < 128) ∨ (c = 30 ∧ n = 0 ∧ v = 0))
theorem lit_uni {t : ByteArray} {w : World} {e : Ending} {w' : World} (h : LitPost t w e w') : LitUni t w e w' := by
  obtain ⟨hb, ⟨v, n, rfl, h1, h2, h3⟩ | rfl⟩ := h
  · exact ⟨hb, v, n, 0, rfl, Or.inl ⟨rfl, h1, h2, h3⟩⟩
  · exact ⟨hb, 0, 0, 30, rfl, Or.inr ⟨rfl, rfl, rfl⟩⟩
/-- digits.Literal answers at every place of the text. -/
def LitC (s : ByteArray) (w0 : World) : Prop := ∀ (p : Nat) (w : World), p < s.size → Below w0.heap.size w0 w → Calls Tryz.prog 79 #[.string (s.extract p s.size)] w (LitUni (s.extract p s.size) w)
/-- Behind a number. -/
def TNumPost (b : Nat) (s : ByteArray) (lv ov : Value) (p : Nat) (ln : Bool) (opn : List Int) (w : World) (e : Ending) (w' : World) : Prop :=
  Kf (Sp b) w w' ∧ ((∃ v n : Nat, e = .returned (tokV ⟨4, [], [], v⟩ 0 0 false) ∧ Scn b s lv (p + n) ln ov opn w' ∧ 0 < n ∧ p + n ≤ s.size ∧ Lx.bn s.data.toList (p + n - 1) < 128) ∨ e = wrongAt p)
theorem bn_ext (s : ByteArray) {p n : Nat} (_hp : p < s.size) (hn : 0 < n) : Lx.bn (s.extract p s.size).data.toList (n - 1) = Lx.bn s.data.toList (p + n - 1) := by
  unfold Lx.bn
  rw [ByteArray.data_extract, Array.toList_extract, List.extract_eq_take_drop]
  rw [List.take_of_length_le (by simp), List.getElem?_drop, show p + (n - 1) = p + n - 1 by omega]
set_option maxHeartbeats 4000000 in
set_option maxRecDepth 100000 in
theorem token_dig_num (w0 w : World) (hLO : LitC s w0) (hG : Below w0.heap.size w0 w) (hs : s.size ≤ 262144) (hp : p < s.size) (h : Scn b s lv p ln ov opn w) (hdg : Lx.isDig (Lx.pk s.data.toList p) = true) (hlf : Lx.isLet (Lx.pk s.data.toList p) = false) :
    Calls Tryz.prog 57 #[.pointer (some ⟨b, 0, none⟩)] w (TNumPost b s lv ov p ln opn w) := by
  have hlen : s.data.toList.length = s.size := by simp
  have h0 := h.c0
  have h1 := h.c1
  have f1 := h.fz 1
  have hbl := h.lt
  have HS := Lib.hid h
  clear h
  have hlt : (p : Int) < (s.size : Int) := by omega
  have hd : decide ((s.size : Int) ≤ (p : Int)) = false := by simp; omega
  have hdn : decide (s.size ≤ p) = false := by simp; omega
  obtain ⟨c, hc⟩ : ∃ c, Lx.pk s.data.toList p = c := ⟨_, rfl⟩
  rw [hc] at hdg hlf
  have HC := Lib.hid hc
  have HL := Lib.hid hlf
  have HD := Lib.hid hdg
  clear hc hdg hlf
  have HLO := Lib.hid hLO
  have HG := Lib.hid (show Below w0.heap.size w0 (w.alloc (.cells tok0 31)) from hG.alloc hG.size _)
  clear hLO hG
  have a0 : ∀ o, (w.alloc o).cell? ⟨b, 0, none⟩ = some (.string s) := fun o => (HS.out.alloc o).c0
  have a1 : ∀ o, (w.alloc o).cell? ⟨b, 1, none⟩ = some (.int .i64 p) := fun o => (HS.out.alloc o).c1
  go_enter Tryz.func57, Tryz.ntmps57
  go_wp2_with fail
  refine (peek0 _ (by omega) (by omega) (HS.out.alloc _)).mono ?_
  rintro e w1 ⟨rfl, n1, rfl⟩
  rw [HC.out]
  go_wp2
  go_quiet (fail)
  go_wp2_with fail
  refine (letter_any _ _).mono ?_
  rintro e w1 ⟨rfl, rfl⟩
  rw [HL.out]
  go_wp2_with fail
  refine (digit_any _ _).mono ?_
  rintro e w1 ⟨rfl, rfl⟩
  rw [HD.out]
  go_wp2
  go_region_with (first | (go_at_call 79; go_must (refine (HLO.out p _ hp ?_).mono ?_); go_must (exact below_dr HG.out _); go_must (rintro e w2 ⟨hb, v, n, c2, rfl, hres⟩)))
  all_goals
    have hSW := ((HS.out.alloc (.cells tok0 31)).drewN _).keep hb
    have h0 := hSW.c0
    have h1 := hSW.c1
    have f1 := hSW.fz 1
    have HSW := Lib.hid hSW
    have HKW := Lib.hid ((((Kf.refl (So b) w).alloc (.cells tok0 31)).drewN _).trans (Kf.of_below _ hb))
    have HRW := Lib.hid (show w2.heap[w.heap.size]? = some (.cells tok0 31 (0, 0)) by
      rw [hb.block w.heap.size (by simp)]; exact heap_alloc_new w _)
    clear hSW hb a0 a1
    rcases hres with ⟨rfl, hn0, hns, hlow⟩ | ⟨rfl, rfl, rfl⟩
    case' inr =>
      go_wp2
      exact ⟨rfl, HS.out.so_sp HKW.out, Or.inr rfl⟩
    have hsx : (s.extract p s.size).size = s.size - p := by simp [ByteArray.size_extract]
    rw [hsx] at hns
    have HLOW := Lib.hid hlow
    clear hlow hsx
    have hns : p + n ≤ s.size := by omega
    have HR := Lib.hid (show (w2.setCell ⟨b, 1, none⟩ (.int .i64 ((p : Int) + n))).heap[w.heap.size]? = some (.cells tok0 31 (0, 0)) by
      rw [Below.heap_setCell _ _ _ _ (by simp only; omega)]; exact HRW.out)
    go_wp2_with (refine wpList_store_row rfl 31 (.tmp 2) (.tmp 104) rfl w.heap.size #[.int .i64 4, .string ⟨#[]⟩, .string ⟨#[]⟩, .float .f64 v, .int .i64 0, .int .i64 0, .bool false] rfl rfl 31 tok0 HR.out size31 rfl (tok_one _ _ _ _ _ _ _) ?_)
    go_wp2
    refine bodyPost_ret (v := tokV ⟨4, [], [], v⟩ 0 0 false) (results_row rfl rfl (setRow_heap _ _ _ _ _ _ HR.out) rfl) rfl ?_
    exact ⟨(HS.out.so_sp (HKW.out.setB 1 _)).setRowNew (Nat.le_refl _) _, Or.inl ⟨v, n, rfl, Scn.setRow (HSW.out.setTo (by omega)) HR.out _, hn0, hns, by rw [← bn_ext s hp hn0]; exact HLOW.out⟩⟩

set_option maxHeartbeats 4000000 in
set_option maxRecDepth 100000 in
theorem token_point_num (w0 w : World) (hLO : LitC s w0) (hG : Below w0.heap.size w0 w) (hs : s.size ≤ 262144) (hp : p < s.size) (h : Scn b s lv p ln ov opn w) (hc : Lx.pk s.data.toList p = 46) (hdg : Lx.isDig (Lx.pk s.data.toList (p + 1)) = true) :
    Calls Tryz.prog 57 #[.pointer (some ⟨b, 0, none⟩)] w (TNumPost b s lv ov p ln opn w) := by
  have hlen : s.data.toList.length = s.size := by simp
  have h0 := h.c0
  have h1 := h.c1
  have f1 := h.fz 1
  have hbl := h.lt
  have HS := Lib.hid h
  clear h
  have hlt : (p : Int) < (s.size : Int) := by omega
  have hd : decide ((s.size : Int) ≤ (p : Int)) = false := by simp; omega
  have hdn : decide (s.size ≤ p) = false := by simp; omega
  have HC := Lib.hid hc
  have HD := Lib.hid hdg
  clear hc hdg
  have HLO := Lib.hid hLO
  have HG := Lib.hid (show Below w0.heap.size w0 (w.alloc (.cells tok0 31)) from hG.alloc hG.size _)
  clear hLO hG
  have a0 : ∀ o, (w.alloc o).cell? ⟨b, 0, none⟩ = some (.string s) := fun o => (HS.out.alloc o).c0
  have a1 : ∀ o, (w.alloc o).cell? ⟨b, 1, none⟩ = some (.int .i64 p) := fun o => (HS.out.alloc o).c1
  go_enter Tryz.func57, Tryz.ntmps57
  go_wp2_with fail
  refine (peek0 _ (by omega) (by omega) (HS.out.alloc _)).mono ?_
  rintro e w1 ⟨rfl, n1, rfl⟩
  rw [HC.out]
  go_wp2
  go_quiet (fail)
  go_wp2_with fail
  refine (letter_any 46 _).mono ?_
  rintro e w1 ⟨rfl, rfl⟩
  rw [show Lx.isLet 46 = false from by decide]
  go_wp2_with fail
  refine (digit_any 46 _).mono ?_
  rintro e w1 ⟨rfl, rfl⟩
  rw [show Lx.isDig 46 = false from by decide]
  go_wp2_with fail
  refine (peek1 _ (by omega) (by omega) ((HS.out.alloc _).drewN _)).mono ?_
  rintro e w1 ⟨rfl, n2, rfl⟩
  go_wp2_with fail
  refine (digit_any _ _).mono ?_
  rintro e w1 ⟨rfl, rfl⟩
  rw [HD.out]
  go_wp2
  go_region_with (first | (go_at_call 79; go_must (refine (HLO.out p _ hp ?_).mono ?_); go_must (exact below_dr HG.out _); go_must (rintro e w2 ⟨hb, v, n, c2, rfl, hres⟩)))
  all_goals
    have hSW := ((HS.out.alloc (.cells tok0 31)).drewN _).keep hb
    have h0 := hSW.c0
    have h1 := hSW.c1
    have f1 := hSW.fz 1
    have HSW := Lib.hid hSW
    have HKW := Lib.hid ((((Kf.refl (So b) w).alloc (.cells tok0 31)).drewN _).trans (Kf.of_below _ hb))
    have HRW := Lib.hid (show w2.heap[w.heap.size]? = some (.cells tok0 31 (0, 0)) by
      rw [hb.block w.heap.size (by simp)]; exact heap_alloc_new w _)
    clear hSW hb a0 a1
    rcases hres with ⟨rfl, hn0, hns, hlow⟩ | ⟨rfl, rfl, rfl⟩
    case' inr =>
      go_wp2
      exact ⟨rfl, HS.out.so_sp HKW.out, Or.inr rfl⟩
    have hsx : (s.extract p s.size).size = s.size - p := by simp [ByteArray.size_extract]
    rw [hsx] at hns
    have HLOW := Lib.hid hlow
    clear hlow hsx
    have hns : p + n ≤ s.size := by omega
    have HR := Lib.hid (show (w2.setCell ⟨b, 1, none⟩ (.int .i64 ((p : Int) + n))).heap[w.heap.size]? = some (.cells tok0 31 (0, 0)) by
      rw [Below.heap_setCell _ _ _ _ (by simp only; omega)]; exact HRW.out)
    go_wp2_with (refine wpList_store_row rfl 31 (.tmp 2) (.tmp 104) rfl w.heap.size #[.int .i64 4, .string ⟨#[]⟩, .string ⟨#[]⟩, .float .f64 v, .int .i64 0, .int .i64 0, .bool false] rfl rfl 31 tok0 HR.out size31 rfl (tok_one _ _ _ _ _ _ _) ?_)
    go_wp2
    refine bodyPost_ret (v := tokV ⟨4, [], [], v⟩ 0 0 false) (results_row rfl rfl (setRow_heap _ _ _ _ _ _ HR.out) rfl) rfl ?_
    exact ⟨(HS.out.so_sp (HKW.out.setB 1 _)).setRowNew (Nat.le_refl _) _, Or.inl ⟨v, n, rfl, Scn.setRow (HSW.out.setTo (by omega)) HR.out _, hn0, hns, by rw [← bn_ext s hp hn0]; exact HLOW.out⟩⟩

end
end Go.Proofs.YtcgibcjpkhefpaaGreatDoor
namespace Go.Lx
theorem dig_let : ∀ c : UInt8, isDig c = true → isLet c = false := u8_allG (by decide +kernel)
end Go.Lx
namespace Go.Proofs.YtcgibcjpkhefpaaGreatDoor
open Go.RowKit
section
variable {b g : Nat} {s : ByteArray} {lv ov : Value} {p : Nat} {ln : Bool} {opn : List Int} {l : List UInt8}
/-- Behind token. -/
def TokCov (b : Nat) (s : ByteArray) (lv : Value) (ln : Bool) (p : Nat) (w : World) (e : Ending) (w' : World) : Prop :=
  Kf (Sp b) w w' ∧ ((∃ (tk : Lx.Tk) (q : Nat) (opn' : List Int) (ov' : Value), e = .returned (tokV tk 0 0 false) ∧ Scn b s lv q ln ov' opn' w' ∧ p ≤ q ∧ q ≤ s.size ∧ OpnOk opn' q ∧ ((tk.kind ≠ 0 → p < q ∧ Lx.Edge s.data.toList q) ∧ (tk.kind = 0 → p = s.size ∧ q = p)) ∧ (p = s.size ∨ Lx.bn s.data.toList p < 128)) ∨ ∃ a, e = wrongAt a)
theorem tokCov_num {w : World} {e : Ending} {w' : World} (_hp : p < s.size) (ho : OpnOk opn p) (hlow : Lx.bn s.data.toList p < 128) (h : TNumPost b s lv ov p ln opn w e w') : TokCov b s lv ln p w e w' := by
  obtain ⟨hk, ⟨v, n, he, hS, hn, hns, hl⟩ | he⟩ := h
  · exact ⟨hk, Or.inl ⟨_, _, _, _, he, hS, by omega, hns, Lx.opn_up ho (by omega), ⟨fun _ => ⟨by omega, Lx.edge_of hl⟩, fun h => absurd h (by simp)⟩, Or.inr hlow⟩⟩
  · exact ⟨hk, Or.inr ⟨p, he⟩⟩
theorem token_cov (w0 w : World) (hLC : LitC s w0) (hM : MaxOk w0) (hG : Below w0.heap.size w0 w) (hb0 : w0.heap.size ≤ b) (hs : s.size ≤ 262144) (hp : p ≤ s.size) (ho : OpnOk opn p) (h : Scn b s lv p ln ov opn w) (hL : Lst b g lv w) :
    Calls Tryz.prog 57 #[.pointer (some ⟨b, 0, none⟩)] w (TokCov b s lv ln p w) := by
  have hlen : s.data.toList.length = s.size := by simp
  cases hn : numStart s.data.toList p with
  | true =>
    cases hd : Lx.isDig (Lx.pk s.data.toList p) with
    | true =>
      have hlt : p < s.size := by
        rcases Nat.lt_or_ge p s.size with h1 | h1
        · exact h1
        · have : Lx.pk s.data.toList p = 0 := by unfold Lx.pk; rw [List.getElem?_eq_none (by omega)]; rfl
          rw [this] at hd; exact absurd hd (by decide)
      exact (token_dig_num w0 w hLC hG hs hlt h hd (Lx.dig_let _ hd)).mono fun e w' h => tokCov_num hlt ho (Lx.isDig_low _ hd) h
    | false =>
      unfold numStart at hn
      rw [hd] at hn
      simp only [Bool.false_or, Bool.and_eq_true, beq_iff_eq] at hn
      have hlt : p < s.size := by
        rcases Nat.lt_or_ge p s.size with h1 | h1
        · exact h1
        · have : Lx.pk s.data.toList p = 0 := by unfold Lx.pk; rw [List.getElem?_eq_none (by omega)]; rfl
          rw [this] at hn; exact absurd hn.1 (by decide)
      exact (token_point_num w0 w hLC hG hs hlt h hn.1 hn.2).mono fun e w' h => tokCov_num hlt ho (by rw [Lx.bn_pk, hn.1]; decide) h
  | false =>
    refine (token_any ⟨fun _ => false, fun _ => none⟩ (fun q => q = p) w0 w (fun q hq _ hx => by subst hq; rw [hn] at hx; cases hx) hM rfl hG hb0 hs hp ho h hL).mono ?_
    rintro e w' ⟨hk, hr⟩
    refine ⟨hk, ?_⟩
    rcases Nat.lt_or_ge p s.size with hlt | hge
    · cases hT : Lx.token ⟨fun _ => false, fun _ => none⟩ s.data.toList p opn with
      | error a => rw [hT] at hr; exact Or.inr ⟨a, hr⟩
      | ok r =>
        obtain ⟨tk, q, opn'⟩ := r
        rw [hT] at hr
        obtain ⟨ov', he, hS⟩ := hr
        obtain ⟨h1, h2, h3, h4, h5, h6⟩ := Lx.token_ok (by omega) ho hn hT
        exact Or.inl ⟨tk, q, opn', ov', he, hS, by omega, by omega, h5, ⟨fun _ => ⟨h2, h4⟩, fun h => absurd h h6⟩, Or.inr h1⟩
    · obtain rfl : p = s.size := by omega
      have hT : Lx.token ⟨fun _ => false, fun _ => none⟩ s.data.toList s.size opn = .ok (⟨0, [], [], 0⟩, s.size, opn) := by
        unfold Lx.token; simp only; rw [if_pos (by omega)]
      rw [hT] at hr
      obtain ⟨ov', he, hS⟩ := hr
      exact Or.inl ⟨_, _, _, ov', he, hS, by omega, by omega, ho, ⟨fun h => absurd rfl h, fun _ => ⟨rfl, rfl⟩⟩, Or.inl rfl⟩
/-- Behind next. -/
def NextCov (b : Nat) (s : ByteArray) (lv : Value) (p : Nat) (w : World) (e : Ending) (w' : World) : Prop :=
  Kf (Sp b) w w' ∧ ((∃ (t : Lx.Tok) (opn' : List Int) (ov' : Value), e = .returned (tokV t.tk t.frm t.till t.line) ∧ Scn b s lv t.till t.line ov' opn' w' ∧ Lx.CovT s.data.toList p t ∧ OpnOk opn' t.till ∧ (t.tk.kind ≠ 0 → Lx.Edge s.data.toList t.till) ∧ (t.tk.kind = 0 → t.frm = s.size ∧ t.till = t.frm)) ∨ ∃ a, e = wrongAt a)
set_option maxHeartbeats 4000000 in
set_option maxRecDepth 100000 in
theorem next_cov (w0 w : World) (hC : CmC s w0) (hLC : LitC s w0) (hM : MaxOk w0) (hed : Lx.Edge s.data.toList p) (hG : Below w0.heap.size w0 w) (hb0 : w0.heap.size ≤ b) (hs : s.size ≤ 262144) (hp : p ≤ s.size) (ho : OpnOk opn p) (h : Scn b s lv p ln ov opn w) (hL : Lst b g lv w) :
    Calls Tryz.prog 35 #[.pointer (some ⟨b, 0, none⟩)] w (NextCov b s lv p w) := by
  have hbl := h.lt
  have f2 := h.fz 2
  have c2 := h.c2
  have hgb := hL.lt
  have HS := Lib.hid h
  have HL := Lib.hid hL
  have HSK := Lib.hid (fun (w : World) => skip_cov (s := s) (b := b) (lv := lv) (ov := ov) (opn := opn) (p := p) (ln := false) w0 w hC)
  have HTK := Lib.hid (fun (q : Nat) (l2 : Bool) (o2 : Value) (w : World) => token_cov (s := s) (b := b) (g := g) (lv := lv) (ov := o2) (p := q) (ln := l2) (opn := opn) w0 w hLC hM)
  have HG := Lib.hid hG
  have HED := Lib.hid hed
  have HO := Lib.hid ho
  clear h hL hC hLC hM hed hG ho
  go_enter Tryz.func35, Tryz.ntmps35
  go_wp2_with fail
  refine (HSK.out _ (by exact HG.out.trans ((((Kf.refl (So b) w).setB 2 (.bool false)).alloc (.cells tok0 31)).below HG.out.size (fun k o e => by have e : k = b := e; omega))) hb0 hs hp ((HS.out.setLn false).alloc _)).mono ?_
  rintro e w1 ⟨hK1, hP⟩
  have HK1 := Lib.hid ((((Kf.refl (So b) w).setB 2 (.bool false)).alloc (.cells tok0 31)).trans hK1)
  have HR1 := Lib.hid (hK1.block w.heap.size (.cells tok0 31 (0, 0)) (by
    have := heap_alloc_new (w.setCell ⟨b, 2, none⟩ (.bool false)) (.cells tok0 31)
    rw [show (w.setCell ⟨b, 2, none⟩ (.bool false)).heap.size = w.heap.size by simp [World.setCell]] at this
    exact this) (by simp [So]; omega))
  clear hK1
  rcases hP with ⟨q, l2, he, hS2, hql, hgap⟩ | ⟨a, he⟩
  case inr =>
    subst he
    unfold wrongAt
    go_wp2
    exact ⟨rfl, HS.out.so_sp HK1.out, Or.inr ⟨a, rfl⟩⟩
  case inl =>
    have hpq := hgap.le
    have HGAP := Lib.hid hgap
    have hb1 := hS2.lt
    have c1 := hS2.c1
    have HS2 := Lib.hid hS2
    clear hS2 hgap
    subst he
    go_wp2_with fail
    refine (HTK.out q l2 ov _ ?_ hb0 hs hql ?_ HS2.out ?_).mono ?_
    · exact HG.out.trans (Below.mono (Kf.below (B := w0.heap.size) HK1.out HG.out.size (fun k o e => by have e : k = b := e; omega)) (Nat.le_refl _))
    · exact ⟨by have := HO.out.1; omega, fun m hm => by have := HO.out.2 m hm; omega⟩
    · exact HL.out.kf HK1.out (fun o e => by have e : g = b := e; omega)
    rintro e w2 ⟨hK3, hP⟩
    have HK3 := Lib.hid ((HS.out.so_sp HK1.out).trans hK3)
    have HR3 := Lib.hid (hK3.block w.heap.size (.cells tok0 31 (0, 0)) HR1.out (fun e => e.2 (by simp [Calm])))
    clear hK3
    rcases hP with ⟨tk, r, opn', ov', he, hS4, hqr, hrs, hopn', hkd, hlow⟩ | ⟨a, he⟩
    case inr =>
      subst he
      unfold wrongAt
      go_wp2
      exact ⟨rfl, HK3.out, Or.inr ⟨a, rfl⟩⟩
    case inl =>
      have FIN := Lib.hid (show Lx.CovT s.data.toList p ⟨tk, q, r, l2⟩ ∧ OpnOk opn' r ∧ (tk.kind ≠ 0 → Lx.Edge s.data.toList r) ∧ (tk.kind = 0 → q = s.size ∧ r = q) from
        ⟨⟨hpq, hqr, by simpa using hrs, fun h => (hkd.1 h).1, HGAP.out, HED.out, by simpa using hlow⟩, hopn', fun h => (hkd.1 h).2, hkd.2⟩)
      have HS4 := Lib.hid hS4
      have hr0 := lt_of_heap HR3.out
      clear hS4 hopn' hkd hlow
      subst he
      unfold tokV
      go_wp2_with (refine wpList_store_row rfl 31 (.tmp 4) (.tmp 15) rfl w2.heap.size #[.int .i64 tk.kind, .string ⟨tk.text.toArray⟩, .string ⟨tk.str.toArray⟩, .float .f64 tk.num, .int .i64 (0 : Nat), .int .i64 (0 : Nat), .bool false] rfl rfl 31 tok0 (heap_alloc_new w2 _) size31 rfl (tok_one _ _ _ _ _ _ _) ?_)
      have T0 : TW b s lv r l2 ov' opn' w w.heap.size w2.heap.size #[.int .i64 tk.kind, .string ⟨tk.text.toArray⟩, .string ⟨tk.str.toArray⟩, .float .f64 tk.num, .int .i64 (0 : Nat), .int .i64 (0 : Nat), .bool false] ((w2.alloc (.cells tok0 31)).setRow w2.heap.size #[.int .i64 tk.kind, .string ⟨tk.text.toArray⟩, .string ⟨tk.str.toArray⟩, .float .f64 tk.num, .int .i64 (0 : Nat), .int .i64 (0 : Nat), .bool false]) :=
        ⟨(HS4.out.alloc _).setRow (heap_alloc_new w2 _) _, (HK3.out.alloc _).setRowNew HK3.out.size _, by rw [setRow_other _ _ _ _ (by omega), Below.heap_alloc _ _ _ hr0]; exact HR3.out, setRow_heap _ _ _ _ _ _ (heap_alloc_new w2 _), HK3.out.size, by omega⟩
      generalize hwz : World.setRow _ _ _ = wz
      have T1 : TW b s lv r l2 ov' opn' w w.heap.size w2.heap.size #[.int .i64 tk.kind, .string ⟨tk.text.toArray⟩, .string ⟨tk.str.toArray⟩, .float .f64 tk.num, .int .i64 (0 : Nat), .int .i64 (0 : Nat), .bool false] wz := by
        rw [← hwz]; exact T0
      clear T0 hwz
      have b1 := T1.scn.c1
      have b2 := T1.scn.c2
      have t4 : wz.cell? ⟨w2.heap.size, 4, none⟩ = some (.int .i64 0) := by rw [cellN T1.blk 4]; rfl
      have t5 : wz.cell? ⟨w2.heap.size, 5, none⟩ = some (.int .i64 0) := by rw [cellN T1.blk 5]; rfl
      have t6 : wz.cell? ⟨w2.heap.size, 6, none⟩ = some (.bool false) := by rw [cellN T1.blk 6]; rfl
      have tf4 : wz.frozen? ⟨w2.heap.size, 4, none⟩ = false := by simp [World.frozen?, T1.blk]
      have tf5 : wz.frozen? ⟨w2.heap.size, 5, none⟩ = false := by simp [World.frozen?, T1.blk]
      have tf6 : wz.frozen? ⟨w2.heap.size, 6, none⟩ = false := by simp [World.frozen?, T1.blk]
      have hbk : b ≠ w2.heap.size := by have := HS4.out.lt; omega
      have hkb : w2.heap.size ≠ b := hbk.symm
      have TT := Lib.hid T1
      clear T1
      go_wp2
      go_region
      all_goals
        generalize hwy : World.setCell _ _ _ = wy
        have T2 : TW b s lv r l2 ov' opn' w w.heap.size w2.heap.size #[.int .i64 tk.kind, .string ⟨tk.text.toArray⟩, .string ⟨tk.str.toArray⟩, .float .f64 tk.num, .int .i64 q, .int .i64 r, .bool l2] wy := by
          rw [← hwy]
          first | exact (((TT.out.set 4 (.int .i64 q)).set 5 (.int .i64 r)).set 6 (.bool l2)) | exact (((TT.out.set 4 (.int .i64 q)).set 6 (.bool l2)).set 5 (.int .i64 r)) | exact (((TT.out.set 5 (.int .i64 r)).set 4 (.int .i64 q)).set 6 (.bool l2)) | exact (((TT.out.set 5 (.int .i64 r)).set 6 (.bool l2)).set 4 (.int .i64 q)) | exact (((TT.out.set 6 (.bool l2)).set 4 (.int .i64 q)).set 5 (.int .i64 r)) | exact (((TT.out.set 6 (.bool l2)).set 5 (.int .i64 r)).set 4 (.int .i64 q))
        clear hwy
        have u0 : wy.cell? ⟨w2.heap.size, 0, none⟩ = some (.int .i64 tk.kind) := by rw [cellN T2.blk 0]; rfl
        have u1 : wy.cell? ⟨w2.heap.size, 1, none⟩ = some (.string ⟨tk.text.toArray⟩) := by rw [cellN T2.blk 1]; rfl
        have u2 : wy.cell? ⟨w2.heap.size, 2, none⟩ = some (.string ⟨tk.str.toArray⟩) := by rw [cellN T2.blk 2]; rfl
        have u3 : wy.cell? ⟨w2.heap.size, 3, none⟩ = some (.float .f64 tk.num) := by rw [cellN T2.blk 3]; rfl
        have u4 : wy.cell? ⟨w2.heap.size, 4, none⟩ = some (.int .i64 q) := by rw [cellN T2.blk 4]; rfl
        have u5 : wy.cell? ⟨w2.heap.size, 5, none⟩ = some (.int .i64 r) := by rw [cellN T2.blk 5]; rfl
        have u6 : wy.cell? ⟨w2.heap.size, 6, none⟩ = some (.bool l2) := by rw [cellN T2.blk 6]; rfl
        have TU := Lib.hid T2.drew
        clear T2 t4 t5 t6 tf4 tf5 tf6 b1 b2
        go_wp2_with (refine wpList_store_row rfl 31 (.tmp 2) (.tmp 28) rfl w.heap.size #[.int .i64 tk.kind, .string ⟨tk.text.toArray⟩, .string ⟨tk.str.toArray⟩, .float .f64 tk.num, .int .i64 q, .int .i64 r, .bool l2] rfl rfl 31 tok0 TU.out.res size31 rfl (tok_one _ _ _ _ _ _ _) ?_)
        go_wp2
        refine bodyPost_ret (v := tokV tk q r l2) (results_row rfl rfl (setRow_heap _ _ _ _ _ _ TU.out.res) rfl) rfl ?_
        exact ⟨TU.out.kf.setRowNew (Nat.le_refl _) _, Or.inl ⟨⟨tk, q, r, l2⟩, opn', ov', rfl, TU.out.scn.setRow TU.out.res _, FIN.out⟩⟩
end
end Go.Proofs.YtcgibcjpkhefpaaGreatDoor
namespace Go.Lx
/-- The tokens cover the text, and the last one is its end. -/
structure Covers (l : List UInt8) (ts : List Tok) : Prop where
  cov : Cov l ts
  last : ∃ us t, ts = us ++ [t] ∧ t.tk.kind = 0 ∧ t.frm = l.length
end Go.Lx
namespace Go.Proofs.YtcgibcjpkhefpaaGreatDoor
open Go.RowKit
def EachCov (c : Nat) (s : ByteArray) (w : World) (e : Ending) (w' : World) : Prop :=
  Kf (fun k _ => c ≤ k) w w' ∧ ((∃ ts v, e = .returned (.tuple #[.int .i64 0, .int .i64 0]) ∧ Cap c ts v w' ∧ Lx.Covers s.data.toList ts ∧ ts.length ≤ 262145) ∨ ∃ a : Nat, e = .returned (.tuple #[.int .i64 a, .int .i64 50]))
/-- The loop's own relation. -/
structure EachR (s : ByteArray) (c n : Nat) (w wr : World) (p : Nat) (ln : Bool) (opn : List Int) (acc : List Lx.Tok) (ov v' : Value) : Prop where
  ps : p ≤ s.size
  al : acc.length ≤ p
  cov : Lx.Cov s.data.toList acc
  en : Lx.endAt acc acc.length = p
  ed : Lx.Edge s.data.toList p
  oo : OpnOk opn p
  scn : Scn (n + 1 + 1 + 1) s (.slice (some ⟨n + 1 + 1, 0, none⟩) Lx.signs.length Lx.signs.length) p ln ov opn wr
  cap : Cap c acc v' wr
  kf : Kf (fun k _ => c ≤ k) w wr
  g : wr.heap[n + 1 + 1]? = some (.cells signCells 9 (0, 0))
  pa : wr.heap[n]? = some (.cells #[.int .i64 0] 3 (0, 0))
  pe : wr.heap[n + 1]? = some (.cells #[.int .i64 0] 25 (0, 0))
set_option maxHeartbeats 4000000 in
set_option maxRecDepth 100000 in
theorem each_cov (s : ByteArray) (w0 w : World) (c : Nat) (v : Value) (hCC : CmC s w0) (hLC : LitC s w0) (hM : MaxOk w0)
    (hG : Below w0.heap.size w0 w) (hc0 : w0.heap.size ≤ c) (hs : s.size ≤ 262144) (htab : ∀ w, Below w0.heap.size w0 w → Lib.TabIs Tryz.prog w "strings.asciiSpace" .u8 Lib.asciiSpaceTab) (hC : Cap c [] v w) :
    Calls Tryz.prog 23 #[.string s, .func (.func 24) #[] #[.pointer (some ⟨c, 0, none⟩)]] w (EachCov c s w) := by
  have hlen : s.data.toList.length = s.size := by simp
  obtain ⟨fs, hd⟩ : ∃ fs, Tryz.prog.underlying 31 = some (.struct fs) := by
    have := under31
    cases h : Tryz.prog.underlying 31 with
    | none => rw [h] at this; cases this
    | some d => rw [h] at this; cases d <;> first | exact ⟨_, rfl⟩ | cases this
  have hcn : c < w.heap.size := lt_of_heap hC.blk
  have hmf : ∀ (fn : Fn) (first cap : Array Value) (w : World), (Instr.makeFunc fn first cap).run Tryz.prog w = .ok (.func fn first cap) w := fun _ _ _ _ => rfl
  go_enter_defers Tryz.func23, Tryz.ntmps23
  go_wp2_with fail
  refine (fields_call _ (by decide +kernel) _ (htab _ ((hG.alloc (by have := hG.size; omega) _).alloc (by have := hG.size; simp; omega) _))).mono ?_
  rintro e w1 ⟨rfl, rfl⟩
  go_wp2
  go_loopw [] (fun wr => ∃ (p : Nat) (ln : Bool) (opn : List Int) (acc : List Lx.Tok) (ov v' : Value), EachR s c w.heap.size w wr p ln opn acc ov v') (fun wr => s.size - posOf (w.heap.size + 1 + 1 + 1) wr)
  case atStart =>
    refine ⟨0, false, [], [], .slice none 0 0, v, by omega, by simp, Lx.cov_nil _, rfl, Or.inl rfl, ⟨by simp, fun m hm => by cases hm⟩, ?_, ?_, ?_, ?_, ?_, ?_⟩
    · obtain ⟨q1, q2, q3, q4⟩ := four_allocs w (.cells #[.int .i64 0] 3) (.cells #[.int .i64 0] 25) (.cells signCells 9) (.cells #[.string s, .int .i64 0, .bool false, .slice none 0 0, .slice (some ⟨w.heap.size + 1 + 1, 0, none⟩) Lx.signs.length Lx.signs.length] 66)
      exact ⟨q4, ⟨by simp, Or.inl ⟨rfl, rfl⟩⟩⟩
    · exact hC.kf (S := fun _ _ => False) (((((Kf.refl _ _).alloc _).alloc _).alloc _).alloc _) (fun h => h) (fun _ _ _ h => h)
    · exact ((((Kf.refl _ _).alloc _).alloc _).alloc _).alloc _
    · exact (four_allocs _ _ _ _ _).2.2.1
    · exact (four_allocs _ _ _ _ _).1
    · exact (four_allocs _ _ _ _ _).2.1
  case round =>
    obtain ⟨p, ln, opn, acc, ov, v', hrel⟩ := hrel
    have HRL := Lib.hid hrel
    have hpos := posOf_scn hrel.scn
    have HP1 := Lib.hid hpos
    have hps := hrel.ps
    have hal := hrel.al
    have HG := Lib.hid (hG.trans (hrel.kf.below (Nat.le_of_lt (by omega)) (fun _ _ h => by omega)))
    clear hrel hpos
    go_wp2_with fail
    refine (next_cov w0 wr hCC hLC hM HRL.out.ed HG.out (by have := hG.size; omega) hs hps HRL.out.oo HRL.out.scn ⟨rfl, by omega, HRL.out.g⟩).mono ?_
    rintro e w1 ⟨hK1, hP⟩
    have hb1 := HRL.out.scn.lt
    have HKW := Lib.hid (HRL.out.kf.trans (hK1.weaken (fun k _ _ h => Nat.le_trans (by omega) h.1)))
    have hpa1 : w1.heap[w.heap.size]? = some (.cells #[.int .i64 0] 3 (0, 0)) := hK1.block _ _ HRL.out.pa (fun h => by have := h.1; omega)
    have hpe1 : w1.heap[w.heap.size + 1]? = some (.cells #[.int .i64 0] 25 (0, 0)) := hK1.block _ _ HRL.out.pe (fun h => by have := h.1; omega)
    have hg1 : w1.heap[w.heap.size + 1 + 1]? = some (.cells signCells 9 (0, 0)) := hK1.block _ _ HRL.out.g (fun h => by have := h.1; omega)
    have hsz1 := hK1.size
    rcases hP with ⟨t, opn', ov1, he, hS1, hCT, hO1, hE1, hZ1⟩ | ⟨a, hP⟩
    case inr =>
      subst hP
      unfold wrongAt
      refine leaves_cons (f := 33) (args := #[.pointer (some ⟨w.heap.size, 0, none⟩), .pointer (some ⟨w.heap.size + 1, 0, none⟩)]) (by simp) (by simp [go_sem]) ?_
      have hm1 : (w1.alloc (.cells #[.int .i64 a] 62)).heap[w.heap.size]? = some (.cells #[.int .i64 0] 3 (0, 0)) := by rw [Below.heap_alloc _ _ _ (by omega)]; exact hpa1
      have hm2 : (w1.alloc (.cells #[.int .i64 a] 62)).heap[w.heap.size + 1]? = some (.cells #[.int .i64 0] 25 (0, 0)) := by rw [Below.heap_alloc _ _ _ (by omega)]; exact hpe1
      obtain ⟨t1, t2, t3, t4, t5, t6⟩ := two_cells hm1 hm2 (.int .i64 a) (.int .i64 50)
      refine (catch_panicking ⟨w.heap.size, 0, none⟩ ⟨w.heap.size + 1, 0, none⟩ a [] w1 (.int .i64 0) (.int .i64 0) t1 t2 t3 t4).mono ?_
      rintro e u' w2 ⟨rfl, rfl, rfl⟩
      refine ⟨.tuple #[.int .i64 a, .int .i64 50], ?_, ?_, ?_⟩
      · simp [results, Tryz.results23, go_sem, t5, t6]
      · exact ((HKW.out.alloc _).set (a := ⟨w.heap.size, 0, none⟩) (fun _ _ => by simp only; omega) _).set (a := ⟨w.heap.size + 1, 0, none⟩) (fun _ _ => by simp only; omega) _
      · exact Or.inr ⟨a, rfl⟩
    case inl =>
      subst he
      have HS1 := Lib.hid hS1
      have HCT := Lib.hid (And.intro hCT (And.intro hO1 (And.intro hE1 hZ1)))
      clear hS1 hCT hO1 hE1 hZ1
      have HR := Lib.hid (heap_alloc_new w1 (.cells tok0 31))
      have HROW := Lib.hid (setRow_heap (w1.alloc (.cells tok0 31)) w1.heap.size _ #[.int .i64 t.tk.kind, .string ⟨t.tk.text.toArray⟩, .string ⟨t.tk.str.toArray⟩, .float .f64 t.tk.num, .int .i64 t.frm, .int .i64 t.till, .bool t.line] 31 (0, 0) HR.out)
      go_wp2_with (first | (refine wpList_store_row rfl 31 (.tmp 7) (.tmp 14) rfl w1.heap.size #[.int .i64 t.tk.kind, .string ⟨t.tk.text.toArray⟩, .string ⟨t.tk.str.toArray⟩, .float .f64 t.tk.num, .int .i64 t.frm, .int .i64 t.till, .bool t.line] rfl rfl 31 tok0 HR.out size31 rfl (tok_one _ _ _ _ _ _ _) ?_) | (refine wpList_load_row rfl 31 (.tmp 7) rfl w1.heap.size rfl 31 _ (0, 0) (.struct fs) HROW.out hd rfl size31 ?_))
      have HK2 := Lib.hid (show Kf (Sp (w.heap.size + 1 + 1 + 1)) wr ((w1.alloc (.cells tok0 31)).setRow w1.heap.size #[.int .i64 t.tk.kind, .string ⟨t.tk.text.toArray⟩, .string ⟨t.tk.str.toArray⟩, .float .f64 t.tk.num, .int .i64 t.frm, .int .i64 t.till, .bool t.line]) from hK1.trans (((Kf.refl _ _).alloc _).setRowNew (Nat.le_refl _) _))
      have HC2 := Lib.hid (HRL.out.cap.kf HK2.out (fun h => by have := h.1; omega) (fun _ _ _ h => h.2 (by simp [Calm])))
      have HS2 := Lib.hid ((HS1.out.alloc (.cells tok0 31)).setRow HR.out #[.int .i64 t.tk.kind, .string ⟨t.tk.text.toArray⟩, .string ⟨t.tk.str.toArray⟩, .float .f64 t.tk.num, .int .i64 t.frm, .int .i64 t.till, .bool t.line])
      go_wp2_with fail
      refine (yield_any _ t HC2.out (by omega)).mono ?_
      rintro e w3 ⟨rfl, ⟨v3, hC3⟩, hK3⟩
      have hrow3 : w3.heap[w1.heap.size]? = _ := hK3.block _ _ HROW.out (fun h => by
        rcases h with h | h
        · omega
        · have := (HRL.out.cap.lt _ h.1.symm).2; have := HRL.out.scn.lt; omega)
      have HK3 := Lib.hid hK3
      have HC3 := Lib.hid hC3
      have k0 : w3.cell? ⟨w1.heap.size, 0, none⟩ = some (.int .i64 t.tk.kind) := by rw [cellN hrow3 0]; rfl
      have hpa3 : w3.heap[w.heap.size]? = some (.cells #[.int .i64 0] 3 (0, 0)) := hK3.block _ _ (HK2.out.block _ _ HRL.out.pa (fun h => by have := h.1; omega)) (fun h => by
        rcases h with h | ⟨_, _, _, _, h⟩
        · omega
        · injection h with _ h _; exact absurd h (by decide))
      have hpe3 : w3.heap[w.heap.size + 1]? = some (.cells #[.int .i64 0] 25 (0, 0)) := hK3.block _ _ (HK2.out.block _ _ HRL.out.pe (fun h => by have := h.1; omega)) (fun h => by
        rcases h with h | ⟨_, _, _, _, h⟩
        · omega
        · injection h with _ h _; exact absurd h (by decide))
      have HKX := Lib.hid ((HRL.out.kf.trans (HK2.out.weaken (fun k _ _ h => Nat.le_trans (by omega) h.1))).trans (HK3.out.weaken (S' := fun k _ => c ≤ k) (fun k _ _ h => by
        rcases h with h | ⟨_, h, _⟩ <;> omega)))
      have HCV := Lib.hid (show Lx.Cov s.data.toList (acc ++ [t]) from Lx.cov_snoc HRL.out.cov (by rw [HRL.out.en]; exact HCT.out.1))
      clear hK3 hC3 hrow3
      by_cases hk0 : t.tk.kind = 0
      · have hkb : ((t.tk.kind : Int) == 0) = true := by simp [hk0]
        obtain ⟨t1, t2, t3, t4, t5, t6⟩ := two_cells hpa3 hpe3 (.int .i64 0) (.int .i64 0)
        go_wp2_with fail
        refine leaves_cons (f := 33) (args := #[.pointer (some ⟨w.heap.size, 0, none⟩), .pointer (some ⟨w.heap.size + 1, 0, none⟩)]) (by simp) (by simp [go_sem]) ?_
        refine (catch_idle ⟨w.heap.size, 0, none⟩ ⟨w.heap.size + 1, 0, none⟩ _).mono ?_
        rintro e u' w4 ⟨rfl, rfl, rfl⟩
        refine ⟨.tuple #[.int .i64 0, .int .i64 0], ?_, ?_, ?_⟩
        · simp [results, Tryz.results23, go_sem, t5, t6]
        · exact (HKX.out.set (a := ⟨w.heap.size, 0, none⟩) (fun _ _ => by simp only; omega) _).set (a := ⟨w.heap.size + 1, 0, none⟩) (fun _ _ => by simp only; omega) _
        · refine Or.inl ⟨acc ++ [t], v3, rfl, (HC3.out.setCell hpa3 (by decide) (by omega) _).setCell (k := w.heap.size + 1) (cs := #[.int .i64 0]) (T := 25) ?_ (by decide) (by omega) _, ⟨HCV.out, acc, t, rfl, hk0, ?_⟩, ?_⟩
          · rw [Below.heap_setCell _ _ _ _ (by simp)]; exact hpe3
          · rw [hlen]; exact (HCT.out.2.2.2 hk0).1
          · simp; omega
      · have hkb : ((t.tk.kind : Int) == 0) = false := by simp [hk0]
        go_wp2_with fail
        have hpq : p < t.till := by have := HCT.out.1.ge; have := HCT.out.1.ne hk0; omega
        have htl : t.till ≤ s.size := by have := HCT.out.1.sz; omega
        have hS3 : Scn (w.heap.size + 1 + 1 + 1) s (.slice (some ⟨w.heap.size + 1 + 1, 0, none⟩) Lx.signs.length Lx.signs.length) t.till t.line ov1 opn' w3 := HS2.out.kf HK3.out (fun _ h => by
          rcases h with h | ⟨_, _, _, _, h⟩
          · omega
          · injection h with _ h _; exact absurd h (by decide)) (fun _ _ _ h => by
          rcases h with h | ⟨_, _, _, _, h⟩
          · omega
          · injection h with _ h _; exact absurd h (by decide))
        refine ⟨⟨t.till, t.line, opn', acc ++ [t], ov1, v3, htl, by simp; omega, HCV.out, ?_, HCT.out.2.2.1 hk0, HCT.out.2.1, hS3, HC3.out, HKX.out, ?_, hpa3, hpe3⟩, ?_⟩
        · simpa using Lx.endAt_last acc t
        · exact HK3.out.block _ _ (HK2.out.block _ _ HRL.out.g (fun h => by have := h.1; omega)) (fun h => by
            rcases h with h | ⟨_, _, _, _, h⟩
            · omega
            · injection h with _ h _; exact absurd h (by decide))
        · rw [posOf_scn hS3, HP1.out]; omega
end Go.Proofs.YtcgibcjpkhefpaaGreatDoor
namespace Go.Proofs.YtcgibcjpkhefpaaGreatDoor
open Go.RowKit
def MayPost (s : ByteArray) (w : World) (e : Ending) (w' : World) : Prop :=
  Below w.heap.size w w' ∧ ((e = .returned (.tuple #[.int .i64 0, .int .i64 0]) ∧ Lx.Chain s.data.toList 0 s.data.toList.length) ∨ ∃ a : Nat, e = .returned (.tuple #[.int .i64 a, .int .i64 10]))
set_option maxHeartbeats 4000000 in
set_option maxRecDepth 100000 in
theorem may_cov (s : ByteArray) (w0 w : World) (hU : UtOk w0) (hG : Below w0.heap.size w0 w) (hs : s.size ≤ 262144) :
    Calls Tryz.prog 22 #[.string s] w (MayPost s w) := by
  have hg2 : decide ((262144 : Int) < s.size) = false := by simp; omega
  go_enter Tryz.func22, Tryz.ntmps22
  go_wp2_with fail
  refine (units_cov s w0 _ hU hG hs).mono ?_
  rintro e w1 ⟨hb, ⟨X, rfl, hC⟩ | ⟨a, rfl⟩⟩
  · go_wp2
    exact bodyPost_ret (v := .tuple #[.int .i64 0, .int .i64 0]) (by simp [results, Tryz.results22]) rfl ⟨hb, Or.inl ⟨rfl, hC⟩⟩
  · go_wp2
    exact bodyPost_ret (v := .tuple #[.int .i64 a, .int .i64 10]) (by simp [results, Tryz.results22]) rfl ⟨hb, Or.inr ⟨a, rfl⟩⟩
/-- Behind Scan. -/
def ScanCov (s : ByteArray) (w : World) (e : Ending) (w' : World) : Prop :=
  Below w.heap.size w w' ∧ ((∃ ts v, e = .returned (.tuple #[v, .int .i64 0, .int .i64 0]) ∧ w'.ownsRow w.heap.size 31 7 v ts.length (toksC ts) ∧ Lx.Covers s.data.toList ts ∧ ts.length ≤ 262145 ∧ Lx.Chain s.data.toList 0 s.data.toList.length) ∨ ∃ a c : Nat, c ≠ 0 ∧ e = .returned (.tuple #[.slice none 0 0, .int .i64 a, .int .i64 c]))
set_option maxHeartbeats 4000000 in
set_option maxRecDepth 100000 in
theorem scan_cov (s : ByteArray) (w0 w : World) (hCC : CmC s w0) (hLC : LitC s w0) (hM : MaxOk w0) (hU : UtOk w0)
    (hG : Below w0.heap.size w0 w) (hs : s.size ≤ 262144) (htab : ∀ w, Below w0.heap.size w0 w → Lib.TabIs Tryz.prog w "strings.asciiSpace" .u8 Lib.asciiSpaceTab) :
    Calls Tryz.prog 11 #[.string s] w (ScanCov s w) := by
  have hmf : ∀ (fn : Fn) (first cap : Array Value) (w : World), (Instr.makeFunc fn first cap).run Tryz.prog w = .ok (.func fn first cap) w := fun _ _ _ _ => rfl
  go_enter Tryz.func11, Tryz.ntmps11
  go_wp2_with fail
  refine (may_cov s w0 _ hU hG hs).mono ?_
  rintro e w1 ⟨hb, ⟨rfl, hC⟩ | ⟨a, rfl⟩⟩
  · have hg1 : Below w0.heap.size w0 w1 := hG.trans (hb.mono hG.size)
    have hsz := hb.size
    have hsz0 := hG.size
    have HC := Lib.hid hC
    clear hC
    go_wp2_with fail
    refine (each_cov s w0 (w1.alloc (.cells #[.slice none 0 0] 24)) w1.heap.size (.slice none 0 0) hCC hLC hM (hg1.alloc (by omega) _) (by omega) hs htab ⟨heap_alloc_new _ _, ⟨by simp [toksC], Or.inl ⟨rfl, rfl⟩⟩⟩).mono ?_
    rintro e w2 ⟨hK, hP⟩
    have hB2 : Below w1.heap.size w1 w2 := (((Kf.refl (fun k _ => w1.heap.size ≤ k) w1).alloc _).trans hK).below (Nat.le_refl _) (fun _ _ h => h)
    have HB := Lib.hid (hb.trans (hB2.mono hsz))
    rcases hP with ⟨ts, v, he, hCp, hCov, hlen⟩ | ⟨a, he⟩
    · subst he
      have k0 : w2.cell? ⟨w1.heap.size, 0, none⟩ = some v := by simp [World.cell?, hCp.blk]
      have HCV := Lib.hid (And.intro hCp hCov)
      clear hCp hCov
      go_wp2
      exact bodyPost_ret (v := .tuple #[v, .int .i64 0, .int .i64 0]) (by simp [results, Tryz.results11]) rfl ⟨HB.out, Or.inl ⟨ts, v, rfl, own_le HCV.out.1.own (by omega), HCV.out.2, hlen, HC.out⟩⟩
    · subst he
      go_wp2
      exact bodyPost_ret (v := .tuple #[.slice none 0 0, .int .i64 a, .int .i64 50]) (by simp [results, Tryz.results11]) rfl ⟨HB.out, Or.inr ⟨a, 50, by omega, rfl⟩⟩
  · go_wp2
    exact bodyPost_ret (v := .tuple #[.slice none 0 0, .int .i64 a, .int .i64 10]) (by simp [results, Tryz.results11]) rfl ⟨hb, Or.inr ⟨a, 10, by omega, rfl⟩⟩
end Go.Proofs.YtcgibcjpkhefpaaGreatDoor

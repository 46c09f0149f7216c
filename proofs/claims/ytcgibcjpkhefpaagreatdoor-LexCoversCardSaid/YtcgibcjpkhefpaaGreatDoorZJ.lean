/-
  The walk of the scanner's token: numbers, under what digits.Literal answers.
  The scanner's token, whatever stands there; and next.
-/
import Derived.Test.YtcgibcjpkhefpaaGreatDoorZI
import Derived.Deep.RegionWith
import Derived.Deep.DeepMust
namespace Go.Proofs.YtcgibcjpkhefpaaGreatDoor
open Go.RowKit
section
variable {b g : Nat} {s : ByteArray} {lv ov : Value} {p : Nat} {ln : Bool} {opn : List Int} {l : List UInt8}
theorem below_dr {B : Nat} {w w1 : World} (h : Below B w w1) (n : Nat) : Below B w (w1.drewN n) := ⟨h.os, h.tape, h.output, h.size, h.block⟩

set_option maxHeartbeats 4000000 in
set_option maxRecDepth 100000 in
theorem token_dig_ok {v n : Nat} (w0 w : World) (hLO : ∀ w, Below w0.heap.size w0 w → Calls Tryz.prog 79 #[.string (s.extract p s.size)] w fun e w' => e = .returned (.tuple #[.float .f64 v, .int .i64 n, .int .i64 0]) ∧ Below w.heap.size w w') (hn0 : 0 < n) (hns : p + n ≤ s.size) (hG : Below w0.heap.size w0 w) (hs : s.size ≤ 262144) (hp : p < s.size) (h : Scn b s lv p ln ov opn w) (hdg : Lx.isDig (Lx.pk s.data.toList p) = true) (hlf : Lx.isLet (Lx.pk s.data.toList p) = false) :
    Calls Tryz.prog 57 #[.pointer (some ⟨b, 0, none⟩)] w (TokPost b s lv ln w (.ok (⟨4, [], [], v⟩, p + n, opn))) := by
  have hlen : s.data.toList.length = s.size := by simp
  have h0 := h.c0
  have h1 := h.c1
  have f1 := h.fz 1
  have hbl := h.lt
  have HS := Lib.hid h
  clear h
  have hlt : (p : Int) < (s.size : Int) := by omega
  have hd : decide ((s.size : Int) ≤ (p : Int)) = false := by simp; omega
  have hdn : decide (s.size ≤ p) = false := by simp; omega
  obtain ⟨c, hc⟩ : ∃ c, Lx.pk s.data.toList p = c := ⟨_, rfl⟩
  rw [hc] at hdg hlf
  have HC := Lib.hid hc
  have HL := Lib.hid hlf
  have HD := Lib.hid hdg
  clear hc hdg hlf
  have HLO := Lib.hid hLO
  have HG := Lib.hid (show Below w0.heap.size w0 (w.alloc (.cells tok0 31)) from hG.alloc hG.size _)
  clear hLO hG
  have a0 : ∀ o, (w.alloc o).cell? ⟨b, 0, none⟩ = some (.string s) := fun o => (HS.out.alloc o).c0
  have a1 : ∀ o, (w.alloc o).cell? ⟨b, 1, none⟩ = some (.int .i64 p) := fun o => (HS.out.alloc o).c1
  go_enter Tryz.func57, Tryz.ntmps57
  go_wp2_with fail
  refine (peek0 _ (by omega) (by omega) (HS.out.alloc _)).mono ?_
  rintro e w1 ⟨rfl, n1, rfl⟩
  rw [HC.out]
  go_wp2
  go_quiet (fail)
  go_wp2_with fail
  refine (letter_any _ _).mono ?_
  rintro e w1 ⟨rfl, rfl⟩
  rw [HL.out]
  go_wp2_with fail
  refine (digit_any _ _).mono ?_
  rintro e w1 ⟨rfl, rfl⟩
  rw [HD.out]
  go_wp2
  go_region_with (first | (go_at_call 79; go_must (refine (HLO.out _ ?_).mono ?_); go_must (exact below_dr HG.out _); go_must (rintro e w2 ⟨rfl, hb⟩)))
  all_goals
    have hSW := ((HS.out.alloc (.cells tok0 31)).drewN _).keep hb
    have h0 := hSW.c0
    have h1 := hSW.c1
    have f1 := hSW.fz 1
    have HSW := Lib.hid hSW
    have HKW := Lib.hid ((((Kf.refl (So b) w).alloc (.cells tok0 31)).drewN _).trans (Kf.of_below _ hb))
    have HRW := Lib.hid (show w2.heap[w.heap.size]? = some (.cells tok0 31 (0, 0)) by
      rw [hb.block w.heap.size (by simp)]; exact heap_alloc_new w _)
    clear hSW hb a0 a1
    have HR := Lib.hid (show (w2.setCell ⟨b, 1, none⟩ (.int .i64 ((p : Int) + n))).heap[w.heap.size]? = some (.cells tok0 31 (0, 0)) by
      rw [Below.heap_setCell _ _ _ _ (by simp only; omega)]; exact HRW.out)
    go_wp2_with (refine wpList_store_row rfl 31 (.tmp 2) (.tmp 104) rfl w.heap.size #[.int .i64 4, .string ⟨#[]⟩, .string ⟨#[]⟩, .float .f64 v, .int .i64 0, .int .i64 0, .bool false] rfl rfl 31 tok0 HR.out size31 rfl (tok_one _ _ _ _ _ _ _) ?_)
    go_wp2
    refine bodyPost_ret (v := tokV ⟨4, [], [], v⟩ 0 0 false) (results_row rfl rfl (setRow_heap _ _ _ _ _ _ HR.out) rfl) rfl ?_
    exact ⟨(HS.out.so_sp (HKW.out.setB 1 _)).setRowNew (Nat.le_refl _) _, ov, rfl, Scn.setRow (HSW.out.setTo (by omega)) HR.out _⟩

set_option maxHeartbeats 4000000 in
set_option maxRecDepth 100000 in
theorem token_dig_bad (w0 w : World) (hLO : ∀ w, Below w0.heap.size w0 w → Calls Tryz.prog 79 #[.string (s.extract p s.size)] w fun e w' => e = .returned (.tuple #[.float .f64 0, .int .i64 0, .int .i64 30]) ∧ Below w.heap.size w w') (hG : Below w0.heap.size w0 w) (hs : s.size ≤ 262144) (hp : p < s.size) (h : Scn b s lv p ln ov opn w) (hdg : Lx.isDig (Lx.pk s.data.toList p) = true) (hlf : Lx.isLet (Lx.pk s.data.toList p) = false) :
    Calls Tryz.prog 57 #[.pointer (some ⟨b, 0, none⟩)] w (TokPost b s lv ln w (.error p)) := by
  have hlen : s.data.toList.length = s.size := by simp
  have h0 := h.c0
  have h1 := h.c1
  have f1 := h.fz 1
  have hbl := h.lt
  have HS := Lib.hid h
  clear h
  have hlt : (p : Int) < (s.size : Int) := by omega
  have hd : decide ((s.size : Int) ≤ (p : Int)) = false := by simp; omega
  have hdn : decide (s.size ≤ p) = false := by simp; omega
  obtain ⟨c, hc⟩ : ∃ c, Lx.pk s.data.toList p = c := ⟨_, rfl⟩
  rw [hc] at hdg hlf
  have HC := Lib.hid hc
  have HL := Lib.hid hlf
  have HD := Lib.hid hdg
  clear hc hdg hlf
  have HLO := Lib.hid hLO
  have HG := Lib.hid (show Below w0.heap.size w0 (w.alloc (.cells tok0 31)) from hG.alloc hG.size _)
  clear hLO hG
  have a0 : ∀ o, (w.alloc o).cell? ⟨b, 0, none⟩ = some (.string s) := fun o => (HS.out.alloc o).c0
  have a1 : ∀ o, (w.alloc o).cell? ⟨b, 1, none⟩ = some (.int .i64 p) := fun o => (HS.out.alloc o).c1
  go_enter Tryz.func57, Tryz.ntmps57
  go_wp2_with fail
  refine (peek0 _ (by omega) (by omega) (HS.out.alloc _)).mono ?_
  rintro e w1 ⟨rfl, n1, rfl⟩
  rw [HC.out]
  go_wp2
  go_quiet (fail)
  go_wp2_with fail
  refine (letter_any _ _).mono ?_
  rintro e w1 ⟨rfl, rfl⟩
  rw [HL.out]
  go_wp2_with fail
  refine (digit_any _ _).mono ?_
  rintro e w1 ⟨rfl, rfl⟩
  rw [HD.out]
  go_wp2
  go_region_with (first | (go_at_call 79; go_must (refine (HLO.out _ ?_).mono ?_); go_must (exact below_dr HG.out _); go_must (rintro e w2 ⟨rfl, hb⟩)))
  all_goals
    have hSW := ((HS.out.alloc (.cells tok0 31)).drewN _).keep hb
    have h0 := hSW.c0
    have h1 := hSW.c1
    have f1 := hSW.fz 1
    have HSW := Lib.hid hSW
    have HKW := Lib.hid ((((Kf.refl (So b) w).alloc (.cells tok0 31)).drewN _).trans (Kf.of_below _ hb))
    have HRW := Lib.hid (show w2.heap[w.heap.size]? = some (.cells tok0 31 (0, 0)) by
      rw [hb.block w.heap.size (by simp)]; exact heap_alloc_new w _)
    clear hSW hb a0 a1
    go_wp2
    exact ⟨rfl, HS.out.so_sp HKW.out, rfl⟩

set_option maxHeartbeats 4000000 in
set_option maxRecDepth 100000 in
theorem token_point_ok {v n : Nat} (w0 w : World) (hLO : ∀ w, Below w0.heap.size w0 w → Calls Tryz.prog 79 #[.string (s.extract p s.size)] w fun e w' => e = .returned (.tuple #[.float .f64 v, .int .i64 n, .int .i64 0]) ∧ Below w.heap.size w w') (hn0 : 0 < n) (hns : p + n ≤ s.size) (hG : Below w0.heap.size w0 w) (hs : s.size ≤ 262144) (hp : p < s.size) (h : Scn b s lv p ln ov opn w) (hc : Lx.pk s.data.toList p = 46) (hdg : Lx.isDig (Lx.pk s.data.toList (p + 1)) = true) :
    Calls Tryz.prog 57 #[.pointer (some ⟨b, 0, none⟩)] w (TokPost b s lv ln w (.ok (⟨4, [], [], v⟩, p + n, opn))) := by
  have hlen : s.data.toList.length = s.size := by simp
  have h0 := h.c0
  have h1 := h.c1
  have f1 := h.fz 1
  have hbl := h.lt
  have HS := Lib.hid h
  clear h
  have hlt : (p : Int) < (s.size : Int) := by omega
  have hd : decide ((s.size : Int) ≤ (p : Int)) = false := by simp; omega
  have hdn : decide (s.size ≤ p) = false := by simp; omega
  have HC := Lib.hid hc
  have HD := Lib.hid hdg
  clear hc hdg
  have HLO := Lib.hid hLO
  have HG := Lib.hid (show Below w0.heap.size w0 (w.alloc (.cells tok0 31)) from hG.alloc hG.size _)
  clear hLO hG
  have a0 : ∀ o, (w.alloc o).cell? ⟨b, 0, none⟩ = some (.string s) := fun o => (HS.out.alloc o).c0
  have a1 : ∀ o, (w.alloc o).cell? ⟨b, 1, none⟩ = some (.int .i64 p) := fun o => (HS.out.alloc o).c1
  go_enter Tryz.func57, Tryz.ntmps57
  go_wp2_with fail
  refine (peek0 _ (by omega) (by omega) (HS.out.alloc _)).mono ?_
  rintro e w1 ⟨rfl, n1, rfl⟩
  rw [HC.out]
  go_wp2
  go_quiet (fail)
  go_wp2_with fail
  refine (letter_any 46 _).mono ?_
  rintro e w1 ⟨rfl, rfl⟩
  rw [show Lx.isLet 46 = false from by decide]
  go_wp2_with fail
  refine (digit_any 46 _).mono ?_
  rintro e w1 ⟨rfl, rfl⟩
  rw [show Lx.isDig 46 = false from by decide]
  go_wp2_with fail
  refine (peek1 _ (by omega) (by omega) ((HS.out.alloc _).drewN _)).mono ?_
  rintro e w1 ⟨rfl, n2, rfl⟩
  go_wp2_with fail
  refine (digit_any _ _).mono ?_
  rintro e w1 ⟨rfl, rfl⟩
  rw [HD.out]
  go_wp2
  go_region_with (first | (go_at_call 79; go_must (refine (HLO.out _ ?_).mono ?_); go_must (exact below_dr HG.out _); go_must (rintro e w2 ⟨rfl, hb⟩)))
  all_goals
    have hSW := ((HS.out.alloc (.cells tok0 31)).drewN _).keep hb
    have h0 := hSW.c0
    have h1 := hSW.c1
    have f1 := hSW.fz 1
    have HSW := Lib.hid hSW
    have HKW := Lib.hid ((((Kf.refl (So b) w).alloc (.cells tok0 31)).drewN _).trans (Kf.of_below _ hb))
    have HRW := Lib.hid (show w2.heap[w.heap.size]? = some (.cells tok0 31 (0, 0)) by
      rw [hb.block w.heap.size (by simp)]; exact heap_alloc_new w _)
    clear hSW hb a0 a1
    have HR := Lib.hid (show (w2.setCell ⟨b, 1, none⟩ (.int .i64 ((p : Int) + n))).heap[w.heap.size]? = some (.cells tok0 31 (0, 0)) by
      rw [Below.heap_setCell _ _ _ _ (by simp only; omega)]; exact HRW.out)
    go_wp2_with (refine wpList_store_row rfl 31 (.tmp 2) (.tmp 104) rfl w.heap.size #[.int .i64 4, .string ⟨#[]⟩, .string ⟨#[]⟩, .float .f64 v, .int .i64 0, .int .i64 0, .bool false] rfl rfl 31 tok0 HR.out size31 rfl (tok_one _ _ _ _ _ _ _) ?_)
    go_wp2
    refine bodyPost_ret (v := tokV ⟨4, [], [], v⟩ 0 0 false) (results_row rfl rfl (setRow_heap _ _ _ _ _ _ HR.out) rfl) rfl ?_
    exact ⟨(HS.out.so_sp (HKW.out.setB 1 _)).setRowNew (Nat.le_refl _) _, ov, rfl, Scn.setRow (HSW.out.setTo (by omega)) HR.out _⟩

set_option maxHeartbeats 4000000 in
set_option maxRecDepth 100000 in
theorem token_point_bad (w0 w : World) (hLO : ∀ w, Below w0.heap.size w0 w → Calls Tryz.prog 79 #[.string (s.extract p s.size)] w fun e w' => e = .returned (.tuple #[.float .f64 0, .int .i64 0, .int .i64 30]) ∧ Below w.heap.size w w') (hG : Below w0.heap.size w0 w) (hs : s.size ≤ 262144) (hp : p < s.size) (h : Scn b s lv p ln ov opn w) (hc : Lx.pk s.data.toList p = 46) (hdg : Lx.isDig (Lx.pk s.data.toList (p + 1)) = true) :
    Calls Tryz.prog 57 #[.pointer (some ⟨b, 0, none⟩)] w (TokPost b s lv ln w (.error p)) := by
  have hlen : s.data.toList.length = s.size := by simp
  have h0 := h.c0
  have h1 := h.c1
  have f1 := h.fz 1
  have hbl := h.lt
  have HS := Lib.hid h
  clear h
  have hlt : (p : Int) < (s.size : Int) := by omega
  have hd : decide ((s.size : Int) ≤ (p : Int)) = false := by simp; omega
  have hdn : decide (s.size ≤ p) = false := by simp; omega
  have HC := Lib.hid hc
  have HD := Lib.hid hdg
  clear hc hdg
  have HLO := Lib.hid hLO
  have HG := Lib.hid (show Below w0.heap.size w0 (w.alloc (.cells tok0 31)) from hG.alloc hG.size _)
  clear hLO hG
  have a0 : ∀ o, (w.alloc o).cell? ⟨b, 0, none⟩ = some (.string s) := fun o => (HS.out.alloc o).c0
  have a1 : ∀ o, (w.alloc o).cell? ⟨b, 1, none⟩ = some (.int .i64 p) := fun o => (HS.out.alloc o).c1
  go_enter Tryz.func57, Tryz.ntmps57
  go_wp2_with fail
  refine (peek0 _ (by omega) (by omega) (HS.out.alloc _)).mono ?_
  rintro e w1 ⟨rfl, n1, rfl⟩
  rw [HC.out]
  go_wp2
  go_quiet (fail)
  go_wp2_with fail
  refine (letter_any 46 _).mono ?_
  rintro e w1 ⟨rfl, rfl⟩
  rw [show Lx.isLet 46 = false from by decide]
  go_wp2_with fail
  refine (digit_any 46 _).mono ?_
  rintro e w1 ⟨rfl, rfl⟩
  rw [show Lx.isDig 46 = false from by decide]
  go_wp2_with fail
  refine (peek1 _ (by omega) (by omega) ((HS.out.alloc _).drewN _)).mono ?_
  rintro e w1 ⟨rfl, n2, rfl⟩
  go_wp2_with fail
  refine (digit_any _ _).mono ?_
  rintro e w1 ⟨rfl, rfl⟩
  rw [HD.out]
  go_wp2
  go_region_with (first | (go_at_call 79; go_must (refine (HLO.out _ ?_).mono ?_); go_must (exact below_dr HG.out _); go_must (rintro e w2 ⟨rfl, hb⟩)))
  all_goals
    have hSW := ((HS.out.alloc (.cells tok0 31)).drewN _).keep hb
    have h0 := hSW.c0
    have h1 := hSW.c1
    have f1 := hSW.fz 1
    have HSW := Lib.hid hSW
    have HKW := Lib.hid ((((Kf.refl (So b) w).alloc (.cells tok0 31)).drewN _).trans (Kf.of_below _ hb))
    have HRW := Lib.hid (show w2.heap[w.heap.size]? = some (.cells tok0 31 (0, 0)) by
      rw [hb.block w.heap.size (by simp)]; exact heap_alloc_new w _)
    clear hSW hb a0 a1
    go_wp2
    exact ⟨rfl, HS.out.so_sp HKW.out, rfl⟩
end
end Go.Proofs.YtcgibcjpkhefpaaGreatDoor
namespace Go.Proofs.YtcgibcjpkhefpaaGreatDoor
open Go.RowKit
section
variable {b g : Nat} {s : ByteArray} {lv ov : Value} {p : Nat} {ln : Bool} {opn : List Int} {l : List UInt8}
def numStart (l : List UInt8) (p : Nat) : Bool := Lx.isDig (Lx.pk l p) || (Lx.pk l p == 46 && Lx.isDig (Lx.pk l (p + 1)))
/-- What digits.Literal answers at place p, in every world above w0. -/
def LitAt (s : ByteArray) (p : Nat) (w0 : World) : Option (Nat × Nat) → Prop
  | some (v, n) => 0 < n ∧ p + n ≤ s.size ∧ ∀ w, Below w0.heap.size w0 w → Calls Tryz.prog 79 #[.string (s.extract p s.size)] w fun e w' => e = .returned (.tuple #[.float .f64 v, .int .i64 n, .int .i64 0]) ∧ Below w.heap.size w w'
  | none => ∀ w, Below w0.heap.size w0 w → Calls Tryz.prog 79 #[.string (s.extract p s.size)] w fun e w' => e = .returned (.tuple #[.float .f64 0, .int .i64 0, .int .i64 30]) ∧ Below w.heap.size w w'
def LitOk (E : Lx.Env) (s : ByteArray) (V : Nat → Prop) (w0 : World) : Prop :=
  ∀ p, V p → p < s.size → numStart s.data.toList p = true → LitAt s p w0 (E.lit (s.data.toList.drop p))
/-- What the world must hold: some number at internal/bytealg.MaxLen. -/
def MaxOk (w0 : World) : Prop := 1 < w0.heap.size ∧ ∃ m, w0.cell? ⟨1, 0, none⟩ = some (.int .i64 m)
theorem token_any (E : Lx.Env) (V : Nat → Prop) (w0 w : World) (hLO : LitOk E s V w0) (hM : MaxOk w0) (hV : V p) (hG : Below w0.heap.size w0 w) (hb0 : w0.heap.size ≤ b) (hs : s.size ≤ 262144) (hp : p ≤ s.size) (ho : OpnOk opn p) (h : Scn b s lv p ln ov opn w) (hL : Lst b g lv w) :
    Calls Tryz.prog 57 #[.pointer (some ⟨b, 0, none⟩)] w (TokPost b s lv ln w (Lx.token E s.data.toList p opn)) := by
  have hlen : s.data.toList.length = s.size := by simp
  unfold Lx.token
  simp only
  split
  · exact token_end w hs (by omega) h
  rename_i hge
  have hlt : p < s.size := by omega
  split
  · rename_i hl
    obtain ⟨h1, m, hm⟩ := hM
    have := token_name w m (by rw [hG.cell (p := ⟨1, 0, none⟩) h1]; exact hm) (by omega) hs hlt h hl
    exact this
  rename_i hl
  have hl : Lx.isLet (Lx.pk s.data.toList p) = false := by simpa using hl
  split
  · rename_i hn
    have hns : numStart s.data.toList p = true := hn
    have hA := hLO p hV hlt hns
    cases hd : Lx.isDig (Lx.pk s.data.toList p) with
    | true =>
      cases hr : E.lit (s.data.toList.drop p) with
      | none =>
        rw [hr] at hA
        exact token_dig_bad w0 w hA hG hs hlt h hd hl
      | some r =>
        obtain ⟨v, n⟩ := r
        rw [hr] at hA
        exact token_dig_ok w0 w hA.2.2 hA.1 hA.2.1 hG hs hlt h hd hl
    | false =>
      rw [hd] at hn
      simp only [Bool.false_or, Bool.and_eq_true, beq_iff_eq] at hn
      cases hr : E.lit (s.data.toList.drop p) with
      | none =>
        rw [hr] at hA
        exact token_point_bad w0 w hA hG hs hlt h hn.1 hn.2
      | some r =>
        obtain ⟨v, n⟩ := r
        rw [hr] at hA
        exact token_point_ok w0 w hA.2.2 hA.1 hA.2.1 hG hs hlt h hn.1 hn.2
  rename_i hn
  have hd : Lx.isDig (Lx.pk s.data.toList p) = false := by
    cases hd : Lx.isDig (Lx.pk s.data.toList p) with
    | true => exact absurd (by simp [hd]) hn
    | false => rfl
  split
  · rename_i hq
    simp only [Bool.or_eq_true, beq_iff_eq] at hq
    rcases hq with hq | hq
    · exact token_text34 w hs hlt h hq
    · exact token_text39 w hs hlt h hq
  rename_i hq
  simp only [Bool.or_eq_true, beq_iff_eq, not_or] at hq
  split
  · rename_i ht
    exact token_tmpl w hs hlt (by have := ho.1; omega) h (by simpa using ht)
  rename_i ht
  have ht : Lx.pk s.data.toList p ≠ 96 := by simpa using ht
  by_cases hc : Lx.pk s.data.toList p = 46
  · exact token_point w hs hlt ho h hL hc (by
      cases hx : Lx.isDig (Lx.pk s.data.toList (p + 1)) with
      | true => exact absurd (by simp [hc, hx]) hn
      | false => rfl)
  · exact token_sign w hs hlt ho h hL hl hd hc hq.1 hq.2 ht
theorem TW.drew {w0 w : World} {r k : Nat} {c : Array Value} (h : TW b s lv p ln ov opn w0 r k c w) : TW b s lv p ln ov opn w0 r k c w.drew :=
  ⟨h.scn.drew, h.kf.drew, h.res, h.blk, h.new, h.ne⟩
/-- Behind next. -/
def NextPost (b : Nat) (s : ByteArray) (lv : Value) (w : World) (r : Except Nat (Lx.Tok × Nat × List Int)) (e : Ending) (w' : World) : Prop :=
  Kf (Sp b) w w' ∧ match r with
    | .ok (t, q, opn') => ∃ ov', e = .returned (tokV t.tk t.frm t.till t.line) ∧ Scn b s lv q t.line ov' opn' w'
    | .error a => e = wrongAt a
set_option maxHeartbeats 4000000 in
set_option maxRecDepth 100000 in
theorem next_any (E : Lx.Env) (V : Nat → Prop) (w0 w : World) (hCM : CmOk E s V) (hVS : VSkip E s.data.toList V) (hLO : LitOk E s V w0) (hM : MaxOk w0) (hV : V p) (hVq : ∀ q l2, Lx.skip E s.data.toList (s.data.toList.length - p) p false = .ok (q, l2) → V q ∧ p ≤ q ∧ q ≤ s.size) (hG : Below w0.heap.size w0 w) (hb0 : w0.heap.size ≤ b) (hs : s.size ≤ 262144) (hp : p ≤ s.size) (ho : OpnOk opn p) (h : Scn b s lv p ln ov opn w) (hL : Lst b g lv w) :
    Calls Tryz.prog 35 #[.pointer (some ⟨b, 0, none⟩)] w (NextPost b s lv w (Lx.next E s.data.toList p opn)) := by
  have hbl := h.lt
  have f2 := h.fz 2
  have c2 := h.c2
  have hgb := hL.lt
  have HS := Lib.hid h
  have HL := Lib.hid hL
  have HSK := Lib.hid (skip_any E V hCM hVS (b := b) (lv := lv) (ov := ov) (opn := opn) (p := p) (ln := false))
  have HVQ := Lib.hid hVq
  have HTK := Lib.hid (fun (q : Nat) (l2 : Bool) (o2 : Value) (w : World) => token_any (b := b) (g := g) (lv := lv) (ov := o2) (p := q) (ln := l2) (opn := opn) E V w0 w hLO hM)
  have HG := Lib.hid hG
  have HV := Lib.hid hV
  have HO := Lib.hid ho
  clear h hL hCM hVS hLO hM hV hVq hG ho
  go_enter Tryz.func35, Tryz.ntmps35
  go_wp2_with fail
  refine (HSK.out _ hs hp HV.out ((HS.out.setLn false).alloc _)).mono ?_
  rintro e w1 ⟨hK1, hP⟩
  have HK1 := Lib.hid ((((Kf.refl (So b) w).setB 2 (.bool false)).alloc (.cells tok0 31)).trans hK1)
  have HR1 := Lib.hid (hK1.block w.heap.size (.cells tok0 31 (0, 0)) (by
    have := heap_alloc_new (w.setCell ⟨b, 2, none⟩ (.bool false)) (.cells tok0 31)
    rw [show (w.setCell ⟨b, 2, none⟩ (.bool false)).heap.size = w.heap.size by simp [World.setCell]] at this
    exact this) (by simp [So]; omega))
  clear hK1
  cases hk : Lx.skip E s.data.toList (s.data.toList.length - p) p false with
  | error a =>
    have FIN := Lib.hid (show Lx.next E s.data.toList p opn = .error a by simp only [Lx.next, hk])
    rw [hk] at hP
    have he : e = wrongAt a := hP
    clear hP hk
    subst he
    unfold wrongAt
    go_wp2
    exact ⟨rfl, HS.out.so_sp HK1.out, by rw [FIN.out]; rfl⟩
  | ok r =>
    obtain ⟨q, l2⟩ := r
    have hq := HVQ.out q l2 hk
    rw [hk] at hP
    obtain ⟨he, hS2⟩ := hP
    have hql := hq.2.2
    have hpq := hq.2.1
    have HVQ2 := Lib.hid hq.1
    have HKK := Lib.hid hk
    have hb1 := hS2.lt
    have c1 := hS2.c1
    have HS2 := Lib.hid hS2
    clear hS2 hk hq
    subst he
    go_wp2_with fail
    refine (HTK.out q l2 ov _ HVQ2.out ?_ hb0 hs hql ?_ HS2.out ?_).mono ?_
    · exact HG.out.trans (Below.mono (Kf.below (B := w0.heap.size) HK1.out HG.out.size (fun k o e => by have e : k = b := e; omega)) (Nat.le_refl _))
    · exact ⟨by have := HO.out.1; omega, fun m hm => by have := HO.out.2 m hm; omega⟩
    · exact HL.out.kf HK1.out (fun o e => by have e : g = b := e; omega)
    rintro e w2 ⟨hK3, hP⟩
    have HK3 := Lib.hid ((HS.out.so_sp HK1.out).trans hK3)
    have HR3 := Lib.hid (hK3.block w.heap.size (.cells tok0 31 (0, 0)) HR1.out (fun e => e.2 (by simp [Calm])))
    clear hK3
    cases hT : Lx.token E s.data.toList q opn with
    | error a =>
      have FIN := Lib.hid (show Lx.next E s.data.toList p opn = .error a by simp only [Lx.next, HKK.out, hT])
      rw [hT] at hP
      have he : e = wrongAt a := hP
      clear hP hT
      subst he
      unfold wrongAt
      go_wp2
      exact ⟨rfl, HK3.out, by rw [FIN.out]; rfl⟩
    | ok r3 =>
      obtain ⟨tk, r, opn'⟩ := r3
      have FIN := Lib.hid (show Lx.next E s.data.toList p opn = .ok (⟨tk, q, r, l2⟩, r, opn') by simp only [Lx.next, HKK.out, hT])
      rw [hT] at hP
      obtain ⟨ov', he, hS4⟩ := hP
      have HS4 := Lib.hid hS4
      have hr0 := lt_of_heap HR3.out
      clear hS4 hT
      subst he
      unfold tokV
      go_wp2_with (refine wpList_store_row rfl 31 (.tmp 4) (.tmp 15) rfl w2.heap.size #[.int .i64 tk.kind, .string ⟨tk.text.toArray⟩, .string ⟨tk.str.toArray⟩, .float .f64 tk.num, .int .i64 (0 : Nat), .int .i64 (0 : Nat), .bool false] rfl rfl 31 tok0 (heap_alloc_new w2 _) size31 rfl (tok_one _ _ _ _ _ _ _) ?_)
      have T0 : TW b s lv r l2 ov' opn' w w.heap.size w2.heap.size #[.int .i64 tk.kind, .string ⟨tk.text.toArray⟩, .string ⟨tk.str.toArray⟩, .float .f64 tk.num, .int .i64 (0 : Nat), .int .i64 (0 : Nat), .bool false] ((w2.alloc (.cells tok0 31)).setRow w2.heap.size #[.int .i64 tk.kind, .string ⟨tk.text.toArray⟩, .string ⟨tk.str.toArray⟩, .float .f64 tk.num, .int .i64 (0 : Nat), .int .i64 (0 : Nat), .bool false]) :=
        ⟨(HS4.out.alloc _).setRow (heap_alloc_new w2 _) _, (HK3.out.alloc _).setRowNew HK3.out.size _, by rw [setRow_other _ _ _ _ (by omega), Below.heap_alloc _ _ _ hr0]; exact HR3.out, setRow_heap _ _ _ _ _ _ (heap_alloc_new w2 _), HK3.out.size, by omega⟩
      generalize hwz : World.setRow _ _ _ = wz
      have T1 : TW b s lv r l2 ov' opn' w w.heap.size w2.heap.size #[.int .i64 tk.kind, .string ⟨tk.text.toArray⟩, .string ⟨tk.str.toArray⟩, .float .f64 tk.num, .int .i64 (0 : Nat), .int .i64 (0 : Nat), .bool false] wz := by
        rw [← hwz]; exact T0
      clear T0 hwz
      have b1 := T1.scn.c1
      have b2 := T1.scn.c2
      have t4 : wz.cell? ⟨w2.heap.size, 4, none⟩ = some (.int .i64 0) := by rw [cellN T1.blk 4]; rfl
      have t5 : wz.cell? ⟨w2.heap.size, 5, none⟩ = some (.int .i64 0) := by rw [cellN T1.blk 5]; rfl
      have t6 : wz.cell? ⟨w2.heap.size, 6, none⟩ = some (.bool false) := by rw [cellN T1.blk 6]; rfl
      have tf4 : wz.frozen? ⟨w2.heap.size, 4, none⟩ = false := by simp [World.frozen?, T1.blk]
      have tf5 : wz.frozen? ⟨w2.heap.size, 5, none⟩ = false := by simp [World.frozen?, T1.blk]
      have tf6 : wz.frozen? ⟨w2.heap.size, 6, none⟩ = false := by simp [World.frozen?, T1.blk]
      have hbk : b ≠ w2.heap.size := by have := HS4.out.lt; omega
      have hkb : w2.heap.size ≠ b := hbk.symm
      have TT := Lib.hid T1
      clear T1
      go_wp2
      go_region
      all_goals
        generalize hwy : World.setCell _ _ _ = wy
        have T2 : TW b s lv r l2 ov' opn' w w.heap.size w2.heap.size #[.int .i64 tk.kind, .string ⟨tk.text.toArray⟩, .string ⟨tk.str.toArray⟩, .float .f64 tk.num, .int .i64 q, .int .i64 r, .bool l2] wy := by
          rw [← hwy]
          first | exact (((TT.out.set 4 (.int .i64 q)).set 5 (.int .i64 r)).set 6 (.bool l2)) | exact (((TT.out.set 4 (.int .i64 q)).set 6 (.bool l2)).set 5 (.int .i64 r)) | exact (((TT.out.set 5 (.int .i64 r)).set 4 (.int .i64 q)).set 6 (.bool l2)) | exact (((TT.out.set 5 (.int .i64 r)).set 6 (.bool l2)).set 4 (.int .i64 q)) | exact (((TT.out.set 6 (.bool l2)).set 4 (.int .i64 q)).set 5 (.int .i64 r)) | exact (((TT.out.set 6 (.bool l2)).set 5 (.int .i64 r)).set 4 (.int .i64 q))
        clear hwy
        have u0 : wy.cell? ⟨w2.heap.size, 0, none⟩ = some (.int .i64 tk.kind) := by rw [cellN T2.blk 0]; rfl
        have u1 : wy.cell? ⟨w2.heap.size, 1, none⟩ = some (.string ⟨tk.text.toArray⟩) := by rw [cellN T2.blk 1]; rfl
        have u2 : wy.cell? ⟨w2.heap.size, 2, none⟩ = some (.string ⟨tk.str.toArray⟩) := by rw [cellN T2.blk 2]; rfl
        have u3 : wy.cell? ⟨w2.heap.size, 3, none⟩ = some (.float .f64 tk.num) := by rw [cellN T2.blk 3]; rfl
        have u4 : wy.cell? ⟨w2.heap.size, 4, none⟩ = some (.int .i64 q) := by rw [cellN T2.blk 4]; rfl
        have u5 : wy.cell? ⟨w2.heap.size, 5, none⟩ = some (.int .i64 r) := by rw [cellN T2.blk 5]; rfl
        have u6 : wy.cell? ⟨w2.heap.size, 6, none⟩ = some (.bool l2) := by rw [cellN T2.blk 6]; rfl
        have TU := Lib.hid T2.drew
        clear T2 t4 t5 t6 tf4 tf5 tf6 b1 b2
        go_wp2_with (refine wpList_store_row rfl 31 (.tmp 2) (.tmp 28) rfl w.heap.size #[.int .i64 tk.kind, .string ⟨tk.text.toArray⟩, .string ⟨tk.str.toArray⟩, .float .f64 tk.num, .int .i64 q, .int .i64 r, .bool l2] rfl rfl 31 tok0 TU.out.res size31 rfl (tok_one _ _ _ _ _ _ _) ?_)
        go_wp2
        refine bodyPost_ret (v := tokV tk q r l2) (results_row rfl rfl (setRow_heap _ _ _ _ _ _ TU.out.res) rfl) rfl ?_
        exact ⟨TU.out.kf.setRowNew (Nat.le_refl _) _, by rw [FIN.out]; exact ⟨ov', rfl, TU.out.scn.setRow TU.out.res _⟩⟩
end
end Go.Proofs.YtcgibcjpkhefpaaGreatDoor

/-
  The walk of the scanner's token: numbers, under what digits.Literal answers.
-/
import Derived.Test.YtcgibcjpkhefpaaGreatDoorW13
import Derived.Deep.RegionWith
import Derived.Deep.DeepMust
namespace Go.Proofs.YtcgibcjpkhefpaaGreatDoor
open Go.RowKit
section
variable {b g : Nat} {s : ByteArray} {lv ov : Value} {p : Nat} {ln : Bool} {opn : List Int} {l : List UInt8}
theorem below_dr {B : Nat} {w w1 : World} (h : Below B w w1) (n : Nat) : Below B w (w1.drewN n) := ⟨h.os, h.tape, h.output, h.size, h.block⟩

set_option maxHeartbeats 4000000 in
set_option maxRecDepth 100000 in
theorem token_dig_ok {v n : Nat} (w0 w : World) (hLO : ∀ w, Below w0.heap.size w0 w → Calls Tryz.prog 79 #[.string (s.extract p s.size)] w fun e w' => e = .returned (.tuple #[.float .f64 v, .int .i64 n, .int .i64 0]) ∧ Below w.heap.size w w') (hn0 : 0 < n) (hns : p + n ≤ s.size) (hG : Below w0.heap.size w0 w) (hs : s.size ≤ 262144) (hp : p < s.size) (h : Scn b s lv p ln ov opn w) (hdg : Lx.isDig (Lx.pk s.data.toList p) = true) (hlf : Lx.isLet (Lx.pk s.data.toList p) = false) :
    Calls Tryz.prog 57 #[.pointer (some ⟨b, 0, none⟩)] w (TokPost b s lv ln w (.ok (⟨4, [], [], v⟩, p + n, opn))) := by
  have hlen : s.data.toList.length = s.size := by simp
  have h0 := h.c0
  have h1 := h.c1
  have f1 := h.fz 1
  have hbl := h.lt
  have HS := Lib.hid h
  clear h
  have hlt : (p : Int) < (s.size : Int) := by omega
  have hd : decide ((s.size : Int) ≤ (p : Int)) = false := by simp; omega
  have hdn : decide (s.size ≤ p) = false := by simp; omega
  obtain ⟨c, hc⟩ : ∃ c, Lx.pk s.data.toList p = c := ⟨_, rfl⟩
  rw [hc] at hdg hlf
  have HC := Lib.hid hc
  have HL := Lib.hid hlf
  have HD := Lib.hid hdg
  clear hc hdg hlf
  have HLO := Lib.hid hLO
  have HG := Lib.hid (show Below w0.heap.size w0 (w.alloc (.cells tok0 31)) from hG.alloc hG.size _)
  clear hLO hG
  have a0 : ∀ o, (w.alloc o).cell? ⟨b, 0, none⟩ = some (.string s) := fun o => (HS.out.alloc o).c0
  have a1 : ∀ o, (w.alloc o).cell? ⟨b, 1, none⟩ = some (.int .i64 p) := fun o => (HS.out.alloc o).c1
  go_enter Tryz.func57, Tryz.ntmps57
  go_wp2_with fail
  refine (peek0 _ (by omega) (by omega) (HS.out.alloc _)).mono ?_
  rintro e w1 ⟨rfl, n1, rfl⟩
  rw [HC.out]
  go_wp2
  go_quiet (fail)
  go_wp2_with fail
  refine (letter_any _ _).mono ?_
  rintro e w1 ⟨rfl, rfl⟩
  rw [HL.out]
  go_wp2_with fail
  refine (digit_any _ _).mono ?_
  rintro e w1 ⟨rfl, rfl⟩
  rw [HD.out]
  go_wp2
  go_region_with (first | (go_at_call 79; go_must (refine (HLO.out _ ?_).mono ?_); go_must (exact below_dr HG.out _); go_must (rintro e w2 ⟨rfl, hb⟩)))
  all_goals
    have hSW := ((HS.out.alloc (.cells tok0 31)).drewN _).keep hb
    have h0 := hSW.c0
    have h1 := hSW.c1
    have f1 := hSW.fz 1
    have HSW := Lib.hid hSW
    have HKW := Lib.hid ((((Kf.refl (So b) w).alloc (.cells tok0 31)).drewN _).trans (Kf.of_below _ hb))
    have HRW := Lib.hid (show w2.heap[w.heap.size]? = some (.cells tok0 31 (0, 0)) by
      rw [hb.block w.heap.size (by simp)]; exact heap_alloc_new w _)
    clear hSW hb a0 a1
    have HR := Lib.hid (show (w2.setCell ⟨b, 1, none⟩ (.int .i64 ((p : Int) + n))).heap[w.heap.size]? = some (.cells tok0 31 (0, 0)) by
      rw [Below.heap_setCell _ _ _ _ (by simp only; omega)]; exact HRW.out)
    go_wp2_with (refine wpList_store_row rfl 31 (.tmp 2) (.tmp 104) rfl w.heap.size #[.int .i64 4, .string ⟨#[]⟩, .string ⟨#[]⟩, .float .f64 v, .int .i64 0, .int .i64 0, .bool false] rfl rfl 31 tok0 HR.out size31 rfl (tok_one _ _ _ _ _ _ _) ?_)
    go_wp2
    refine bodyPost_ret (v := tokV ⟨4, [], [], v⟩ 0 0 false) (results_row rfl rfl (setRow_heap _ _ _ _ _ _ HR.out) rfl) rfl ?_
    exact ⟨(HS.out.so_sp (HKW.out.setB 1 _)).setRowNew (Nat.le_refl _) _, ov, rfl, Scn.setRow (HSW.out.setTo (by omega)) HR.out _⟩

set_option maxHeartbeats 4000000 in
set_option maxRecDepth 100000 in
theorem token_dig_bad (w0 w : World) (hLO : ∀ w, Below w0.heap.size w0 w → Calls Tryz.prog 79 #[.string (s.extract p s.size)] w fun e w' => e = .returned (.tuple #[.float .f64 0, .int .i64 0, .int .i64 30]) ∧ Below w.heap.size w w') (hG : Below w0.heap.size w0 w) (hs : s.size ≤ 262144) (hp : p < s.size) (h : Scn b s lv p ln ov opn w) (hdg : Lx.isDig (Lx.pk s.data.toList p) = true) (hlf : Lx.isLet (Lx.pk s.data.toList p) = false) :
    Calls Tryz.prog 57 #[.pointer (some ⟨b, 0, none⟩)] w (TokPost b s lv ln w (.error p)) := by
  have hlen : s.data.toList.length = s.size := by simp
  have h0 := h.c0
  have h1 := h.c1
  have f1 := h.fz 1
  have hbl := h.lt
  have HS := Lib.hid h
  clear h
  have hlt : (p : Int) < (s.size : Int) := by omega
  have hd : decide ((s.size : Int) ≤ (p : Int)) = false := by simp; omega
  have hdn : decide (s.size ≤ p) = false := by simp; omega
  obtain ⟨c, hc⟩ : ∃ c, Lx.pk s.data.toList p = c := ⟨_, rfl⟩
  rw [hc] at hdg hlf
  have HC := Lib.hid hc
  have HL := Lib.hid hlf
  have HD := Lib.hid hdg
  clear hc hdg hlf
  have HLO := Lib.hid hLO
  have HG := Lib.hid (show Below w0.heap.size w0 (w.alloc (.cells tok0 31)) from hG.alloc hG.size _)
  clear hLO hG
  have a0 : ∀ o, (w.alloc o).cell? ⟨b, 0, none⟩ = some (.string s) := fun o => (HS.out.alloc o).c0
  have a1 : ∀ o, (w.alloc o).cell? ⟨b, 1, none⟩ = some (.int .i64 p) := fun o => (HS.out.alloc o).c1
  go_enter Tryz.func57, Tryz.ntmps57
  go_wp2_with fail
  refine (peek0 _ (by omega) (by omega) (HS.out.alloc _)).mono ?_
  rintro e w1 ⟨rfl, n1, rfl⟩
  rw [HC.out]
  go_wp2
  go_quiet (fail)
  go_wp2_with fail
  refine (letter_any _ _).mono ?_
  rintro e w1 ⟨rfl, rfl⟩
  rw [HL.out]
  go_wp2_with fail
  refine (digit_any _ _).mono ?_
  rintro e w1 ⟨rfl, rfl⟩
  rw [HD.out]
  go_wp2
  go_region_with (first | (go_at_call 79; go_must (refine (HLO.out _ ?_).mono ?_); go_must (exact below_dr HG.out _); go_must (rintro e w2 ⟨rfl, hb⟩)))
  all_goals
    have hSW := ((HS.out.alloc (.cells tok0 31)).drewN _).keep hb
    have h0 := hSW.c0
    have h1 := hSW.c1
    have f1 := hSW.fz 1
    have HSW := Lib.hid hSW
    have HKW := Lib.hid ((((Kf.refl (So b) w).alloc (.cells tok0 31)).drewN _).trans (Kf.of_below _ hb))
    have HRW := Lib.hid (show w2.heap[w.heap.size]? = some (.cells tok0 31 (0, 0)) by
      rw [hb.block w.heap.size (by simp)]; exact heap_alloc_new w _)
    clear hSW hb a0 a1
    go_wp2
    exact ⟨rfl, HS.out.so_sp HKW.out, rfl⟩

set_option maxHeartbeats 4000000 in
set_option maxRecDepth 100000 in
theorem token_point_ok {v n : Nat} (w0 w : World) (hLO : ∀ w, Below w0.heap.size w0 w → Calls Tryz.prog 79 #[.string (s.extract p s.size)] w fun e w' => e = .returned (.tuple #[.float .f64 v, .int .i64 n, .int .i64 0]) ∧ Below w.heap.size w w') (hn0 : 0 < n) (hns : p + n ≤ s.size) (hG : Below w0.heap.size w0 w) (hs : s.size ≤ 262144) (hp : p < s.size) (h : Scn b s lv p ln ov opn w) (hc : Lx.pk s.data.toList p = 46) (hdg : Lx.isDig (Lx.pk s.data.toList (p + 1)) = true) :
    Calls Tryz.prog 57 #[.pointer (some ⟨b, 0, none⟩)] w (TokPost b s lv ln w (.ok (⟨4, [], [], v⟩, p + n, opn))) := by
  have hlen : s.data.toList.length = s.size := by simp
  have h0 := h.c0
  have h1 := h.c1
  have f1 := h.fz 1
  have hbl := h.lt
  have HS := Lib.hid h
  clear h
  have hlt : (p : Int) < (s.size : Int) := by omega
  have hd : decide ((s.size : Int) ≤ (p : Int)) = false := by simp; omega
  have hdn : decide (s.size ≤ p) = false := by simp; omega
  have HC := Lib.hid hc
  have HD := Lib.hid hdg
  clear hc hdg
  have HLO := Lib.hid hLO
  have HG := Lib.hid (show Below w0.heap.size w0 (w.alloc (.cells tok0 31)) from hG.alloc hG.size _)
  clear hLO hG
  have a0 : ∀ o, (w.alloc o).cell? ⟨b, 0, none⟩ = some (.string s) := fun o => (HS.out.alloc o).c0
  have a1 : ∀ o, (w.alloc o).cell? ⟨b, 1, none⟩ = some (.int .i64 p) := fun o => (HS.out.alloc o).c1
  go_enter Tryz.func57, Tryz.ntmps57
  go_wp2_with fail
  refine (peek0 _ (by omega) (by omega) (HS.out.alloc _)).mono ?_
  rintro e w1 ⟨rfl, n1, rfl⟩
  rw [HC.out]
  go_wp2
  go_quiet (fail)
  go_wp2_with fail
  refine (letter_any 46 _).mono ?_
  rintro e w1 ⟨rfl, rfl⟩
  rw [show Lx.isLet 46 = false from by decide]
  go_wp2_with fail
  refine (digit_any 46 _).mono ?_
  rintro e w1 ⟨rfl, rfl⟩
  rw [show Lx.isDig 46 = false from by decide]
  go_wp2_with fail
  refine (peek1 _ (by omega) (by omega) ((HS.out.alloc _).drewN _)).mono ?_
  rintro e w1 ⟨rfl, n2, rfl⟩
  go_wp2_with fail
  refine (digit_any _ _).mono ?_
  rintro e w1 ⟨rfl, rfl⟩
  rw [HD.out]
  go_wp2
  go_region_with (first | (go_at_call 79; go_must (refine (HLO.out _ ?_).mono ?_); go_must (exact below_dr HG.out _); go_must (rintro e w2 ⟨rfl, hb⟩)))
  all_goals
    have hSW := ((HS.out.alloc (.cells tok0 31)).drewN _).keep hb
    have h0 := hSW.c0
    have h1 := hSW.c1
    have f1 := hSW.fz 1
    have HSW := Lib.hid hSW
    have HKW := Lib.hid ((((Kf.refl (So b) w).alloc (.cells tok0 31)).drewN _).trans (Kf.of_below _ hb))
    have HRW := Lib.hid (show w2.heap[w.heap.size]? = some (.cells tok0 31 (0, 0)) by
      rw [hb.block w.heap.size (by simp)]; exact heap_alloc_new w _)
    clear hSW hb a0 a1
    have HR := Lib.hid (show (w2.setCell ⟨b, 1, none⟩ (.int .i64 ((p : Int) + n))).heap[w.heap.size]? = some (.cells tok0 31 (0, 0)) by
      rw [Below.heap_setCell _ _ _ _ (by simp only; omega)]; exact HRW.out)
    go_wp2_with (refine wpList_store_row rfl 31 (.tmp 2) (.tmp 104) rfl w.heap.size #[.int .i64 4, .string ⟨#[]⟩, .string ⟨#[]⟩, .float .f64 v, .int .i64 0, .int .i64 0, .bool false] rfl rfl 31 tok0 HR.out size31 rfl (tok_one _ _ _ _ _ _ _) ?_)
    go_wp2
    refine bodyPost_ret (v := tokV ⟨4, [], [], v⟩ 0 0 false) (results_row rfl rfl (setRow_heap _ _ _ _ _ _ HR.out) rfl) rfl ?_
    exact ⟨(HS.out.so_sp (HKW.out.setB 1 _)).setRowNew (Nat.le_refl _) _, ov, rfl, Scn.setRow (HSW.out.setTo (by omega)) HR.out _⟩

set_option maxHeartbeats 4000000 in
set_option maxRecDepth 100000 in
theorem token_point_bad (w0 w : World) (hLO : ∀ w, Below w0.heap.size w0 w → Calls Tryz.prog 79 #[.string (s.extract p s.size)] w fun e w' => e = .returned (.tuple #[.float .f64 0, .int .i64 0, .int .i64 30]) ∧ Below w.heap.size w w') (hG : Below w0.heap.size w0 w) (hs : s.size ≤ 262144) (hp : p < s.size) (h : Scn b s lv p ln ov opn w) (hc : Lx.pk s.data.toList p = 46) (hdg : Lx.isDig (Lx.pk s.data.toList (p + 1)) = true) :
    Calls Tryz.prog 57 #[.pointer (some ⟨b, 0, none⟩)] w (TokPost b s lv ln w (.error p)) := by
  have hlen : s.data.toList.length = s.size := by simp
  have h0 := h.c0
  have h1 := h.c1
  have f1 := h.fz 1
  have hbl := h.lt
  have HS := Lib.hid h
  clear h
  have hlt : (p : Int) < (s.size : Int) := by omega
  have hd : decide ((s.size : Int) ≤ (p : Int)) = false := by simp; omega
  have hdn : decide (s.size ≤ p) = false := by simp; omega
  have HC := Lib.hid hc
  have HD := Lib.hid hdg
  clear hc hdg
  have HLO := Lib.hid hLO
  have HG := Lib.hid (show Below w0.heap.size w0 (w.alloc (.cells tok0 31)) from hG.alloc hG.size _)
  clear hLO hG
  have a0 : ∀ o, (w.alloc o).cell? ⟨b, 0, none⟩ = some (.string s) := fun o => (HS.out.alloc o).c0
  have a1 : ∀ o, (w.alloc o).cell? ⟨b, 1, none⟩ = some (.int .i64 p) := fun o => (HS.out.alloc o).c1
  go_enter Tryz.func57, Tryz.ntmps57
  go_wp2_with fail
  refine (peek0 _ (by omega) (by omega) (HS.out.alloc _)).mono ?_
  rintro e w1 ⟨rfl, n1, rfl⟩
  rw [HC.out]
  go_wp2
  go_quiet (fail)
  go_wp2_with fail
  refine (letter_any 46 _).mono ?_
  rintro e w1 ⟨rfl, rfl⟩
  rw [show Lx.isLet 46 = false from by decide]
  go_wp2_with fail
  refine (digit_any 46 _).mono ?_
  rintro e w1 ⟨rfl, rfl⟩
  rw [show Lx.isDig 46 = false from by decide]
  go_wp2_with fail
  refine (peek1 _ (by omega) (by omega) ((HS.out.alloc _).drewN _)).mono ?_
  rintro e w1 ⟨rfl, n2, rfl⟩
  go_wp2_with fail
  refine (digit_any _ _).mono ?_
  rintro e w1 ⟨rfl, rfl⟩
  rw [HD.out]
  go_wp2
  go_region_with (first | (go_at_call 79; go_must (refine (HLO.out _ ?_).mono ?_); go_must (exact below_dr HG.out _); go_must (rintro e w2 ⟨rfl, hb⟩)))
  all_goals
    have hSW := ((HS.out.alloc (.cells tok0 31)).drewN _).keep hb
    have h0 := hSW.c0
    have h1 := hSW.c1
    have f1 := hSW.fz 1
    have HSW := Lib.hid hSW
    have HKW := Lib.hid ((((Kf.refl (So b) w).alloc (.cells tok0 31)).drewN _).trans (Kf.of_below _ hb))
    have HRW := Lib.hid (show w2.heap[w.heap.size]? = some (.cells tok0 31 (0, 0)) by
      rw [hb.block w.heap.size (by simp)]; exact heap_alloc_new w _)
    clear hSW hb a0 a1
    go_wp2
    exact ⟨rfl, HS.out.so_sp HKW.out, rfl⟩
end
end Go.Proofs.YtcgibcjpkhefpaaGreatDoor

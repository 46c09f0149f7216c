/-
  The walk of the scanner's token: the end, numbers, texts, templates, signs.
-/
import Derived.Test.YtcgibcjpkhefpaaGreatDoorW12
import Derived.StillTailTactics
namespace Go.Proofs.YtcgibcjpkhefpaaGreatDoor
open Go.RowKit
section
variable {b g : Nat} {s : ByteArray} {lv ov : Value} {p : Nat} {ln : Bool} {opn : List Int} {l : List UInt8}

set_option maxHeartbeats 2000000 in
set_option maxRecDepth 100000 in
theorem token_end (w : World) (hs : s.size ≤ 262144) (hp : p = s.size) (h : Scn b s lv p ln ov opn w) :
    Calls Tryz.prog 57 #[.pointer (some ⟨b, 0, none⟩)] w (TokPost b s lv ln w (.ok (⟨0, [], [], 0⟩, p, opn))) := by
  have hlen : s.data.toList.length = s.size := by simp
  have h0 := h.c0
  have h1 := h.c1
  have f1 := h.fz 1
  have hbl := h.lt
  have HS := Lib.hid h
  clear h
  have hlt : (s.size : Int) ≤ (p : Int) := by omega
  have hd : decide ((s.size : Int) ≤ (p : Int)) = true := by simp; omega
  have hdn : decide (s.size ≤ p) = true := by simp; omega
  have hc := Lx.pk_zero (l := s.data.toList) (p := p) (by omega)
  have HC := Lib.hid hc
  clear hc
  go_enter Tryz.func57, Tryz.ntmps57
  go_wp2_with fail
  refine (peek0 _ (by omega) (by omega) (HS.out.alloc _)).mono ?_
  rintro e w1 ⟨rfl, n1, rfl⟩
  rw [HC.out]
  go_wp2
  go_quiet (fail)
  have HR := Lib.hid (show ((w.alloc (.cells tok0 31)).drewN (n1 + nq)).heap[w.heap.size]? = some (.cells tok0 31 (0, 0)) from heap_alloc_new _ _)
  go_wp2_with (refine wpList_store_row rfl 31 (.tmp 2) (.tmp 22) rfl w.heap.size #[.int .i64 0, .string ⟨#[]⟩, .string ⟨#[]⟩, .float .f64 0, .int .i64 0, .int .i64 0, .bool false] rfl rfl 31 tok0 HR.out size31 rfl (tok_one _ _ _ _ _ _ _) ?_)
  go_wp2
  refine bodyPost_ret (v := tokV ⟨0, [], [], 0⟩ 0 0 false) (results_row rfl rfl (setRow_heap _ _ _ _ _ _ HR.out) rfl) rfl ?_
  exact ⟨(((Kf.refl _ _).alloc _).drewN _).setRowNew (Nat.le_refl _) _, ov, rfl, Scn.setRow ((HS.out.alloc _).drewN _) HR.out _⟩
set_option maxHeartbeats 2000000 in
set_option maxRecDepth 100000 in
theorem token_text34 (w : World) (hs : s.size ≤ 262144) (hp : p < s.size) (h : Scn b s lv p ln ov opn w) (hc : Lx.pk s.data.toList p = 34) :
    Calls Tryz.prog 57 #[.pointer (some ⟨b, 0, none⟩)] w (TokPost b s lv ln w (Lx.text s.data.toList p opn)) := by
  have hlen : s.data.toList.length = s.size := by simp
  have h0 := h.c0
  have h1 := h.c1
  have f1 := h.fz 1
  have hbl := h.lt
  have HS := Lib.hid h
  clear h
  have hlt : (p : Int) < (s.size : Int) := by omega
  have hd : decide ((s.size : Int) ≤ (p : Int)) = false := by simp; omega
  have hdn : decide (s.size ≤ p) = false := by simp; omega
  have HC := Lib.hid hc
  clear hc
  go_enter Tryz.func57, Tryz.ntmps57
  go_wp2_with fail
  refine (peek0 _ (by omega) (by omega) (HS.out.alloc _)).mono ?_
  rintro e w1 ⟨rfl, n1, rfl⟩
  rw [HC.out]
  go_wp2
  go_quiet (fail)
  go_wp2_with fail
  refine (letter_any 34 _).mono ?_
  rintro e w1 ⟨rfl, rfl⟩
  rw [show Lx.isLet 34 = false from by decide]
  go_wp2_with fail
  refine (digit_any 34 _).mono ?_
  rintro e w1 ⟨rfl, rfl⟩
  rw [show Lx.isDig 34 = false from by decide]
  go_wp2_with fail
  refine (text_any _ hs hp ((HS.out.alloc _).drewN _)).mono ?_
  rintro e w2 ⟨hK, hP⟩
  have HK := Lib.hid ((((Kf.refl (Sp b) w).alloc (.cells tok0 31)).drewN _).trans hK)
  have HR := Lib.hid (hK.block w.heap.size (.cells tok0 31 (0, 0)) (heap_alloc_new w _) (fun e => e.2 (by simp [Calm])))
  cases hE : Lx.text s.data.toList p opn with
  | error a =>
    rw [hE] at hP
    have he : e = wrongAt a := hP
    clear hP hK hE
    subst he
    unfold wrongAt
    go_wp2
    exact ⟨rfl, HK.out, rfl⟩
  | ok r2 =>
    obtain ⟨tk, q, opn'⟩ := r2
    rw [hE] at hP
    obtain ⟨ov', he, hS3⟩ := hP
    have HS3 := Lib.hid hS3
    have HE := Lib.hid hE
    clear hS3 hK hE
    subst he
    unfold tokV
    go_wp2_with (refine wpList_store_row rfl 31 (.tmp 2) (.tmp 113) rfl w.heap.size #[.int .i64 tk.kind, .string ⟨tk.text.toArray⟩, .string ⟨tk.str.toArray⟩, .float .f64 tk.num, .int .i64 (0 : Nat), .int .i64 (0 : Nat), .bool false] rfl rfl 31 tok0 HR.out size31 rfl (tok_one _ _ _ _ _ _ _) ?_)
    go_wp2
    refine bodyPost_ret (v := tokV tk 0 0 false) (results_row rfl rfl (setRow_heap _ _ _ _ _ _ HR.out) rfl) rfl ?_
    exact ⟨HK.out.setRowNew (Nat.le_refl _) _, by rw [HE.out]; exact ⟨_, rfl, HS3.out.setRow HR.out _⟩⟩
set_option maxHeartbeats 2000000 in
set_option maxRecDepth 100000 in
theorem token_text39 (w : World) (hs : s.size ≤ 262144) (hp : p < s.size) (h : Scn b s lv p ln ov opn w) (hc : Lx.pk s.data.toList p = 39) :
    Calls Tryz.prog 57 #[.pointer (some ⟨b, 0, none⟩)] w (TokPost b s lv ln w (Lx.text s.data.toList p opn)) := by
  have hlen : s.data.toList.length = s.size := by simp
  have h0 := h.c0
  have h1 := h.c1
  have f1 := h.fz 1
  have hbl := h.lt
  have HS := Lib.hid h
  clear h
  have hlt : (p : Int) < (s.size : Int) := by omega
  have hd : decide ((s.size : Int) ≤ (p : Int)) = false := by simp; omega
  have hdn : decide (s.size ≤ p) = false := by simp; omega
  have HC := Lib.hid hc
  clear hc
  go_enter Tryz.func57, Tryz.ntmps57
  go_wp2_with fail
  refine (peek0 _ (by omega) (by omega) (HS.out.alloc _)).mono ?_
  rintro e w1 ⟨rfl, n1, rfl⟩
  rw [HC.out]
  go_wp2
  go_quiet (fail)
  go_wp2_with fail
  refine (letter_any 39 _).mono ?_
  rintro e w1 ⟨rfl, rfl⟩
  rw [show Lx.isLet 39 = false from by decide]
  go_wp2_with fail
  refine (digit_any 39 _).mono ?_
  rintro e w1 ⟨rfl, rfl⟩
  rw [show Lx.isDig 39 = false from by decide]
  go_wp2_with fail
  refine (text_any _ hs hp ((HS.out.alloc _).drewN _)).mono ?_
  rintro e w2 ⟨hK, hP⟩
  have HK := Lib.hid ((((Kf.refl (Sp b) w).alloc (.cells tok0 31)).drewN _).trans hK)
  have HR := Lib.hid (hK.block w.heap.size (.cells tok0 31 (0, 0)) (heap_alloc_new w _) (fun e => e.2 (by simp [Calm])))
  cases hE : Lx.text s.data.toList p opn with
  | error a =>
    rw [hE] at hP
    have he : e = wrongAt a := hP
    clear hP hK hE
    subst he
    unfold wrongAt
    go_wp2
    exact ⟨rfl, HK.out, rfl⟩
  | ok r2 =>
    obtain ⟨tk, q, opn'⟩ := r2
    rw [hE] at hP
    obtain ⟨ov', he, hS3⟩ := hP
    have HS3 := Lib.hid hS3
    have HE := Lib.hid hE
    clear hS3 hK hE
    subst he
    unfold tokV
    go_wp2_with (refine wpList_store_row rfl 31 (.tmp 2) (.tmp 113) rfl w.heap.size #[.int .i64 tk.kind, .string ⟨tk.text.toArray⟩, .string ⟨tk.str.toArray⟩, .float .f64 tk.num, .int .i64 (0 : Nat), .int .i64 (0 : Nat), .bool false] rfl rfl 31 tok0 HR.out size31 rfl (tok_one _ _ _ _ _ _ _) ?_)
    go_wp2
    refine bodyPost_ret (v := tokV tk 0 0 false) (results_row rfl rfl (setRow_heap _ _ _ _ _ _ HR.out) rfl) rfl ?_
    exact ⟨HK.out.setRowNew (Nat.le_refl _) _, by rw [HE.out]; exact ⟨_, rfl, HS3.out.setRow HR.out _⟩⟩
set_option maxHeartbeats 2000000 in
set_option maxRecDepth 100000 in
theorem token_tmpl (w : World) (hs : s.size ≤ 262144) (hp : p < s.size) (ho : opn.length ≤ 262144) (h : Scn b s lv p ln ov opn w) (hc : Lx.pk s.data.toList p = 96) :
    Calls Tryz.prog 57 #[.pointer (some ⟨b, 0, none⟩)] w (TokPost b s lv ln w (Lx.piece s.data.toList 6 7 p opn)) := by
  have hlen : s.data.toList.length = s.size := by simp
  have h0 := h.c0
  have h1 := h.c1
  have f1 := h.fz 1
  have hbl := h.lt
  have HS := Lib.hid h
  clear h
  have hlt : (p : Int) < (s.size : Int) := by omega
  have hd : decide ((s.size : Int) ≤ (p : Int)) = false := by simp; omega
  have hdn : decide (s.size ≤ p) = false := by simp; omega
  have HC := Lib.hid hc
  clear hc
  go_enter Tryz.func57, Tryz.ntmps57
  go_wp2_with fail
  refine (peek0 _ (by omega) (by omega) (HS.out.alloc _)).mono ?_
  rintro e w1 ⟨rfl, n1, rfl⟩
  rw [HC.out]
  go_wp2
  go_quiet (fail)
  go_wp2_with fail
  refine (letter_any 96 _).mono ?_
  rintro e w1 ⟨rfl, rfl⟩
  rw [show Lx.isLet 96 = false from by decide]
  go_wp2_with fail
  refine (digit_any 96 _).mono ?_
  rintro e w1 ⟨rfl, rfl⟩
  rw [show Lx.isDig 96 = false from by decide]
  go_wp2_with fail
  refine (piece_any 6 7 _ hs hp ho (by decide) (by decide) ((HS.out.alloc _).drewN _)).mono ?_
  rintro e w2 ⟨hK, hP⟩
  have HK := Lib.hid ((((Kf.refl (Sp b) w).alloc (.cells tok0 31)).drewN _).trans hK)
  have HR := Lib.hid (hK.block w.heap.size (.cells tok0 31 (0, 0)) (heap_alloc_new w _) (fun e => e.2 (by simp [Calm])))
  cases hE : Lx.piece s.data.toList 6 7 p opn with
  | error a =>
    rw [hE] at hP
    have he : e = wrongAt a := hP
    clear hP hK hE
    subst he
    unfold wrongAt
    go_wp2
    exact ⟨rfl, HK.out, rfl⟩
  | ok r2 =>
    obtain ⟨tk, q, opn'⟩ := r2
    rw [hE] at hP
    obtain ⟨ov', he, hS3⟩ := hP
    have HS3 := Lib.hid hS3
    have HE := Lib.hid hE
    clear hS3 hK hE
    subst he
    unfold tokV
    go_wp2_with (refine wpList_store_row rfl 31 (.tmp 2) (.tmp 118) rfl w.heap.size #[.int .i64 tk.kind, .string ⟨tk.text.toArray⟩, .string ⟨tk.str.toArray⟩, .float .f64 tk.num, .int .i64 (0 : Nat), .int .i64 (0 : Nat), .bool false] rfl rfl 31 tok0 HR.out size31 rfl (tok_one _ _ _ _ _ _ _) ?_)
    go_wp2
    refine bodyPost_ret (v := tokV tk 0 0 false) (results_row rfl rfl (setRow_heap _ _ _ _ _ _ HR.out) rfl) rfl ?_
    exact ⟨HK.out.setRowNew (Nat.le_refl _) _, by rw [HE.out]; exact ⟨_, rfl, HS3.out.setRow HR.out _⟩⟩
set_option maxHeartbeats 2000000 in
set_option maxRecDepth 100000 in
theorem token_point (w : World) (hs : s.size ≤ 262144) (hp : p < s.size) (ho : OpnOk opn p) (h : Scn b s lv p ln ov opn w) (hL : Lst b g lv w) (hc : Lx.pk s.data.toList p = 46) (hn : Lx.isDig (Lx.pk s.data.toList (p + 1)) = false) :
    Calls Tryz.prog 57 #[.pointer (some ⟨b, 0, none⟩)] w (TokPost b s lv ln w (Lx.sign s.data.toList p opn)) := by
  have HLA := Lib.hid (hL.kf (Kf.of_below (fun _ _ => False) ((Below.refl w.heap.size w).alloc (Nat.le_refl _) (.cells tok0 31))) (fun _ => id))
  clear hL
  have hlen : s.data.toList.length = s.size := by simp
  have h0 := h.c0
  have h1 := h.c1
  have f1 := h.fz 1
  have hbl := h.lt
  have HS := Lib.hid h
  clear h
  have hlt : (p : Int) < (s.size : Int) := by omega
  have hd : decide ((s.size : Int) ≤ (p : Int)) = false := by simp; omega
  have hdn : decide (s.size ≤ p) = false := by simp; omega
  have HN := Lib.hid hn
  have HC := Lib.hid hc
  clear hc hn
  go_enter Tryz.func57, Tryz.ntmps57
  go_wp2_with fail
  refine (peek0 _ (by omega) (by omega) (HS.out.alloc _)).mono ?_
  rintro e w1 ⟨rfl, n1, rfl⟩
  rw [HC.out]
  go_wp2
  go_quiet (fail)
  go_wp2_with fail
  refine (letter_any 46 _).mono ?_
  rintro e w1 ⟨rfl, rfl⟩
  rw [show Lx.isLet 46 = false from by decide]
  go_wp2_with fail
  refine (digit_any 46 _).mono ?_
  rintro e w1 ⟨rfl, rfl⟩
  rw [show Lx.isDig 46 = false from by decide]
  go_wp2_with fail
  refine (peek1 _ (by omega) (by omega) ((HS.out.alloc _).drewN _)).mono ?_
  rintro e w1 ⟨rfl, n2, rfl⟩
  go_wp2_with fail
  refine (digit_any _ _).mono ?_
  rintro e w1 ⟨rfl, rfl⟩
  rw [HN.out]
  go_wp2_with fail
  refine (sign_any _ hs hp ho ((HS.out.alloc _).drewN _) (HLA.out.kf (S := fun _ _ => False) ((Kf.refl _ _).drewN _) (fun _ => id))).mono ?_
  rintro e w2 ⟨hK, hP⟩
  have HK := Lib.hid ((((Kf.refl (Sp b) w).alloc (.cells tok0 31)).drewN _).trans hK)
  have HR := Lib.hid (hK.block w.heap.size (.cells tok0 31 (0, 0)) (heap_alloc_new w _) (fun e => e.2 (by simp [Calm])))
  cases hE : Lx.sign s.data.toList p opn with
  | error a =>
    rw [hE] at hP
    have he : e = wrongAt a := hP
    clear hP hK hE
    subst he
    unfold wrongAt
    go_wp2
    exact ⟨rfl, HK.out, rfl⟩
  | ok r2 =>
    obtain ⟨tk, q, opn'⟩ := r2
    rw [hE] at hP
    obtain ⟨ov', he, hS3⟩ := hP
    have HS3 := Lib.hid hS3
    have HE := Lib.hid hE
    clear hS3 hK hE
    subst he
    unfold tokV
    go_wp2_with (refine wpList_store_row rfl 31 (.tmp 2) (.tmp 120) rfl w.heap.size #[.int .i64 tk.kind, .string ⟨tk.text.toArray⟩, .string ⟨tk.str.toArray⟩, .float .f64 tk.num, .int .i64 (0 : Nat), .int .i64 (0 : Nat), .bool false] rfl rfl 31 tok0 HR.out size31 rfl (tok_one _ _ _ _ _ _ _) ?_)
    go_wp2
    refine bodyPost_ret (v := tokV tk 0 0 false) (results_row rfl rfl (setRow_heap _ _ _ _ _ _ HR.out) rfl) rfl ?_
    exact ⟨HK.out.setRowNew (Nat.le_refl _) _, by rw [HE.out]; exact ⟨_, rfl, HS3.out.setRow HR.out _⟩⟩
set_option maxHeartbeats 2000000 in
set_option maxRecDepth 100000 in
theorem token_sign (w : World) (hs : s.size ≤ 262144) (hp : p < s.size) (ho : OpnOk opn p) (h : Scn b s lv p ln ov opn w) (hL : Lst b g lv w) (hl : Lx.isLet (Lx.pk s.data.toList p) = false) (hg : Lx.isDig (Lx.pk s.data.toList p) = false) (x1 : Lx.pk s.data.toList p ≠ 46) (x2 : Lx.pk s.data.toList p ≠ 34) (x3 : Lx.pk s.data.toList p ≠ 39) (x4 : Lx.pk s.data.toList p ≠ 96) :
    Calls Tryz.prog 57 #[.pointer (some ⟨b, 0, none⟩)] w (TokPost b s lv ln w (Lx.sign s.data.toList p opn)) := by
  have HLA := Lib.hid (hL.kf (Kf.of_below (fun _ _ => False) ((Below.refl w.heap.size w).alloc (Nat.le_refl _) (.cells tok0 31))) (fun _ => id))
  clear hL
  have hlen : s.data.toList.length = s.size := by simp
  have h0 := h.c0
  have h1 := h.c1
  have f1 := h.fz 1
  have hbl := h.lt
  have HS := Lib.hid h
  clear h
  have hlt : (p : Int) < (s.size : Int) := by omega
  have hd : decide ((s.size : Int) ≤ (p : Int)) = false := by simp; omega
  have hdn : decide (s.size ≤ p) = false := by simp; omega
  obtain ⟨c, hc⟩ : ∃ c, Lx.pk s.data.toList p = c := ⟨_, rfl⟩
  rw [hc] at hl hg x1 x2 x3 x4
  have HC := Lib.hid hc
  have HL := Lib.hid hl
  have HD := Lib.hid hg
  have y1 : ((c.toNat : Int) == 46) = false := toNat_ne x1
  have y2 : ((c.toNat : Int) == 34) = false := toNat_ne x2
  have y3 : ((c.toNat : Int) == 39) = false := toNat_ne x3
  have y4 : ((c.toNat : Int) == 96) = false := toNat_ne x4
  clear hc hl hg x1 x2 x3 x4
  go_enter Tryz.func57, Tryz.ntmps57
  go_wp2_with fail
  refine (peek0 _ (by omega) (by omega) (HS.out.alloc _)).mono ?_
  rintro e w1 ⟨rfl, n1, rfl⟩
  rw [HC.out]
  go_wp2
  go_quiet (fail)
  go_wp2_with fail
  refine (letter_any _ _).mono ?_
  rintro e w1 ⟨rfl, rfl⟩
  rw [HL.out]
  go_wp2_with fail
  refine (digit_any _ _).mono ?_
  rintro e w1 ⟨rfl, rfl⟩
  rw [HD.out]
  go_wp2_with fail
  refine (sign_any _ hs hp ho ((HS.out.alloc _).drewN _) (HLA.out.kf (S := fun _ _ => False) ((Kf.refl _ _).drewN _) (fun _ => id))).mono ?_
  rintro e w2 ⟨hK, hP⟩
  have HK := Lib.hid ((((Kf.refl (Sp b) w).alloc (.cells tok0 31)).drewN _).trans hK)
  have HR := Lib.hid (hK.block w.heap.size (.cells tok0 31 (0, 0)) (heap_alloc_new w _) (fun e => e.2 (by simp [Calm])))
  cases hE : Lx.sign s.data.toList p opn with
  | error a =>
    rw [hE] at hP
    have he : e = wrongAt a := hP
    clear hP hK hE
    subst he
    unfold wrongAt
    go_wp2
    exact ⟨rfl, HK.out, rfl⟩
  | ok r2 =>
    obtain ⟨tk, q, opn'⟩ := r2
    rw [hE] at hP
    obtain ⟨ov', he, hS3⟩ := hP
    have HS3 := Lib.hid hS3
    have HE := Lib.hid hE
    clear hS3 hK hE
    subst he
    unfold tokV
    go_wp2_with (refine wpList_store_row rfl 31 (.tmp 2) (.tmp 120) rfl w.heap.size #[.int .i64 tk.kind, .string ⟨tk.text.toArray⟩, .string ⟨tk.str.toArray⟩, .float .f64 tk.num, .int .i64 (0 : Nat), .int .i64 (0 : Nat), .bool false] rfl rfl 31 tok0 HR.out size31 rfl (tok_one _ _ _ _ _ _ _) ?_)
    go_wp2
    refine bodyPost_ret (v := tokV tk 0 0 false) (results_row rfl rfl (setRow_heap _ _ _ _ _ _ HR.out) rfl) rfl ?_
    exact ⟨HK.out.setRowNew (Nat.le_refl _) _, by rw [HE.out]; exact ⟨_, rfl, HS3.out.setRow HR.out _⟩⟩
end
end Go.Proofs.YtcgibcjpkhefpaaGreatDoor

/-
  The walk of the scanner's token: names and words.
  The walk of the scanner's token: the end, numbers, texts, templates, signs.
-/
import Derived.Test.YtcgibcjpkhefpaaGreatDoorZF
import Derived.Test.YtcgibcjpkhefpaaGreatDoorZH
import Derived.StillTailTactics
namespace Go.Proofs.YtcgibcjpkhefpaaGreatDoor
open Go.RowKit
section
variable {b g : Nat} {s : ByteArray} {lv ov : Value} {p : Nat} {ln : Bool} {opn : List Int} {l : List UInt8}
theorem nameEnd_le (l : List UInt8) : ∀ f p, p ≤ l.length → p ≤ Lx.nameEnd l f p ∧ Lx.nameEnd l f p ≤ l.length
  | 0, p, h => ⟨Nat.le_refl _, h⟩
  | f + 1, p, h => by
    unfold Lx.nameEnd
    split
    · rename_i hc
      have hlt : p < l.length := by
        refine Lx.pk_lt (fun e => ?_)
        rw [e] at hc
        exact absurd hc (by decide)
      have := nameEnd_le l f (p + 1) (by omega)
      omega
    · exact ⟨Nat.le_refl _, h⟩
theorem Kf.cell {S : Nat → Obj → Prop} {w w' : World} (h : Kf S w w') {a : Addr} {v : Value} (hc : w.cell? a = some v) (hS : ∀ o, ¬ S a.block o) : w'.cell? a = some v := by
  unfold World.cell? at hc ⊢
  cases ho : w.heap[a.block]? with
  | none => rw [ho] at hc; cases hc
  | some o => rw [h.block _ _ ho (hS _)]; rw [ho] at hc; exact hc
theorem struct31 : ∃ fs, Tryz.prog.underlying 31 = some (.struct fs) := by
  have := under31
  cases h : Tryz.prog.underlying 31 with
  | none => rw [h] at this; cases this
  | some d => rw [h] at this; cases d <;> first | exact ⟨_, rfl⟩ | cases this
theorem strSub (s : ByteArray) (p q : Nat) : s.extract p q = ⟨((s.data.toList.drop p).take (q - p)).toArray⟩ := by
  apply ByteArray.ext
  apply Array.toList_inj.1
  rw [ByteArray.data_extract]
  simp only [Array.toList_extract, List.extract_eq_take_drop]
/-- A token's block k is under way, beside the result's block r. -/
structure TW (b : Nat) (s : ByteArray) (lv : Value) (p : Nat) (ln : Bool) (ov : Value) (opn : List Int) (w0 : World) (r k : Nat) (c : Array Value) (w : World) : Prop where
  scn : Scn b s lv p ln ov opn w
  kf : Kf (Sp b) w0 w
  res : w.heap[r]? = some (.cells tok0 31 (0, 0))
  blk : w.heap[k]? = some (.cells c 31 (0, 0))
  new : w0.heap.size ≤ k
  ne : r ≠ k
theorem TW.set {w0 w : World} {r k : Nat} {c : Array Value} (h : TW b s lv p ln ov opn w0 r k c w) (i : Nat) (u : Value) : TW b s lv p ln ov opn w0 r k (c.setIfInBounds i u) (w.setCell ⟨k, i, none⟩ u) :=
  ⟨h.scn.kf (S := fun j o => j = k ∧ w.heap[k]? = some o) (Kf.set (a := ⟨k, i, none⟩) (Kf.refl _ _) (fun _ ho => ⟨rfl, ho⟩) u) (fun _ e => by have e := e.2; rw [h.blk] at e; injection e with e; injection e with _ e _; exact absurd e (by decide)) (fun _ _ _ e => by have e := e.2; rw [h.blk] at e; injection e with e; injection e with _ e _; exact absurd e (by decide)),
   ⟨h.kf.os, h.kf.tape, h.kf.output, by simpa [World.setCell] using h.kf.size, fun j o hj hn => by
     rw [Below.heap_setCell _ _ _ _ (by have := lt_of_heap hj; have := h.new; simp only; omega)]; exact h.kf.block j o hj hn⟩,
   by rw [Below.heap_setCell _ _ _ _ (by have := h.ne; simp only; omega)]; exact h.res,
   heap_setSelf h.blk i u, h.new, h.ne⟩
theorem storeFloat (w : World) (a : Addr) (k : FloatKind) (x : Nat) (m : Mode) : (store a (.float k x) m).run Tryz.prog w = stored Tryz.prog w a (.float k x) m := run_store Tryz.prog w a _ m rfl
theorem newCell (w : World) (n : Nat) (c : Array Value) (j : Nat) : ((w.drewN n).alloc (.cells c 31)).cell? ⟨w.heap.size, j, none⟩ = c[j]? := cellN (heap_alloc_new (w.drewN n) _) j
theorem newFrozen (w : World) (n : Nat) (c : Array Value) (j : Nat) : ((w.drewN n).alloc (.cells c 31)).frozen? ⟨w.heap.size, j, none⟩ = false := by
  have h : ((w.drewN n).alloc (.cells c 31)).heap[w.heap.size]? = _ := heap_alloc_new (w.drewN n) (.cells c 31)
  simp only [World.frozen?, h]
  simp
/-- A name or a word. -/
def nameTok (l : List UInt8) (p : Nat) (opn : List Int) : Lx.TR :=
  .ok (⟨if Lx.isWord ((l.drop p).take (Lx.nameEnd l (l.length - p) p - p)) then 2 else 1, (l.drop p).take (Lx.nameEnd l (l.length - p) p - p), [], 0⟩, Lx.nameEnd l (l.length - p) p, opn)
set_option maxHeartbeats 2000000 in
set_option maxRecDepth 100000 in
theorem token_name (w : World) (m : Int) (hm : w.cell? ⟨1, 0, none⟩ = some (.int .i64 m)) (h1b : 1 < b) (hs : s.size ≤ 262144) (hp : p < s.size) (h : Scn b s lv p ln ov opn w) (hc : Lx.isLet (Lx.pk s.data.toList p) = true) :
    Calls Tryz.prog 57 #[.pointer (some ⟨b, 0, none⟩)] w (TokPost b s lv ln w (nameTok s.data.toList p opn)) := by
  have hlen : s.data.toList.length = s.size := by simp
  have h0 := h.c0
  have h1 := h.c1
  have f1 := h.fz 1
  have hlt : (p : Int) < (s.size : Int) := by omega
  have hd : decide ((s.size : Int) ≤ (p : Int)) = false := by simp; omega
  have hdn : decide (s.size ≤ p) = false := by simp; omega
  have hbl := h.lt
  have HS := Lib.hid h
  have HM := Lib.hid hm
  have HC := Lib.hid hc
  have hne := nameEnd_le s.data.toList (s.data.toList.length - p) p (by omega)
  clear h hm hc
  obtain ⟨E, hE⟩ : ∃ E, Lx.nameEnd s.data.toList (s.data.toList.length - p) p = E := ⟨_, rfl⟩
  rw [hE] at hne
  have HE := Lib.hid hE
  clear hE
  go_enter Tryz.func57, Tryz.ntmps57
  go_wp2_with fail
  refine (peek0 _ (by omega) (by omega) (HS.out.alloc _)).mono ?_
  rintro e w1 ⟨rfl, n1, rfl⟩
  go_wp2
  go_quiet (fail)
  go_wp2_with fail
  refine (letter_any _ _).mono ?_
  rintro e w1 ⟨rfl, rfl⟩
  rw [HC.out]
  go_wp2_with fail
  go_loopw [] (fun wr => ∃ (f q : Nat), s.size ≤ f + q ∧ p ≤ q ∧ q ≤ s.size ∧ Scn b s lv q ln ov opn wr ∧ Kf (So b) w wr ∧ wr.heap[w.heap.size]? = some (.cells tok0 31 (0, 0)) ∧ Lx.nameEnd s.data.toList f q = E) (fun wr => s.size - posOf b wr)
  case atStart =>
    exact ⟨_, p, by omega, Nat.le_refl _, by omega, (HS.out.alloc _).drewN _, ((Kf.refl _ _).alloc _).drewN _, heap_alloc_new _ _, HE.out⟩
  case round =>
    obtain ⟨f, q, hf, hpq, hqs, hS, hK, hR, hG⟩ := hrel
    have hpos := posOf_scn hS
    have h0 := hS.c0
    have h1 := hS.c1
    have f1 := hS.fz 1
    have hsz := lt_of_heap hR
    have HP1 := Lib.hid hpos
    have HS1 := Lib.hid hS
    have HK1 := Lib.hid hK
    have HR1 := Lib.hid hR
    have HG1 := Lib.hid hG
    clear hpos hS hK hR hG
    obtain ⟨c, hc⟩ : ∃ c, Lx.pk s.data.toList q = c := ⟨_, rfl⟩
    have HQ := Lib.hid hc
    clear hc
    by_cases hl : (Lx.isLet c || Lx.isDig c) = true
    · have hql : q < s.data.toList.length := by
        refine Lx.pk_lt (fun e => ?_)
        rw [HQ.out] at e
        rw [e] at hl
        exact absurd hl (by decide)
      rw [hlen] at hql
      obtain ⟨f, rfl⟩ : ∃ f', f = f' + 1 := by
        refine ⟨f - 1, ?_⟩
        rcases Nat.eq_zero_or_pos f with e | e
        · omega
        · omega
      have NXT := Lib.hid (show Lx.nameEnd s.data.toList (f + 1) q = Lx.nameEnd s.data.toList f (q + 1) by
        rw [Lx.nameEnd, HQ.out, if_pos hl])
      cases hlt : Lx.isLet c with
      | true =>
        have HL := Lib.hid hlt
        clear hl hlt
        go_wp2_with fail
        refine (peek0 _ (by omega) hqs HS1.out).mono ?_
        rintro e w1 ⟨rfl, n2, rfl⟩
        rw [HQ.out]
        go_wp2_with fail
        refine (letter_any _ _).mono ?_
        rintro e w1 ⟨rfl, rfl⟩
        rw [HL.out]
        go_wp2
        go_roundw
        case rel => exact ⟨f, q + 1, by omega, by omega, by omega, (HS1.out.drewN _).setTo (by omega), (HK1.out.drewN _).setB 1 _, by rw [Below.heap_setCell _ _ _ _ (by simp only; omega)]; exact HR1.out, by rw [← HG1.out]; exact NXT.out.symm⟩
        case measure => rw [posOf_scn (p := q + 1) ((HS1.out.drewN _).setTo (by omega)), HP1.out]; omega
      | false =>
        have hdg : Lx.isDig c = true := by simpa [hlt] using hl
        have HL := Lib.hid hlt
        have HD := Lib.hid hdg
        clear hl hlt hdg
        go_wp2_with fail
        refine (peek0 _ (by omega) hqs HS1.out).mono ?_
        rintro e w1 ⟨rfl, n2, rfl⟩
        rw [HQ.out]
        go_wp2_with fail
        refine (letter_any _ _).mono ?_
        rintro e w1 ⟨rfl, rfl⟩
        rw [HL.out]
        go_wp2_with fail
        refine (peek0 _ (by omega) hqs (HS1.out.drewN _)).mono ?_
        rintro e w1 ⟨rfl, n3, rfl⟩
        rw [HQ.out]
        go_wp2_with fail
        refine (digit_any _ _).mono ?_
        rintro e w1 ⟨rfl, rfl⟩
        rw [HD.out]
        go_wp2
        go_roundw
        case rel => exact ⟨f, q + 1, by omega, by omega, by omega, (HS1.out.drewN _).setTo (by omega), (HK1.out.drewN _).setB 1 _, by rw [Below.heap_setCell _ _ _ _ (by simp only; omega)]; exact HR1.out, by rw [← HG1.out]; exact NXT.out.symm⟩
        case measure => rw [posOf_scn (p := q + 1) ((HS1.out.drewN _).setTo (by omega)), HP1.out]; omega
    · have hll : Lx.isLet c = false ∧ Lx.isDig c = false := by simpa using hl
      have FIN : E = q := by
        rw [← HG1.out]
        cases f with
        | zero => rfl
        | succ f => rw [Lx.nameEnd, HQ.out, if_neg hl]
      subst FIN
      have HL := Lib.hid hll.1
      have HD := Lib.hid hll.2
      clear hl hll
      go_wp2_with fail
      refine (peek0 _ (by omega) hqs HS1.out).mono ?_
      rintro e w1 ⟨rfl, n2, rfl⟩
      rw [HQ.out]
      go_wp2_with fail
      refine (letter_any _ _).mono ?_
      rintro e w1 ⟨rfl, rfl⟩
      rw [HL.out]
      go_wp2_with fail
      refine (peek0 _ (by omega) hqs (HS1.out.drewN _)).mono ?_
      rintro e w1 ⟨rfl, n3, rfl⟩
      rw [HQ.out]
      go_wp2_with fail
      refine (digit_any _ _).mono ?_
      rintro e w1 ⟨rfl, rfl⟩
      rw [HD.out]
      have hbw := HS1.out.lt
      have hql : (E : Int) ≤ (s.size : Int) := by omega
      have hpl : (p : Int) ≤ (E : Int) := by omega
      have a0 : ∀ n o, ((wr.drewN n).alloc o).cell? ⟨b, 0, none⟩ = some (.string s) := fun n o => ((HS1.out.drewN n).alloc o).c0
      have a1 : ∀ n o, ((wr.drewN n).alloc o).cell? ⟨b, 1, none⟩ = some (.int .i64 E) := fun n o => ((HS1.out.drewN n).alloc o).c1
      have e0 : ∀ n (x0 x1 x2 x3 x4 x5 x6 : Value), ((wr.drewN n).alloc (.cells #[x0, x1, x2, x3, x4, x5, x6] 31)).cell? ⟨wr.heap.size, 0, none⟩ = some x0 := fun n x0 x1 x2 x3 x4 x5 x6 => newCell wr n #[x0, x1, x2, x3, x4, x5, x6] 0
      have e1 : ∀ n (x0 x1 x2 x3 x4 x5 x6 : Value), ((wr.drewN n).alloc (.cells #[x0, x1, x2, x3, x4, x5, x6] 31)).cell? ⟨wr.heap.size, 1, none⟩ = some x1 := fun n x0 x1 x2 x3 x4 x5 x6 => newCell wr n #[x0, x1, x2, x3, x4, x5, x6] 1
      have e2 : ∀ n (x0 x1 x2 x3 x4 x5 x6 : Value), ((wr.drewN n).alloc (.cells #[x0, x1, x2, x3, x4, x5, x6] 31)).cell? ⟨wr.heap.size, 2, none⟩ = some x2 := fun n x0 x1 x2 x3 x4 x5 x6 => newCell wr n #[x0, x1, x2, x3, x4, x5, x6] 2
      have e3 : ∀ n (x0 x1 x2 x3 x4 x5 x6 : Value), ((wr.drewN n).alloc (.cells #[x0, x1, x2, x3, x4, x5, x6] 31)).cell? ⟨wr.heap.size, 3, none⟩ = some x3 := fun n x0 x1 x2 x3 x4 x5 x6 => newCell wr n #[x0, x1, x2, x3, x4, x5, x6] 3
      have e4 : ∀ n (x0 x1 x2 x3 x4 x5 x6 : Value), ((wr.drewN n).alloc (.cells #[x0, x1, x2, x3, x4, x5, x6] 31)).cell? ⟨wr.heap.size, 4, none⟩ = some x4 := fun n x0 x1 x2 x3 x4 x5 x6 => newCell wr n #[x0, x1, x2, x3, x4, x5, x6] 4
      have e5 : ∀ n (x0 x1 x2 x3 x4 x5 x6 : Value), ((wr.drewN n).alloc (.cells #[x0, x1, x2, x3, x4, x5, x6] 31)).cell? ⟨wr.heap.size, 5, none⟩ = some x5 := fun n x0 x1 x2 x3 x4 x5 x6 => newCell wr n #[x0, x1, x2, x3, x4, x5, x6] 5
      have e6 : ∀ n (x0 x1 x2 x3 x4 x5 x6 : Value), ((wr.drewN n).alloc (.cells #[x0, x1, x2, x3, x4, x5, x6] 31)).cell? ⟨wr.heap.size, 6, none⟩ = some x6 := fun n x0 x1 x2 x3 x4 x5 x6 => newCell wr n #[x0, x1, x2, x3, x4, x5, x6] 6
      have ef : ∀ n c i, ((wr.drewN n).alloc (.cells c 31)).frozen? ⟨wr.heap.size, i, none⟩ = false := fun n c i => newFrozen wr n c i
      have sF := fun (w : World) (a : Addr) (k : FloatKind) (x : Nat) (m : Mode) => storeFloat w a k x m
      go_wp2
      go_region
      clear e0 e1 e2 e3 e4 e5 e6 ef sF a0 a1
      have T0 : TW b s lv E ln ov opn w w.heap.size wr.heap.size tok0 ((wr.drewN (n2 + n3 + 1)).alloc (.cells tok0 31)) :=
        ⟨(HS1.out.drewN _).alloc _, (HS.out.so_sp HK1.out |>.drewN _).alloc _, by rw [Below.heap_alloc _ _ _ (by simpa using hsz)]; exact HR1.out, heap_alloc_new (wr.drewN (n2 + n3 + 1)) _, HK1.out.size, by omega⟩
      generalize hwz : World.setCell _ _ _ = wz
      have T1 : TW b s lv E ln ov opn w w.heap.size wr.heap.size #[.int .i64 1, .string (s.extract p E), .string ⟨#[]⟩, .float .f64 0, .int .i64 0, .int .i64 0, .bool false] wz := by
        rw [← hwz]
        exact ((((((((T0.set 0 (.int .i64 1)).set 1 (.string (s.extract p E))).set 2 (.string ⟨#[]⟩)).set 3 (.float .f64 0)).set 4 (.int .i64 0)).set 5 (.int .i64 0)).set 6 (.bool false)))
      clear T0 hwz
      have m1 : wz.cell? ⟨1, 0, none⟩ = some (.int .i64 m) := T1.kf.cell HM.out (fun _ e => by have := e.1; simp only at this; omega)
      have t0 : wz.cell? ⟨wr.heap.size, 0, none⟩ = some (.int .i64 1) := by rw [cellN T1.blk 0]; rfl
      have t1 : wz.cell? ⟨wr.heap.size, 1, none⟩ = some (.string (s.extract p E)) := by rw [cellN T1.blk 1]; rfl
      have t2 : wz.cell? ⟨wr.heap.size, 2, none⟩ = some (.string ⟨#[]⟩) := by rw [cellN T1.blk 2]; rfl
      have t3 : wz.cell? ⟨wr.heap.size, 3, none⟩ = some (.float .f64 0) := by rw [cellN T1.blk 3]; rfl
      have t4 : wz.cell? ⟨wr.heap.size, 4, none⟩ = some (.int .i64 0) := by rw [cellN T1.blk 4]; rfl
      have t5 : wz.cell? ⟨wr.heap.size, 5, none⟩ = some (.int .i64 0) := by rw [cellN T1.blk 5]; rfl
      have t6 : wz.cell? ⟨wr.heap.size, 6, none⟩ = some (.bool false) := by rw [cellN T1.blk 6]; rfl
      have tf : wz.frozen? ⟨wr.heap.size, 0, none⟩ = false := by simp [World.frozen?, T1.blk]
      have TT := Lib.hid T1
      clear T1
      obtain ⟨kd, hkd⟩ : ∃ kd, Lx.isWord (s.extract p E).data.toList = kd := ⟨_, rfl⟩
      have HKD := Lib.hid hkd
      clear hkd
      obtain ⟨fs, hfs⟩ := struct31
      have HFS := Lib.hid hfs
      clear hfs
      have FIN := Lib.hid (show nameTok s.data.toList p opn = .ok (⟨if kd then 2 else 1, (s.data.toList.drop p).take (E - p), [], 0⟩, E, opn) by
        unfold nameTok
        rw [HE.out, ← HKD.out, strSub])
      go_wp2_with fail
      refine (word_any _ m _ (by simp; omega) m1).mono ?_
      rintro e w1 ⟨rfl, rfl⟩
      rw [HKD.out]
      cases kd with
      | false =>
        go_wp2_with (refine wpList_store_row rfl 31 (.tmp 2) (.tmp 60) rfl w.heap.size #[.int .i64 1, .string (s.extract p E), .string ⟨#[]⟩, .float .f64 0, .int .i64 0, .int .i64 0, .bool false] rfl rfl 31 tok0 TT.out.res size31 rfl (tok_one _ _ _ _ _ _ _) ?_)
        go_wp2
        refine bodyPost_ret (v := .agg #[.int .i64 1, .string (s.extract p E), .string ⟨#[]⟩, .float .f64 0, .int .i64 0, .int .i64 0, .bool false]) (results_row rfl rfl (setRow_heap _ _ _ _ _ _ TT.out.res) rfl) rfl ?_
        exact ⟨TT.out.kf.setRowNew (Nat.le_refl _) _, by rw [FIN.out]; exact ⟨ov, by rw [strSub]; rfl, TT.out.scn.setRow TT.out.res _⟩⟩
      | true =>
        have T2 := Lib.hid (TT.out.set 0 (.int .i64 2))
        go_wp2_with (refine wpList_store_row rfl 31 (.tmp 2) (.tmp 60) rfl w.heap.size #[.int .i64 2, .string (s.extract p E), .string ⟨#[]⟩, .float .f64 0, .int .i64 0, .int .i64 0, .bool false] rfl rfl 31 tok0 T2.out.res size31 rfl (tok_one _ _ _ _ _ _ _) ?_)
        go_wp2
        refine bodyPost_ret (v := .agg #[.int .i64 2, .string (s.extract p E), .string ⟨#[]⟩, .float .f64 0, .int .i64 0, .int .i64 0, .bool false]) (results_row rfl rfl (setRow_heap _ _ _ _ _ _ T2.out.res) rfl) rfl ?_
        exact ⟨T2.out.kf.setRowNew (Nat.le_refl _) _, by rw [FIN.out]; exact ⟨ov, by rw [strSub]; rfl, T2.out.scn.setRow T2.out.res _⟩⟩
end
end Go.Proofs.YtcgibcjpkhefpaaGreatDoor
namespace Go.Proofs.YtcgibcjpkhefpaaGreatDoor
open Go.RowKit
section
variable {b g : Nat} {s : ByteArray} {lv ov : Value} {p : Nat} {ln : Bool} {opn : List Int} {l : List UInt8}

set_option maxHeartbeats 2000000 in
set_option maxRecDepth 100000 in
theorem token_end (w : World) (hs : s.size ≤ 262144) (hp : p = s.size) (h : Scn b s lv p ln ov opn w) :
    Calls Tryz.prog 57 #[.pointer (some ⟨b, 0, none⟩)] w (TokPost b s lv ln w (.ok (⟨0, [], [], 0⟩, p, opn))) := by
  have hlen : s.data.toList.length = s.size := by simp
  have h0 := h.c0
  have h1 := h.c1
  have f1 := h.fz 1
  have hbl := h.lt
  have HS := Lib.hid h
  clear h
  have hlt : (s.size : Int) ≤ (p : Int) := by omega
  have hd : decide ((s.size : Int) ≤ (p : Int)) = true := by simp; omega
  have hdn : decide (s.size ≤ p) = true := by simp; omega
  have hc := Lx.pk_zero (l := s.data.toList) (p := p) (by omega)
  have HC := Lib.hid hc
  clear hc
  go_enter Tryz.func57, Tryz.ntmps57
  go_wp2_with fail
  refine (peek0 _ (by omega) (by omega) (HS.out.alloc _)).mono ?_
  rintro e w1 ⟨rfl, n1, rfl⟩
  rw [HC.out]
  go_wp2
  go_quiet (fail)
  have HR := Lib.hid (show ((w.alloc (.cells tok0 31)).drewN (n1 + nq)).heap[w.heap.size]? = some (.cells tok0 31 (0, 0)) from heap_alloc_new _ _)
  go_wp2_with (refine wpList_store_row rfl 31 (.tmp 2) (.tmp 22) rfl w.heap.size #[.int .i64 0, .string ⟨#[]⟩, .string ⟨#[]⟩, .float .f64 0, .int .i64 0, .int .i64 0, .bool false] rfl rfl 31 tok0 HR.out size31 rfl (tok_one _ _ _ _ _ _ _) ?_)
  go_wp2
  refine bodyPost_ret (v := tokV ⟨0, [], [], 0⟩ 0 0 false) (results_row rfl rfl (setRow_heap _ _ _ _ _ _ HR.out) rfl) rfl ?_
  exact ⟨(((Kf.refl _ _).alloc _).drewN _).setRowNew (Nat.le_refl _) _, ov, rfl, Scn.setRow ((HS.out.alloc _).drewN _) HR.out _⟩
set_option maxHeartbeats 2000000 in
set_option maxRecDepth 100000 in
theorem token_text34 (w : World) (hs : s.size ≤ 262144) (hp : p < s.size) (h : Scn b s lv p ln ov opn w) (hc : Lx.pk s.data.toList p = 34) :
    Calls Tryz.prog 57 #[.pointer (some ⟨b, 0, none⟩)] w (TokPost b s lv ln w (Lx.text s.data.toList p opn)) := by
  have hlen : s.data.toList.length = s.size := by simp
  have h0 := h.c0
  have h1 := h.c1
  have f1 := h.fz 1
  have hbl := h.lt
  have HS := Lib.hid h
  clear h
  have hlt : (p : Int) < (s.size : Int) := by omega
  have hd : decide ((s.size : Int) ≤ (p : Int)) = false := by simp; omega
  have hdn : decide (s.size ≤ p) = false := by simp; omega
  have HC := Lib.hid hc
  clear hc
  go_enter Tryz.func57, Tryz.ntmps57
  go_wp2_with fail
  refine (peek0 _ (by omega) (by omega) (HS.out.alloc _)).mono ?_
  rintro e w1 ⟨rfl, n1, rfl⟩
  rw [HC.out]
  go_wp2
  go_quiet (fail)
  go_wp2_with fail
  refine (letter_any 34 _).mono ?_
  rintro e w1 ⟨rfl, rfl⟩
  rw [show Lx.isLet 34 = false from by decide]
  go_wp2_with fail
  refine (digit_any 34 _).mono ?_
  rintro e w1 ⟨rfl, rfl⟩
  rw [show Lx.isDig 34 = false from by decide]
  go_wp2_with fail
  refine (text_any _ hs hp ((HS.out.alloc _).drewN _)).mono ?_
  rintro e w2 ⟨hK, hP⟩
  have HK := Lib.hid ((((Kf.refl (Sp b) w).alloc (.cells tok0 31)).drewN _).trans hK)
  have HR := Lib.hid (hK.block w.heap.size (.cells tok0 31 (0, 0)) (heap_alloc_new w _) (fun e => e.2 (by simp [Calm])))
  cases hE : Lx.text s.data.toList p opn with
  | error a =>
    rw [hE] at hP
    have he : e = wrongAt a := hP
    clear hP hK hE
    subst he
    unfold wrongAt
    go_wp2
    exact ⟨rfl, HK.out, rfl⟩
  | ok r2 =>
    obtain ⟨tk, q, opn'⟩ := r2
    rw [hE] at hP
    obtain ⟨ov', he, hS3⟩ := hP
    have HS3 := Lib.hid hS3
    have HE := Lib.hid hE
    clear hS3 hK hE
    subst he
    unfold tokV
    go_wp2_with (refine wpList_store_row rfl 31 (.tmp 2) (.tmp 113) rfl w.heap.size #[.int .i64 tk.kind, .string ⟨tk.text.toArray⟩, .string ⟨tk.str.toArray⟩, .float .f64 tk.num, .int .i64 (0 : Nat), .int .i64 (0 : Nat), .bool false] rfl rfl 31 tok0 HR.out size31 rfl (tok_one _ _ _ _ _ _ _) ?_)
    go_wp2
    refine bodyPost_ret (v := tokV tk 0 0 false) (results_row rfl rfl (setRow_heap _ _ _ _ _ _ HR.out) rfl) rfl ?_
    exact ⟨HK.out.setRowNew (Nat.le_refl _) _, by rw [HE.out]; exact ⟨_, rfl, HS3.out.setRow HR.out _⟩⟩
set_option maxHeartbeats 2000000 in
set_option maxRecDepth 100000 in
theorem token_text39 (w : World) (hs : s.size ≤ 262144) (hp : p < s.size) (h : Scn b s lv p ln ov opn w) (hc : Lx.pk s.data.toList p = 39) :
    Calls Tryz.prog 57 #[.pointer (some ⟨b, 0, none⟩)] w (TokPost b s lv ln w (Lx.text s.data.toList p opn)) := by
  have hlen : s.data.toList.length = s.size := by simp
  have h0 := h.c0
  have h1 := h.c1
  have f1 := h.fz 1
  have hbl := h.lt
  have HS := Lib.hid h
  clear h
  have hlt : (p : Int) < (s.size : Int) := by omega
  have hd : decide ((s.size : Int) ≤ (p : Int)) = false := by simp; omega
  have hdn : decide (s.size ≤ p) = false := by simp; omega
  have HC := Lib.hid hc
  clear hc
  go_enter Tryz.func57, Tryz.ntmps57
  go_wp2_with fail
  refine (peek0 _ (by omega) (by omega) (HS.out.alloc _)).mono ?_
  rintro e w1 ⟨rfl, n1, rfl⟩
  rw [HC.out]
  go_wp2
  go_quiet (fail)
  go_wp2_with fail
  refine (letter_any 39 _).mono ?_
  rintro e w1 ⟨rfl, rfl⟩
  rw [show Lx.isLet 39 = false from by decide]
  go_wp2_with fail
  refine (digit_any 39 _).mono ?_
  rintro e w1 ⟨rfl, rfl⟩
  rw [show Lx.isDig 39 = false from by decide]
  go_wp2_with fail
  refine (text_any _ hs hp ((HS.out.alloc _).drewN _)).mono ?_
  rintro e w2 ⟨hK, hP⟩
  have HK := Lib.hid ((((Kf.refl (Sp b) w).alloc (.cells tok0 31)).drewN _).trans hK)
  have HR := Lib.hid (hK.block w.heap.size (.cells tok0 31 (0, 0)) (heap_alloc_new w _) (fun e => e.2 (by simp [Calm])))
  cases hE : Lx.text s.data.toList p opn with
  | error a =>
    rw [hE] at hP
    have he : e = wrongAt a := hP
    clear hP hK hE
    subst he
    unfold wrongAt
    go_wp2
    exact ⟨rfl, HK.out, rfl⟩
  | ok r2 =>
    obtain ⟨tk, q, opn'⟩ := r2
    rw [hE] at hP
    obtain ⟨ov', he, hS3⟩ := hP
    have HS3 := Lib.hid hS3
    have HE := Lib.hid hE
    clear hS3 hK hE
    subst he
    unfold tokV
    go_wp2_with (refine wpList_store_row rfl 31 (.tmp 2) (.tmp 113) rfl w.heap.size #[.int .i64 tk.kind, .string ⟨tk.text.toArray⟩, .string ⟨tk.str.toArray⟩, .float .f64 tk.num, .int .i64 (0 : Nat), .int .i64 (0 : Nat), .bool false] rfl rfl 31 tok0 HR.out size31 rfl (tok_one _ _ _ _ _ _ _) ?_)
    go_wp2
    refine bodyPost_ret (v := tokV tk 0 0 false) (results_row rfl rfl (setRow_heap _ _ _ _ _ _ HR.out) rfl) rfl ?_
    exact ⟨HK.out.setRowNew (Nat.le_refl _) _, by rw [HE.out]; exact ⟨_, rfl, HS3.out.setRow HR.out _⟩⟩
set_option maxHeartbeats 2000000 in
set_option maxRecDepth 100000 in
theorem token_tmpl (w : World) (hs : s.size ≤ 262144) (hp : p < s.size) (ho : opn.length ≤ 262144) (h : Scn b s lv p ln ov opn w) (hc : Lx.pk s.data.toList p = 96) :
    Calls Tryz.prog 57 #[.pointer (some ⟨b, 0, none⟩)] w (TokPost b s lv ln w (Lx.piece s.data.toList 6 7 p opn)) := by
  have hlen : s.data.toList.length = s.size := by simp
  have h0 := h.c0
  have h1 := h.c1
  have f1 := h.fz 1
  have hbl := h.lt
  have HS := Lib.hid h
  clear h
  have hlt : (p : Int) < (s.size : Int) := by omega
  have hd : decide ((s.size : Int) ≤ (p : Int)) = false := by simp; omega
  have hdn : decide (s.size ≤ p) = false := by simp; omega
  have HC := Lib.hid hc
  clear hc
  go_enter Tryz.func57, Tryz.ntmps57
  go_wp2_with fail
  refine (peek0 _ (by omega) (by omega) (HS.out.alloc _)).mono ?_
  rintro e w1 ⟨rfl, n1, rfl⟩
  rw [HC.out]
  go_wp2
  go_quiet (fail)
  go_wp2_with fail
  refine (letter_any 96 _).mono ?_
  rintro e w1 ⟨rfl, rfl⟩
  rw [show Lx.isLet 96 = false from by decide]
  go_wp2_with fail
  refine (digit_any 96 _).mono ?_
  rintro e w1 ⟨rfl, rfl⟩
  rw [show Lx.isDig 96 = false from by decide]
  go_wp2_with fail
  refine (piece_any 6 7 _ hs hp ho (by decide) (by decide) ((HS.out.alloc _).drewN _)).mono ?_
  rintro e w2 ⟨hK, hP⟩
  have HK := Lib.hid ((((Kf.refl (Sp b) w).alloc (.cells tok0 31)).drewN _).trans hK)
  have HR := Lib.hid (hK.block w.heap.size (.cells tok0 31 (0, 0)) (heap_alloc_new w _) (fun e => e.2 (by simp [Calm])))
  cases hE : Lx.piece s.data.toList 6 7 p opn with
  | error a =>
    rw [hE] at hP
    have he : e = wrongAt a := hP
    clear hP hK hE
    subst he
    unfold wrongAt
    go_wp2
    exact ⟨rfl, HK.out, rfl⟩
  | ok r2 =>
    obtain ⟨tk, q, opn'⟩ := r2
    rw [hE] at hP
    obtain ⟨ov', he, hS3⟩ := hP
    have HS3 := Lib.hid hS3
    have HE := Lib.hid hE
    clear hS3 hK hE
    subst he
    unfold tokV
    go_wp2_with (refine wpList_store_row rfl 31 (.tmp 2) (.tmp 118) rfl w.heap.size #[.int .i64 tk.kind, .string ⟨tk.text.toArray⟩, .string ⟨tk.str.toArray⟩, .float .f64 tk.num, .int .i64 (0 : Nat), .int .i64 (0 : Nat), .bool false] rfl rfl 31 tok0 HR.out size31 rfl (tok_one _ _ _ _ _ _ _) ?_)
    go_wp2
    refine bodyPost_ret (v := tokV tk 0 0 false) (results_row rfl rfl (setRow_heap _ _ _ _ _ _ HR.out) rfl) rfl ?_
    exact ⟨HK.out.setRowNew (Nat.le_refl _) _, by rw [HE.out]; exact ⟨_, rfl, HS3.out.setRow HR.out _⟩⟩
set_option maxHeartbeats 2000000 in
set_option maxRecDepth 100000 in
theorem token_point (w : World) (hs : s.size ≤ 262144) (hp : p < s.size) (ho : OpnOk opn p) (h : Scn b s lv p ln ov opn w) (hL : Lst b g lv w) (hc : Lx.pk s.data.toList p = 46) (hn : Lx.isDig (Lx.pk s.data.toList (p + 1)) = false) :
    Calls Tryz.prog 57 #[.pointer (some ⟨b, 0, none⟩)] w (TokPost b s lv ln w (Lx.sign s.data.toList p opn)) := by
  have HLA := Lib.hid (hL.kf (Kf.of_below (fun _ _ => False) ((Below.refl w.heap.size w).alloc (Nat.le_refl _) (.cells tok0 31))) (fun _ => id))
  clear hL
  have hlen : s.data.toList.length = s.size := by simp
  have h0 := h.c0
  have h1 := h.c1
  have f1 := h.fz 1
  have hbl := h.lt
  have HS := Lib.hid h
  clear h
  have hlt : (p : Int) < (s.size : Int) := by omega
  have hd : decide ((s.size : Int) ≤ (p : Int)) = false := by simp; omega
  have hdn : decide (s.size ≤ p) = false := by simp; omega
  have HN := Lib.hid hn
  have HC := Lib.hid hc
  clear hc hn
  go_enter Tryz.func57, Tryz.ntmps57
  go_wp2_with fail
  refine (peek0 _ (by omega) (by omega) (HS.out.alloc _)).mono ?_
  rintro e w1 ⟨rfl, n1, rfl⟩
  rw [HC.out]
  go_wp2
  go_quiet (fail)
  go_wp2_with fail
  refine (letter_any 46 _).mono ?_
  rintro e w1 ⟨rfl, rfl⟩
  rw [show Lx.isLet 46 = false from by decide]
  go_wp2_with fail
  refine (digit_any 46 _).mono ?_
  rintro e w1 ⟨rfl, rfl⟩
  rw [show Lx.isDig 46 = false from by decide]
  go_wp2_with fail
  refine (peek1 _ (by omega) (by omega) ((HS.out.alloc _).drewN _)).mono ?_
  rintro e w1 ⟨rfl, n2, rfl⟩
  go_wp2_with fail
  refine (digit_any _ _).mono ?_
  rintro e w1 ⟨rfl, rfl⟩
  rw [HN.out]
  go_wp2_with fail
  refine (sign_any _ hs hp ho ((HS.out.alloc _).drewN _) (HLA.out.kf (S := fun _ _ => False) ((Kf.refl _ _).drewN _) (fun _ => id))).mono ?_
  rintro e w2 ⟨hK, hP⟩
  have HK := Lib.hid ((((Kf.refl (Sp b) w).alloc (.cells tok0 31)).drewN _).trans hK)
  have HR := Lib.hid (hK.block w.heap.size (.cells tok0 31 (0, 0)) (heap_alloc_new w _) (fun e => e.2 (by simp [Calm])))
  cases hE : Lx.sign s.data.toList p opn with
  | error a =>
    rw [hE] at hP
    have he : e = wrongAt a := hP
    clear hP hK hE
    subst he
    unfold wrongAt
    go_wp2
    exact ⟨rfl, HK.out, rfl⟩
  | ok r2 =>
    obtain ⟨tk, q, opn'⟩ := r2
    rw [hE] at hP
    obtain ⟨ov', he, hS3⟩ := hP
    have HS3 := Lib.hid hS3
    have HE := Lib.hid hE
    clear hS3 hK hE
    subst he
    unfold tokV
    go_wp2_with (refine wpList_store_row rfl 31 (.tmp 2) (.tmp 120) rfl w.heap.size #[.int .i64 tk.kind, .string ⟨tk.text.toArray⟩, .string ⟨tk.str.toArray⟩, .float .f64 tk.num, .int .i64 (0 : Nat), .int .i64 (0 : Nat), .bool false] rfl rfl 31 tok0 HR.out size31 rfl (tok_one _ _ _ _ _ _ _) ?_)
    go_wp2
    refine bodyPost_ret (v := tokV tk 0 0 false) (results_row rfl rfl (setRow_heap _ _ _ _ _ _ HR.out) rfl) rfl ?_
    exact ⟨HK.out.setRowNew (Nat.le_refl _) _, by rw [HE.out]; exact ⟨_, rfl, HS3.out.setRow HR.out _⟩⟩
set_option maxHeartbeats 2000000 in
set_option maxRecDepth 100000 in
theorem token_sign (w : World) (hs : s.size ≤ 262144) (hp : p < s.size) (ho : OpnOk opn p) (h : Scn b s lv p ln ov opn w) (hL : Lst b g lv w) (hl : Lx.isLet (Lx.pk s.data.toList p) = false) (hg : Lx.isDig (Lx.pk s.data.toList p) = false) (x1 : Lx.pk s.data.toList p ≠ 46) (x2 : Lx.pk s.data.toList p ≠ 34) (x3 : Lx.pk s.data.toList p ≠ 39) (x4 : Lx.pk s.data.toList p ≠ 96) :
    Calls Tryz.prog 57 #[.pointer (some ⟨b, 0, none⟩)] w (TokPost b s lv ln w (Lx.sign s.data.toList p opn)) := by
  have HLA := Lib.hid (hL.kf (Kf.of_below (fun _ _ => False) ((Below.refl w.heap.size w).alloc (Nat.le_refl _) (.cells tok0 31))) (fun _ => id))
  clear hL
  have hlen : s.data.toList.length = s.size := by simp
  have h0 := h.c0
  have h1 := h.c1
  have f1 := h.fz 1
  have hbl := h.lt
  have HS := Lib.hid h
  clear h
  have hlt : (p : Int) < (s.size : Int) := by omega
  have hd : decide ((s.size : Int) ≤ (p : Int)) = false := by simp; omega
  have hdn : decide (s.size ≤ p) = false := by simp; omega
  obtain ⟨c, hc⟩ : ∃ c, Lx.pk s.data.toList p = c := ⟨_, rfl⟩
  rw [hc] at hl hg x1 x2 x3 x4
  have HC := Lib.hid hc
  have HL := Lib.hid hl
  have HD := Lib.hid hg
  have y1 : ((c.toNat : Int) == 46) = false := toNat_ne x1
  have y2 : ((c.toNat : Int) == 34) = false := toNat_ne x2
  have y3 : ((c.toNat : Int) == 39) = false := toNat_ne x3
  have y4 : ((c.toNat : Int) == 96) = false := toNat_ne x4
  clear hc hl hg x1 x2 x3 x4
  go_enter Tryz.func57, Tryz.ntmps57
  go_wp2_with fail
  refine (peek0 _ (by omega) (by omega) (HS.out.alloc _)).mono ?_
  rintro e w1 ⟨rfl, n1, rfl⟩
  rw [HC.out]
  go_wp2
  go_quiet (fail)
  go_wp2_with fail
  refine (letter_any _ _).mono ?_
  rintro e w1 ⟨rfl, rfl⟩
  rw [HL.out]
  go_wp2_with fail
  refine (digit_any _ _).mono ?_
  rintro e w1 ⟨rfl, rfl⟩
  rw [HD.out]
  go_wp2_with fail
  refine (sign_any _ hs hp ho ((HS.out.alloc _).drewN _) (HLA.out.kf (S := fun _ _ => False) ((Kf.refl _ _).drewN _) (fun _ => id))).mono ?_
  rintro e w2 ⟨hK, hP⟩
  have HK := Lib.hid ((((Kf.refl (Sp b) w).alloc (.cells tok0 31)).drewN _).trans hK)
  have HR := Lib.hid (hK.block w.heap.size (.cells tok0 31 (0, 0)) (heap_alloc_new w _) (fun e => e.2 (by simp [Calm])))
  cases hE : Lx.sign s.data.toList p opn with
  | error a =>
    rw [hE] at hP
    have he : e = wrongAt a := hP
    clear hP hK hE
    subst he
    unfold wrongAt
    go_wp2
    exact ⟨rfl, HK.out, rfl⟩
  | ok r2 =>
    obtain ⟨tk, q, opn'⟩ := r2
    rw [hE] at hP
    obtain ⟨ov', he, hS3⟩ := hP
    have HS3 := Lib.hid hS3
    have HE := Lib.hid hE
    clear hS3 hK hE
    subst he
    unfold tokV
    go_wp2_with (refine wpList_store_row rfl 31 (.tmp 2) (.tmp 120) rfl w.heap.size #[.int .i64 tk.kind, .string ⟨tk.text.toArray⟩, .string ⟨tk.str.toArray⟩, .float .f64 tk.num, .int .i64 (0 : Nat), .int .i64 (0 : Nat), .bool false] rfl rfl 31 tok0 HR.out size31 rfl (tok_one _ _ _ _ _ _ _) ?_)
    go_wp2
    refine bodyPost_ret (v := tokV tk 0 0 false) (results_row rfl rfl (setRow_heap _ _ _ _ _ _ HR.out) rfl) rfl ?_
    exact ⟨HK.out.setRowNew (Nat.le_refl _) _, by rw [HE.out]; exact ⟨_, rfl, HS3.out.setRow HR.out _⟩⟩
end
end Go.Proofs.YtcgibcjpkhefpaaGreatDoor

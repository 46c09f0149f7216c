/-
  The walk of the scanner's text: a text literal.
-/
import Derived.Test.YtcgibcjpkhefpaaGreatDoorW6
namespace Go.Proofs.YtcgibcjpkhefpaaGreatDoor
open Go.RowKit
/-- A token as a value. -/
def tokV (tk : Lx.Tk) (frm till : Nat) (ln : Bool) : Value :=
  .agg #[.int .i64 tk.kind, .string ⟨tk.text.toArray⟩, .string ⟨tk.str.toArray⟩, .float .f64 tk.num, .int .i64 frm, .int .i64 till, .bool ln]
/-- Where the scanner at block b stands. -/
def posOf (b : Nat) (w : World) : Nat := match w.cell? ⟨b, 1, none⟩ with | some (.int _ n) => n.toNat | _ => 0
section
variable {b : Nat} {s : ByteArray} {lv ov : Value} {p : Nat} {ln : Bool} {opn : List Int} {B x : Nat} {l : List UInt8}
theorem posOf_scn {w : World} (h : Scn b s lv p ln ov opn w) : posOf b w = p := by simp [posOf, h.c1]
/-- Behind a method that reads a token. -/
def TokPost (b : Nat) (s : ByteArray) (lv : Value) (ln : Bool) (w : World) (r : Lx.TR) (e : Ending) (w' : World) : Prop :=
  Kf (Sp b) w w' ∧ match r with
    | .ok (tk, q, opn') => ∃ ov', e = .returned (tokV tk 0 0 false) ∧ Scn b s lv q ln ov' opn' w'
    | .error a => e = wrongAt a
theorem kf_old {w0 w w' : World} (h0 : Kf (So b) w0 w) (h : Kf (Sx b x) w w') (hx : w0.heap.size ≤ x) : Kf (So b) w0 w' :=
  ⟨h.os.trans h0.os, h.tape.trans h0.tape, h.output.trans h0.output, Nat.le_trans h0.size h.size, fun k o hk hn => by
    have hlt := lt_of_heap hk
    refine h.block k o (h0.block k o hk hn) (fun e => ?_)
    rcases e with e | e | e
    · exact hn e
    · omega
    · omega⟩
/-- A calm block of the caller's own stands behind a call that writes the scanner's, a Builder's, rows of bytes. -/
theorem calm_sx {w w' : World} {k : Nat} {c : Array Value} (h : Kf (Sx b x) w w') (hk : w.heap[k]? = some (.cells c 31 (0, 0))) (h1 : k ≠ b) (h2 : k ≠ x) : w'.heap[k]? = some (.cells c 31 (0, 0)) :=
  h.block k _ hk (fun e => by
    rcases e with e | e | ⟨_, _, _, e⟩
    · exact h1 e
    · exact h2 e
    · injection e with _ e _; exact absurd e (by decide))
def tok0 : Array Value := #[.int .i64 0, .string ⟨#[]⟩, .string ⟨#[]⟩, .float .f64 0, .int .i64 0, .int .i64 0, .bool false]
theorem under31 : (match Tryz.prog.underlying 31 with | some (.struct _) => true | _ => false) = true := by kernel_rfl
theorem size31 : (Tryz.prog.info? 31).map (·.size) = some 7 := by kernel_rfl
theorem results_row {fn : Func} {a : Tmp} (h : fn.results = #[.cell a 31]) {tmps : Array Value} {w : World} {k : Nat} {cs : Array Value} {fr : Nat × Nat} (hk : tmps.getD a undef = .pointer (some ⟨k, 0, none⟩)) (hg : w.heap[k]? = some (.cells cs 31 fr)) (hs : cs.size = 7) :
    (results fn tmps).run Tryz.prog w = .ok (.agg cs) w := by
  obtain ⟨fs, hd⟩ : ∃ fs, Tryz.prog.underlying 31 = some (.struct fs) := by
    have := under31
    cases h : Tryz.prog.underlying 31 with
    | none => rw [h] at this; cases this
    | some d => rw [h] at this; cases d <;> first | exact ⟨_, rfl⟩ | cases this
  have hl := run_loadVar_row (P := Tryz.prog) w k 31 31 cs fr (.struct fs) hg hd rfl (by rw [hs]; exact size31)
  have hk' : tmps[a]?.getD undef = .pointer (some ⟨k, 0, none⟩) := by simpa using hk
  simp [results, h, hk', asAddr, hl]
theorem tok_one (a e f : Int) (c d : ByteArray) (g : Nat) (h : Bool) : (#[.int .i64 a, .string c, .string d, .float .f64 g, .int .i64 e, .int .i64 f, .bool h] : Array Value).all (·.oneCell') = true := by simp [Value.oneCell']
/-- A token's block is written. -/
theorem kf_row {w : World} {k : Nat} {c : Array Value} {fr : Nat × Nat} (h : w.heap[k]? = some (.cells c 31 fr)) (cs : Array Value) : Kf (fun j o => j = k ∧ w.heap[k]? = some o) w (w.setRow k cs) :=
  ⟨rfl, rfl, rfl, by simp [World.setRow], fun j o hj hn => by
    by_cases e : j = k
    · subst e; exact absurd ⟨rfl, hj⟩ hn
    · simp only [World.setRow, Array.getElem?_modify]; rw [if_neg (by omega)]; exact hj⟩
theorem Scn.setRow {w : World} (h : Scn b s lv p ln ov opn w) {k : Nat} {c : Array Value} {fr : Nat × Nat} (hk : w.heap[k]? = some (.cells c 31 fr)) (cs : Array Value) : Scn b s lv p ln ov opn (w.setRow k cs) :=
  h.kf (kf_row hk cs) (fun _ e => by have e := e.2; rw [hk] at e; injection e with e; injection e with _ e _; exact absurd e (by decide)) (fun _ _ _ e => by have e := e.2; rw [hk] at e; injection e with e; injection e with _ e _; exact absurd e (by decide))
theorem Kf.setRowNew {S : Nat → Obj → Prop} {w w1 : World} (h : Kf S w w1) {k : Nat} (hk : w.heap.size ≤ k) (cs : Array Value) : Kf S w (w1.setRow k cs) :=
  ⟨h.os, h.tape, h.output, by simpa [World.setRow] using h.size, fun j o hj hn => by
    have := lt_of_heap hj
    simp only [World.setRow, Array.getElem?_modify]; rw [if_neg (by omega)]; exact h.block j o hj hn⟩
set_option maxHeartbeats 1000000 in
set_option maxRecDepth 100000 in
theorem text_any (w : World) (hs : s.size ≤ 262144) (hp : p < s.size) (h : Scn b s lv p ln ov opn w) :
    Calls Tryz.prog 80 #[.pointer (some ⟨b, 0, none⟩)] w (TokPost b s lv ln w (Lx.text s.data.toList p opn)) := by
  have hlen : s.data.toList.length = s.size := by simp
  have h0 := h.c0
  have h1 := h.c1
  have f1 := h.fz 1
  have hlt : (p : Int) < (s.size : Int) := by omega
  have hbl := h.lt
  have HS := Lib.hid h
  clear h
  obtain ⟨qc, hq⟩ : ∃ qc, Lx.pk s.data.toList p = qc := ⟨_, rfl⟩
  have hix : s[p] = qc := by rw [← hq]; simp [Lx.pk, hp]; rfl
  have HQ := Lib.hid hq
  have HIX := Lib.hid hix
  clear hq hix
  go_enter Tryz.func80, Tryz.ntmps80
  go_wp2
  go_quiet (fail)
  go_wp2
  rw [show s[p] = qc from HIX.out]
  have HG := Lib.hid (rfl : Lx.textGo s.data.toList qc (s.data.toList.length - p) (p + 1) [] = Lx.textGo s.data.toList qc (s.data.toList.length - p) (p + 1) [])
  go_loopw [] (fun wr => ∃ (f q : Nat) (acc : List UInt8), s.size + 1 ≤ f + q ∧ q ≤ s.size ∧ Scn b s lv q ln ov opn wr ∧ Kf (So b) w wr ∧ Bld (w.heap.size + 1) (w.heap.size + 1) acc wr ∧ wr.heap[w.heap.size]? = some (.cells tok0 31 (0, 0)) ∧ acc.length ≤ 4 * q ∧ Lx.textGo s.data.toList qc f q acc = Lx.textGo s.data.toList qc (s.data.toList.length - p) (p + 1) []) (fun wr => s.size - posOf b wr)
  case atStart =>
    refine ⟨s.data.toList.length - p, p + 1, [], by omega, by omega, ?_, ?_, ?_, ?_, by simp, HG.out⟩
    · exact (((HS.out.alloc _).drewN _).setTo (x := (p : Int) + 1) (by omega)).alloc _
    · exact ((((Kf.refl _ _).alloc _).drewN _).setB 1 _).alloc _
    · have := bld_fresh (((w.alloc (.cells tok0 31)).drewN nq).setCell ⟨b, 1, none⟩ (.int .i64 ((p : Int) + 1)))
      rw [show (((w.alloc (.cells tok0 31)).drewN nq).setCell ⟨b, 1, none⟩ (.int .i64 ((p : Int) + 1))).heap.size = w.heap.size + 1 by simp [World.setCell]] at this
      exact this
    · rw [Below.heap_alloc _ _ _ (by simp [World.setCell]), Below.heap_setCell _ _ _ _ (by simp only; omega)]
      exact heap_alloc_new _ _
  case round =>
    obtain ⟨f, q, acc, hf, hqs, hS, hK, hB, hR, hal, hG⟩ := hrel
    obtain ⟨f, rfl⟩ : ∃ f', f = f' + 1 := ⟨f - 1, by omega⟩
    have hbx : b ≠ w.heap.size + 1 := by omega
    have h0 := hS.c0
    have h1 := hS.c1
    have f1 := hS.fz 1
    have hpos := posOf_scn hS
    obtain ⟨c, hc⟩ : ∃ c, Lx.pk s.data.toList q = c := ⟨_, rfl⟩
    have HC := Lib.hid hc
    have HS1 := Lib.hid hS
    have HK1 := Lib.hid hK
    have HB1 := Lib.hid hB
    have HR1 := Lib.hid hR
    have HG1 := Lib.hid hG
    have HP1 := Lib.hid hpos
    clear hS hK hB hR hG hc HG hpos
    by_cases hbad : s.size ≤ q ∨ c = 10 ∨ c = 13
    · have FIN := Lib.hid (show Lx.text s.data.toList p opn = .error p by
        unfold Lx.text
        rw [HQ.out, ← HG1.out]
        simp only [Lx.textGo, HC.out]
        rw [if_pos (by rw [hlen]; exact hbad)])
      by_cases hge : s.size ≤ q
      · have hd : decide (s.size ≤ q) = true := by simp; omega
        clear hbad
        go_wp2_with fail
        refine (peek0 _ (by omega) hqs HS1.out).mono ?_
        rintro e w1 ⟨rfl, n1, rfl⟩
        go_wp2
        go_quiet (fail)
        go_wp2
        exact ⟨rfl, HS.out.so_sp (HK1.out.drewN _), by rw [FIN.out]; rfl⟩
      · have hd : decide (s.size ≤ q) = false := by simp; omega
        by_cases h10 : c = 10
        · subst h10
          clear hbad
          go_wp2_with fail
          refine (peek0 _ (by omega) hqs HS1.out).mono ?_
          rintro e w1 ⟨rfl, n1, rfl⟩
          rw [HC.out]
          go_wp2
          go_quiet (fail)
          go_wp2
          exact ⟨rfl, HS.out.so_sp (HK1.out.drewN _), by rw [FIN.out]; rfl⟩
        · have h13 : c = 13 := by
            rcases hbad with e | e | e
            · omega
            · exact absurd e h10
            · exact e
          subst h13
          clear hbad h10
          go_wp2_with fail
          refine (peek0 _ (by omega) hqs HS1.out).mono ?_
          rintro e w1 ⟨rfl, n1, rfl⟩
          rw [HC.out]
          go_wp2
          go_quiet (fail)
          go_wp2
          exact ⟨rfl, HS.out.so_sp (HK1.out.drewN _), by rw [FIN.out]; rfl⟩
    · have hd : decide (s.size ≤ q) = false := by simp; omega
      have hql : (q : Int) < (s.size : Int) := by omega
      have h10 : ((c.toNat : Int) == 10) = false := toNat_ne (fun e => hbad (Or.inr (Or.inl e)))
      have h13 : ((c.toNat : Int) == 13) = false := toNat_ne (fun e => hbad (Or.inr (Or.inr e)))
      have STEP := Lib.hid (show Lx.textGo s.data.toList qc (f + 1) q acc = if c == qc then some (acc, q + 1) else if c == 92 then (match Lx.escape s.data.toList (q + 1) with | none => none | some (u, p') => Lx.textGo s.data.toList qc f p' (acc ++ u)) else Lx.textGo s.data.toList qc f (Lx.plain s.data.toList q).2 (acc ++ (Lx.plain s.data.toList q).1) by
        simp only [Lx.textGo, HC.out]
        rw [if_neg (by rw [hlen]; exact hbad)]
        rfl)
      clear hbad
      by_cases hcq : c = qc
      · subst hcq
        go_wp2_with fail
        refine (peek0 _ (by omega) hqs HS1.out).mono ?_
        rintro e w1 ⟨rfl, n1, rfl⟩
        rw [HC.out]
        go_wp2
        go_quiet (fail)
        go_wp2_with fail
        refine (bld_end (Bld.setScn (HB1.out.drewN _) (HS1.out.drewN _) 1 _)).mono ?_
        rintro e w1 ⟨rfl, hW⟩
        have hK2 := (kf_builder (b := b) hW.2.1 hW.2.2)
        have hR2 := calm_sx (k := w.heap.size) hK2 (by rw [Below.heap_setCell _ _ _ _ (by simp only; omega)]; exact HR1.out) (by omega) (by omega)
        have HW := Lib.hid hW
        have HK2 := Lib.hid hK2
        have HS2 := Lib.hid (((HS1.out.drewN _).setTo (q := q + 1) (by omega)).wrote (Bld.setScn (HB1.out.drewN _) (HS1.out.drewN _) 1 _) hW.2.2)
        have HK3 := Lib.hid (kf_old ((HK1.out.drewN _).setB 1 _) hK2 (by omega))
        have HR2 := Lib.hid hR2
        have FIN := Lib.hid (show Lx.text s.data.toList p opn = .ok (⟨5, [], acc, 0⟩, q + 1, opn) by
          unfold Lx.text
          rw [HQ.out, ← HG1.out, STEP.out]
          simp)
        clear hW hK2 hR2
        go_wp2_with (refine wpList_store_row rfl 31 (.tmp 2) (.tmp 65) rfl w.heap.size #[.int .i64 5, .string ⟨#[]⟩, .string ⟨acc.toArray⟩, .float .f64 0, .int .i64 0, .int .i64 0, .bool false] rfl rfl 31 tok0 HR2.out size31 rfl (tok_one _ _ _ _ _ _ _) ?_)
        go_wp2
        refine bodyPost_ret (v := tokV ⟨5, [], acc, 0⟩ 0 0 false) (results_row rfl rfl (setRow_heap _ _ _ _ _ _ HR2.out) rfl) rfl ?_
        exact ⟨HS.out.so_sp (HK3.out.setRowNew (Nat.le_refl _) _), by rw [FIN.out]; exact ⟨ov, rfl, HS2.out.setRow HR2.out _⟩⟩
      · by_cases h92 : c = 92
        · subst h92
          have hcqf : ((92 : Int) == (qc.toNat : Int)) = false := toNat_ne hcq
          have HCQ := Lib.hid hcq
          clear hcq
          go_wp2_with fail
          refine (peek0 _ (by omega) hqs HS1.out).mono ?_
          rintro e w1 ⟨rfl, n1, rfl⟩
          rw [HC.out]
          go_wp2
          go_quiet (fail)
          go_wp2_with fail
          refine (esc_any p _ (by omega) (by omega) ((HS1.out.drewN _).setTo (x := (q : Int) + 1) (q := q + 1) (by omega)) (Bld.setScn (HB1.out.drewN _) (HS1.out.drewN _) 1 _) (Nat.le_refl _) (by omega)).mono ?_
          rintro e w1 ⟨hK2, hP⟩
          have HK2 := Lib.hid hK2
          have HK3 := Lib.hid (kf_old ((HK1.out.drewN _).setB 1 _) hK2 (by omega))
          have HR2 := Lib.hid (calm_sx (k := w.heap.size) hK2 (by rw [Below.heap_setCell _ _ _ _ (by simp only; omega)]; exact HR1.out) (by omega) (by omega))
          cases hE : Lx.escape s.data.toList (q + 1) with
          | none =>
            rw [hE] at hP
            have he : e = wrongAt p := hP
            have FIN := Lib.hid (show Lx.text s.data.toList p opn = .error p by
              unfold Lx.text
              rw [HQ.out, ← HG1.out, STEP.out, if_neg (by simpa using HCQ.out), hE]
              rfl)
            clear hP hK2 hE
            subst he
            unfold wrongAt
            go_wp2
            exact ⟨rfl, HS.out.so_sp HK3.out, by rw [FIN.out]; rfl⟩
          | some r =>
            obtain ⟨u, q'⟩ := r
            rw [hE] at hP
            obtain ⟨he, hS3, hB3⟩ := hP
            have hle := Lx.escape_le hE
            rw [hlen] at hle
            have NXT := Lib.hid (show Lx.textGo s.data.toList qc (f + 1) q acc = Lx.textGo s.data.toList qc f q' (acc ++ u) by
              rw [STEP.out, if_neg (by simpa using HCQ.out), hE]
              rfl)
            have HS3 := Lib.hid hS3
            have HB3 := Lib.hid hB3
            clear hS3 hB3 hK2 hE
            subst he
            go_wp2_with fail
            go_roundw
            case rel => exact ⟨f, q', acc ++ u, by omega, hle.2.1, HS3.out, HK3.out, HB3.out, HR2.out, by simp; omega, by rw [← HG1.out, NXT.out]⟩
            case measure => rw [posOf_scn HS3.out, HP1.out]; omega
        · have hc92 : ((c.toNat : Int) == 92) = false := toNat_ne h92
          have hcqf : ((c.toNat : Int) == (qc.toNat : Int)) = false := toNat_ne hcq
          have hle := Lx.plain_le (l := s.data.toList) (p := q) (by omega)
          rw [hlen] at hle
          have NXT := Lib.hid (show Lx.textGo s.data.toList qc (f + 1) q acc = Lx.textGo s.data.toList qc f (Lx.plain s.data.toList q).2 (acc ++ (Lx.plain s.data.toList q).1) by
            rw [STEP.out, if_neg (by simpa using hcq), if_neg (by simpa using h92)])
          clear hcq h92
          go_wp2_with fail
          refine (peek0 _ (by omega) hqs HS1.out).mono ?_
          rintro e w1 ⟨rfl, n1, rfl⟩
          rw [HC.out]
          go_wp2
          go_quiet (fail)
          go_wp2_with fail
          refine (plain_any _ (by omega) (by omega) (HS1.out.drewN _) (HB1.out.drewN _) (Nat.le_refl _) (by omega)).mono ?_
          rintro e w1 ⟨rfl, hK2, hS3, hB3⟩
          have HK3 := Lib.hid (kf_old (HK1.out.drewN _) hK2 (by omega))
          have HR2 := Lib.hid (calm_sx (k := w.heap.size) hK2 HR1.out (by omega) (by omega))
          have HS3 := Lib.hid hS3
          have HB3 := Lib.hid hB3
          clear hS3 hB3 hK2
          go_wp2_with fail
          go_roundw
          case rel => exact ⟨f, (Lx.plain s.data.toList q).2, acc ++ (Lx.plain s.data.toList q).1, by omega, hle.2.1, HS3.out, HK3.out, HB3.out, HR2.out, by simp; omega, by rw [← HG1.out, NXT.out]⟩
          case measure => rw [posOf_scn HS3.out, HP1.out]; omega
end
end Go.Proofs.YtcgibcjpkhefpaaGreatDoor
